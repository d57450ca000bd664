/- Three texts of one length: the sum of their xor is the xor of their sums. -/
import Derived.Test.YthggjlfiliggjaaQSumsExt
import Derived.Test.YthggjlfiliggjaaQSumsx2
namespace Go.Proofs.Ythggjlfiliggjaa.Pure
open Go.RowKit Go.Proofs.Ythggjlfiliggjaa.QSums Go.Proofs.YthggjlfiliggjaaW.PrintWords Go.Proofs.YthggjlfiliggjaaW.PrintLast Go.Proofs.Ythggjlfiliggjaa.Crc Go.Proofs.Ythggjlfiliggjaa.QSumsExt
set_option linter.unusedVariables false
set_option linter.unusedSimpArgs false

theorem check_holds (k : Nat) (hk : 90 < k) : arborlaw2_check.f k = some true := by
  unfold arborlaw2_check.f
  rw [frame_sum _ (by intro x hx; simp at hx; omega) (by decide) k (by simpa using hk)]
  have e : V (ext 0#32 [49, 50, 51, 52, 53, 54, 55, 56, 57]) = 3421780262 := by decide +kernel
  simp [e]

theorem bytes_take {l : List Int} (h : Bytes l) (n : Nat) : Bytes (l.take n) := fun x hx => h x (List.mem_of_mem_take hx)
theorem xors_snoc (a b : List Int) (i : Nat) (ha : i < a.length) (hb : i < b.length) :
    xors (a.take (i + 1)) (b.take (i + 1)) = xors (a.take i) (b.take i) ++ [Go.bits .xor .u8 a[i] b[i]] := by
  rw [List.take_succ_eq_append_getElem ha, List.take_succ_eq_append_getElem hb]
  unfold xors
  rw [List.zipWith_append (by simp; omega)]
  rfl
theorem xors_len (a b : List Int) (n : Nat) (ha : n ≤ a.length) (hb : n ≤ b.length) : (xors (a.take n) (b.take n)).length = n := by
  simp [xors]
  omega
theorem xors3_snoc (a b c : List Int) (i : Nat) (ha : i < a.length) (hb : i < b.length) (hc : i < c.length) :
    xors (xors (a.take (i + 1)) (b.take (i + 1))) (c.take (i + 1)) = xors (xors (a.take i) (b.take i)) (c.take i) ++ [Go.bits .xor .u8 (Go.bits .xor .u8 a[i] b[i]) c[i]] := by
  rw [xors_snoc a b i ha hb, List.take_succ_eq_append_getElem hc]
  show List.zipWith _ _ _ = _
  rw [List.zipWith_append (by rw [xors_len a b i (by omega) (by omega)]; simp; omega)]
  rfl

theorem xors_l0 (a b c : List Int) (n : Nat) (ha : Bytes a) (hb : Bytes b) (hc : Bytes c) (hn : n ≤ 140737488351232) (hna : n ≤ a.length) (hnb : n ≤ b.length) (hnc : n ≤ c.length) :
    ∀ (d i k : Nat), i + d = n → d + 10 * n + 1 < k → arborlaw2_FrameXors.l0 k a b c (n : Int) (xors (xors (a.take i) (b.take i)) (c.take i)) (i : Int) = some true := by
  intro d
  induction d with
  | zero =>
    intro i k hi hk
    obtain ⟨k, rfl⟩ : ∃ m, k = m + 1 := ⟨k - 1, by omega⟩
    obtain rfl : i = n := by omega
    simp only [arborlaw2_FrameXors.l0]
    have hla : (a.take i).length = i := by simp; omega
    have hlb : (b.take i).length = i := by simp; omega
    have hlc : (c.take i).length = i := by simp; omega
    have hlx := xors_len a b i hna hnb
    have hlx3 : (xors (xors (a.take i) (b.take i)) (c.take i)).length = i := by
      show (List.zipWith _ _ _).length = _
      rw [List.length_zipWith, hlx, hlc]
      omega
    have ba := bytes_take ha i
    have bb := bytes_take hb i
    have bc := bytes_take hc i
    rw [if_neg (by omega), if_pos (by omega), if_pos (by omega), Int.toNat_natCast, copied_is _ (by omega)]
    simp only [Option.bind_some]
    rw [frame_sum _ ba (by omega) _ (by omega)]
    simp only [Option.bind_some]
    rw [if_pos (by omega), copied_is _ (by omega)]
    simp only [Option.bind_some]
    rw [frame_sum _ bb (by omega) _ (by omega)]
    simp only [Option.bind_some]
    rw [if_pos (by omega), copied_is _ (by omega)]
    simp only [Option.bind_some]
    rw [frame_sum _ bc (by omega) _ (by omega)]
    simp only [Option.bind_some]
    rw [frame_sum _ (xors_bytes _ _ (xors_bytes _ _ ba bb) bc) (by omega) _ (by omega)]
    simp only [Option.bind_some]
    rw [xor_V, xor_V, ext_xors _ _ _ (by omega) (by omega) ba bb bc]
    simp
  | succ d ih =>
    intro i k hi hk
    obtain ⟨k, rfl⟩ : ∃ m, k = m + 1 := ⟨k - 1, by omega⟩
    simp only [arborlaw2_FrameXors.l0]
    have h1 := xors_len a b i (by omega) (by omega)
    have hlx3 : (xors (xors (a.take i) (b.take i)) (c.take i)).length = i := by
      show (List.zipWith _ _ _).length = _
      rw [List.length_zipWith, h1, List.length_take]
      omega
    rw [if_pos (by omega), if_pos (by omega), if_pos (by omega), if_pos (by omega), if_pos (by omega), if_pos (by omega),
      rd_lt (show i < a.length by omega), rd_lt (show i < b.length by omega), rd_lt (show i < c.length by omega), wrap_up (by omega) (by omega),
      ← xors3_snoc a b c i (by omega) (by omega) (by omega)]
    exact_mod_cast ih (i + 1) k (by omega) (by omega)

theorem FrameXors : arborlaw2_FrameXors.Pure := by
  intro a b c _ ha ba _ hb bb _ hc bc
  have ba' := bytes_of ba
  have bb' := bytes_of bb
  have bc' := bytes_of bc
  refine ⟨11 * a.length + 100, ?_⟩
  have key : ∀ n : Nat, n ≤ a.length → n ≤ b.length → n ≤ c.length → ∀ k, 11 * n + 1 < k → arborlaw2_FrameXors.l0 k a b c (n : Int) ([] : List Int) 0 = some true := by
    intro n h1 h2 h3 k hk
    have := xors_l0 a b c n ba' bb' bc' (by omega) h1 h2 h3 n 0 k (by omega) (by omega)
    simpa [xors] using this
  have j1 : ∀ n : Nat, n ≤ a.length → n ≤ b.length → n ≤ c.length → ∀ k, 11 * n + 2 < k → arborlaw2_FrameXors.j1 k a b c (n : Int) = some true := by
    intro n h1 h2 h3 k hk
    obtain ⟨k, rfl⟩ : ∃ m, k = m + 1 := ⟨k - 1, by omega⟩
    simp only [arborlaw2_FrameXors.j1]
    exact key n h1 h2 h3 k (by omega)
  have j0 : ∀ n : Nat, n ≤ a.length → n ≤ b.length → ∀ k, 11 * n + 3 < k → arborlaw2_FrameXors.j0 k a b c (n : Int) = some true := by
    intro n h1 h2 k hk
    obtain ⟨k, rfl⟩ : ∃ m, k = m + 1 := ⟨k - 1, by omega⟩
    simp only [arborlaw2_FrameXors.j0]
    by_cases h : (c.length : Int) < (n : Int)
    · rw [if_pos h]
      exact j1 _ (by omega) (by omega) (by omega) k (by omega)
    · rw [if_neg h]
      exact j1 _ (by omega) (by omega) (by omega) k (by omega)
  unfold arborlaw2_FrameXors.f
  rw [check_holds _ (by omega)]
  simp only [Option.bind_some, if_true]
  by_cases h : (b.length : Int) < (a.length : Int)
  · rw [if_pos h]
    exact j0 _ (by omega) (by omega) _ (by omega)
  · rw [if_neg h]
    exact j0 _ (by omega) (by omega) _ (by omega)
end Go.Proofs.Ythggjlfiliggjaa.Pure
