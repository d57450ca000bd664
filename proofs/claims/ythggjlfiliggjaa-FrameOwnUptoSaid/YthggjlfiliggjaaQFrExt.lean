/- What the printed Extend, Sum (the program's and the reference's) and copied come to: the register of Crc. -/
import Derived.Test.YthggjlfiliggjaaQFrx
import Derived.Test.YthggjlfiliggjaaCrc
namespace Go.Proofs.Ythggjlfiliggjaa.QFrExt
open Go.RowKit Go.Proofs.Ythggjlfiliggjaa.QFr Go.Proofs.YthggjlfiliggjaaW.PrintWords Go.Proofs.YthggjlfiliggjaaW.PrintLast Go.Proofs.Ythggjlfiliggjaa.Crc
set_option linter.unusedVariables false
set_option linter.unusedSimpArgs false

theorem wrap_up {i : Int} (h0 : -9223372036854775808 ≤ i) (h : i < 9223372036854775807) : wrap64 (i + 1) = i + 1 := by
  unfold wrap64
  omega
theorem bytes_of {l : List Int} (h : ∀ x ∈ l, (Lit.int .u8 x).wf = true) : Bytes l := by
  intro x hx
  have := h x hx
  simp [Lit.wf, IntKind.min, IntKind.max, IntKind.signed, IntKind.bits] at this
  omega
theorem rd_lt {l : List Int} {i : Nat} (h : i < l.length) : rd l (i : Int) = l[i] := by
  simp [rd, List.getD_eq_getElem?_getD, List.getElem?_eq_getElem h]

/-- The program's inner loop. -/
theorem ext_l1 (l : List Int) (L x12 : Int) : ∀ (n k : Nat) (j : Int) (r : BitVec 32), 0 ≤ j → j + n = 8 → n < k →
    frame_Extend.l1 k (V r) l L x12 j = frame_Extend.l0 (k - (n + 1)) (V (Tn n r)) l L (wrap64 (x12 + 1)) := by
  intro n
  induction n with
  | zero =>
    intro k j r h0 hj hk
    obtain ⟨k, rfl⟩ : ∃ m, k = m + 1 := ⟨k - 1, by omega⟩
    simp only [frame_Extend.l1]
    rw [if_neg (by omega)]
    rfl
  | succ n ih =>
    intro k j r h0 hj hk
    obtain ⟨k, rfl⟩ : ∃ m, k = m + 1 := ⟨k - 1, by omega⟩
    simp only [frame_Extend.l1]
    rw [if_pos (by omega), wrap_up (by omega) (by omega)]
    have e : k + 1 - (n + 1 + 1) = k - (n + 1) := by omega
    by_cases h : r.getLsbD 0 = true
    · rw [if_pos ((and_V r).2 h)]
      have e2 : Go.bits .xor .u32 (V r / 2) 3988292384 = V (T r) := by
        have := half_V r
        rw [poly_V]
        show Go.bits .xor .u32 (V r / (2 : Int)) _ = _
        rw [this, xor_V]
        unfold T
        rw [if_pos h]
      rw [e2, ih k (j + 1) (T r) (by omega) (by omega) (by omega), e]
      rfl
    · rw [if_neg (fun h2 => h ((and_V r).1 h2))]
      have e2 : (V r / (2 : Int)) = V (T r) := by
        rw [half_V r]
        unfold T
        rw [if_neg h]
      show frame_Extend.l1 k (V r / (2 : Int)) l L x12 (j + 1) = _
      rw [e2, ih k (j + 1) (T r) (by omega) (by omega) (by omega), e]
      rfl

theorem ext_l0 (l : List Int) (hb : Bytes l) (hl : l.length ≤ 140737488355328) : ∀ (d k i : Nat) (r : BitVec 32), i + d = l.length → 10 * d < k →
    frame_Extend.l0 k (V r) l (l.length : Int) (i : Int) = some (V (~~~ (reg r (l.drop i)))) := by
  intro d
  induction d with
  | zero =>
    intro k i r hi hk
    obtain ⟨k, rfl⟩ : ∃ m, k = m + 1 := ⟨k - 1, by omega⟩
    simp only [frame_Extend.l0]
    rw [if_neg (by omega), not_V, List.drop_of_length_le (by omega)]
    rfl
  | succ d ih =>
    intro k i r hi hk
    obtain ⟨k, rfl⟩ : ∃ m, k = m + 1 := ⟨k - 1, by omega⟩
    have hlt : i < l.length := by omega
    have hc := hb l[i] (List.getElem_mem hlt)
    simp only [frame_Extend.l0]
    rw [if_pos (by omega), if_pos (by omega), if_pos (by omega), rd_lt hlt, xor_byte r l[i] hc.1 hc.2,
      ext_l1 l _ _ 8 k 0 _ (by omega) (by omega) (by omega), wrap_up (by omega) (by omega)]
    have := ih (k - 9) (i + 1) (byte r l[i]) (by omega) (by omega)
    rw [List.drop_eq_getElem_cons hlt, reg_cons]
    exact_mod_cast this

theorem frame_ext (s : BitVec 32) (l : List Int) (hb : Bytes l) (hl : l.length ≤ 140737488355328) (k : Nat) (hk : 10 * l.length < k) :
    frame_Extend.f k (V s) l = some (V (ext s l)) := by
  unfold frame_Extend.f
  rw [not_V]
  have := ext_l0 l hb hl l.length k 0 (~~~ s) (by omega) hk
  simpa [ext] using this
theorem V_zero : (0 : Int) = V 0#32 := by decide
theorem frame_sum (l : List Int) (hb : Bytes l) (hl : l.length ≤ 140737488355328) (k : Nat) (hk : 10 * l.length < k) :
    frame_Sum.f k l = some (V (ext 0#32 l)) := by
  unfold frame_Sum.f
  rw [V_zero, frame_ext 0#32 l hb hl k hk]
  rfl
theorem copied_is (l : List Int) (hl : l.length < 140737488355328) : arborlaw2_copied.f l = some l := by
  unfold arborlaw2_copied.f
  rw [if_pos (by simpa using hl)]
  rfl

/-! ### the reference's -/
theorem ref_turn (a c : BitVec 32) : arborref2_turn.f (V a) (Int.tmod (V c) 2) = some (V (T2 a c)) := by
  unfold arborref2_turn.f T2
  rw [tmod_V a, tmod_V c, tdiv_V a, poly_V, xor_V]
  cases a.getLsbD 0 <;> cases c.getLsbD 0 <;> simp
theorem ref_l1 (l : List Int) (x6 : Int) : ∀ (n k : Nat) (j : Int) (r c : BitVec 32), 0 ≤ j → j + n = 8 → n < k →
    arborref2_Extend.l1 k l (V r) x6 (V c) j = arborref2_Extend.l0 (k - (n + 1)) l (V (U n r c)) (wrap64 (x6 + 1)) := by
  intro n
  induction n with
  | zero =>
    intro k j r c h0 hj hk
    obtain ⟨k, rfl⟩ : ∃ m, k = m + 1 := ⟨k - 1, by omega⟩
    simp only [arborref2_Extend.l1]
    rw [if_neg (by omega)]
    rfl
  | succ n ih =>
    intro k j r c h0 hj hk
    obtain ⟨k, rfl⟩ : ∃ m, k = m + 1 := ⟨k - 1, by omega⟩
    simp only [arborref2_Extend.l1]
    rw [if_pos (by omega), wrap_up (by omega) (by omega), ref_turn]
    simp only [Option.bind_some]
    have e : k + 1 - (n + 1 + 1) = k - (n + 1) := by omega
    have e3 : (Int.tdiv (V c) 2) % (4294967296 : Int) = V (c >>> 1) := tdiv_V c
    rw [e3, ih k (j + 1) (T2 r c) (c >>> 1) (by omega) (by omega) (by omega), e]
    rfl
theorem ref_l0 (l : List Int) (hb : Bytes l) (hl : l.length ≤ 140737488355328) : ∀ (d k i : Nat) (r : BitVec 32), i + d = l.length → 10 * d < k →
    arborref2_Extend.l0 k l (V r) (i : Int) = some (V (~~~ (reg r (l.drop i)))) := by
  intro d
  induction d with
  | zero =>
    intro k i r hi hk
    obtain ⟨k, rfl⟩ : ∃ m, k = m + 1 := ⟨k - 1, by omega⟩
    simp only [arborref2_Extend.l0]
    rw [if_neg (by omega), not_V, List.drop_of_length_le (by omega)]
    rfl
  | succ d ih =>
    intro k i r hi hk
    obtain ⟨k, rfl⟩ : ∃ m, k = m + 1 := ⟨k - 1, by omega⟩
    have hlt : i < l.length := by omega
    have hc := hb l[i] (List.getElem_mem hlt)
    have e : l[i] % (4294967296 : Int) = V (B l[i]) := by rw [V_of _ hc.1 (by omega)]; omega
    simp only [arborref2_Extend.l0]
    rw [if_pos (by omega), if_pos (by omega), rd_lt hlt]
    show arborref2_Extend.l1 k l (V r) i (l[i] % (4294967296 : Int)) 0 = _
    rw [e, ref_l1 l _ 8 k 0 _ _ (by omega) (by omega) (by omega), wrap_up (by omega) (by omega), byte_U r _ hc.1 hc.2]
    have := ih (k - 9) (i + 1) (byte r l[i]) (by omega) (by omega)
    rw [List.drop_eq_getElem_cons hlt, reg_cons]
    exact_mod_cast this
theorem ref_ext (s : BitVec 32) (l : List Int) (hb : Bytes l) (hl : l.length ≤ 140737488355328) (k : Nat) (hk : 10 * l.length < k) :
    arborref2_Extend.f k (V s) l = some (V (ext s l)) := by
  unfold arborref2_Extend.f
  rw [not_V]
  have := ref_l0 l hb hl l.length k 0 (~~~ s) (by omega) hk
  simpa [ext] using this
theorem ref_sum (l : List Int) (hb : Bytes l) (hl : l.length ≤ 140737488355328) (k : Nat) (hk : 10 * l.length < k) :
    arborref2_Sum.f k l = some (V (ext 0#32 l)) := by
  unfold arborref2_Sum.f
  rw [V_zero, ref_ext 0#32 l hb hl k hk]
  rfl
end Go.Proofs.Ythggjlfiliggjaa.QFrExt
