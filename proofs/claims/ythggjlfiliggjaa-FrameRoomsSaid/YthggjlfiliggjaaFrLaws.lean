/- The statements on frames as facts on lists: every printed law answers true. -/
import Derived.Test.YthggjlfiliggjaaFrPure
namespace Go.Proofs.Ythggjlfiliggjaa.FrLaws
open Go.RowKit Go.Proofs.Ythggjlfiliggjaa.QFr Go.Proofs.YthggjlfiliggjaaW.PrintWords Go.Proofs.YthggjlfiliggjaaW.PrintLast Go.Proofs.YthggjlfiliggjaaW.PrintMore Go.Proofs.Ythggjlfiliggjaa.Crc Go.Proofs.Ythggjlfiliggjaa.QFrExt Go.Proofs.Ythggjlfiliggjaa.FrPure
set_option linter.unusedVariables false
set_option linter.unusedSimpArgs false

theorem seal_size (kind gen : Int) (body : List Int) (m : Int) (h : ¬ (15 ≤ m ∧ m ≤ 8192)) (k : Nat) : frame_Seal.f k kind gen body m = some ([], 1) := by
  unfold frame_Seal.f
  by_cases h1 : m < 15
  · rw [if_pos h1]
  · rw [if_neg h1, if_pos (by omega)]
theorem seal_long (kind gen : Int) (body : List Int) (m : Int) (h : 15 ≤ m ∧ m ≤ 8192) (hl : (body.length : Int) > m - 15) (k : Nat) : frame_Seal.f k kind gen body m = some ([], 21) := by
  unfold frame_Seal.f
  rw [if_neg (by omega), if_neg (by omega), if_pos hl]
theorem refSeal_size (kind gen : Int) (body : List Int) (m : Int) (h : ¬ (15 ≤ m ∧ m ≤ 8192)) (k : Nat) : arborref2_Seal.f k kind gen body m = some ([], 1) := by
  unfold arborref2_Seal.f
  rw [ref_size, decide_eq_false h]
  rfl
theorem refSeal_long (kind gen : Int) (body : List Int) (m : Int) (h : 15 ≤ m ∧ m ≤ 8192) (hl : (body.length : Int) > m - 15) (k : Nat) : arborref2_Seal.f k kind gen body m = some ([], 21) := by
  unfold arborref2_Seal.f
  rw [ref_size, decide_eq_true h, ref_room m h]
  simp only [Option.bind_some, if_true]
  rw [if_pos hl]
/-- What Seal answers. -/
def sealed (kind gen : Int) (body : List Int) (m : Int) : List Int × Int :=
  if 15 ≤ m ∧ m ≤ 8192 then (if (body.length : Int) > m - 15 then ([], 21) else (framed kind gen body m.toNat, 0)) else ([], 1)
theorem seal_all (kind gen : Int) (body : List Int) (m : Int) (hk : 0 ≤ kind ∧ kind < 256) (hb : Bytes body) (k : Nat) (hkk : 90200 < k) : frame_Seal.f k kind gen body m = some (sealed kind gen body m) := by
  unfold sealed
  by_cases h : 15 ≤ m ∧ m ≤ 8192
  · rw [if_pos h]
    by_cases hl : (body.length : Int) > m - 15
    · rw [if_pos hl, seal_long kind gen body m h hl]
    · rw [if_neg hl]
      obtain ⟨n, rfl⟩ := Int.eq_ofNat_of_zero_le (show 0 ≤ m by omega)
      rw [Int.toNat_natCast]
      exact seal_is kind gen body n hk hb (by omega) (by omega) (by omega) k (by omega)
  · rw [if_neg h, seal_size kind gen body m h]
theorem refSeal_all (kind gen : Int) (body : List Int) (m : Int) (hk : 0 ≤ kind ∧ kind < 256) (hg : 0 ≤ gen ∧ gen < 18446744073709551616) (hb : Bytes body) (k : Nat) (hkk : 90200 < k) : arborref2_Seal.f k kind gen body m = some (sealed kind gen body m) := by
  unfold sealed
  by_cases h : 15 ≤ m ∧ m ≤ 8192
  · rw [if_pos h]
    by_cases hl : (body.length : Int) > m - 15
    · rw [if_pos hl, refSeal_long kind gen body m h hl]
    · rw [if_neg hl]
      obtain ⟨n, rfl⟩ := Int.eq_ofNat_of_zero_le (show 0 ≤ m by omega)
      rw [Int.toNat_natCast]
      exact refSeal_is kind gen body n hk hg hb (by omega) (by omega) (by omega) k (by omega)
  · rw [if_neg h, refSeal_size kind gen body m h]
theorem sealed_len (kind gen : Int) (body : List Int) (m : Int) : (sealed kind gen body m).1.length ≤ 8192 := by
  unfold sealed
  by_cases h : 15 ≤ m ∧ m ≤ 8192
  · rw [if_pos h]
    by_cases hl : (body.length : Int) > m - 15
    · rw [if_pos hl]; simp
    · rw [if_neg hl]
      show (framed _ _ _ _).length ≤ _
      rw [framed_length _ _ _ _ (by omega) (by omega)]
      omega
  · rw [if_neg h]; simp

theorem seals (kind gen : Int) (body : List Int) (m : Int) (hk : 0 ≤ kind ∧ kind < 256) (hg : 0 ≤ gen ∧ gen < 18446744073709551616) (hb : Bytes body) (hl : body.length ≤ 140737488351232) :
    ∃ k, arborlaw2_FrameSeals.f k kind gen body m = some true := by
  refine ⟨100000, ?_⟩
  unfold arborlaw2_FrameSeals.f
  rw [copied_is body (by omega)]
  simp only [Option.bind_some]
  rw [seal_all kind gen body m hk hb _ (by omega), refSeal_all kind gen body m hk hg hb _ (by omega)]
  simp only [Option.bind_some, if_true]
  rw [same_is _ _ (by have := sealed_len kind gen body m; omega) _ (by have := sealed_len kind gen body m; omega)]
  simp

theorem opened_len (l : List Int) : (opened l).2.2.1.length ≤ l.length := by
  unfold opened
  by_cases h : okL l = true
  · rw [if_pos h]
    show (List.take _ _).length ≤ _
    rw [List.length_take, List.length_drop]
    omega
  · rw [if_neg h]; simp

theorem opens (l : List Int) (hb : Bytes l) (hl : l.length ≤ 140737488351232) : ∃ k, arborlaw2_FrameOpens.f k l = some true := by
  refine ⟨120001 + l.length, ?_⟩
  have := opened_len l
  unfold arborlaw2_FrameOpens.f
  rw [copied_is l (by omega)]
  simp only [Option.bind_some]
  rw [open_is l hb _ (by omega), refOpen_is l hb (by omega) _ (by omega)]
  simp only [Option.bind_some, if_true]
  rw [sameFrame_is _ _ _ _ _ _ (by omega) _ (by omega)]
  simp

/-! ### rounds -/
theorem opened_seals (l : List Int) (hb : Bytes l) (h : okL l = true) : sealed (opened l).1 (opened l).2.1 (opened l).2.2.1 (l.length : Int) = (l, 0) := by
  obtain ⟨hf, hbl, hn, h15, h8⟩ := framed_of_ok l hb h
  rw [opened_yes h]
  unfold sealed
  rw [if_pos (by omega), if_neg (by simp only [hbl]; omega), Int.toNat_natCast, hf]
theorem rounds_j2 (l : List Int) (hb : Bytes l) (hl : l.length ≤ 140737488351232) (k : Nat) (hk : 120002 + l.length < k) : arborlaw2_FrameRounds.j2 k l = some true := by
  obtain ⟨k, rfl⟩ : ∃ q, k = q + 1 := ⟨k - 1, by omega⟩
  simp only [arborlaw2_FrameRounds.j2]
  rw [copied_is l (by omega)]
  simp only [Option.bind_some]
  rw [open_is l hb _ (by omega)]
  simp only [Option.bind_some]
  by_cases h : okL l = true
  · have e : (opened l).2.2.2 = 0 := by rw [opened_yes h]
    have h15 := (framed_of_ok l hb h).2.2.2.1
    have hk0 : 0 ≤ (opened l).1 ∧ (opened l).1 < 256 := by
      rw [opened_yes h]
      show 0 ≤ l.getD 0 0 ∧ l.getD 0 0 < 256
      rw [List.getD_eq_getElem?_getD, List.getElem?_eq_getElem (show 0 < l.length by omega)]
      exact hb l[0] (List.getElem_mem _)
    have hb3 : Bytes (opened l).2.2.1 := by
      rw [opened_yes h]
      exact bytes_take' (bytes_drop hb _) _
    rw [if_pos e, seal_all _ _ _ _ hk0 hb3 _ (by omega), opened_seals l hb h]
    simp only [Option.bind_some, if_true]
    rw [same_is _ _ (by omega) _ (by omega)]
    simp
  · have hn : opened l = (0, 0, [], 20) := opened_no (by simpa using h)
    rw [hn]
    simp
theorem rounds (kind gen : Int) (body : List Int) (m : Int) (l : List Int) (hk : 0 ≤ kind ∧ kind < 256) (hg : 0 ≤ gen ∧ gen < 18446744073709551616) (hb : Bytes body) (hl : body.length ≤ 140737488351232) (hm : -9223372036854775808 ≤ m ∧ m ≤ 9223372036854775807)
    (hbl : Bytes l) (hll : l.length ≤ 140737488351232) : ∃ k, arborlaw2_FrameRounds.f k kind gen body m l = some true := by
  refine ⟨140000 + l.length, ?_⟩
  have hj2 : ∀ k, 120002 + l.length < k → arborlaw2_FrameRounds.j2 k l = some true := fun k hk => rounds_j2 l hbl hll k hk
  have hno : ∀ k, 120010 + l.length < k → arborlaw2_FrameRounds.j0 k m l false kind gen body = some true := by
    intro k hk
    obtain ⟨k, rfl⟩ : ∃ q, k = q + 1 := ⟨k - 1, by omega⟩
    simp only [arborlaw2_FrameRounds.j0]
    rw [if_neg (by simp)]
    exact hj2 k (by omega)
  unfold arborlaw2_FrameRounds.f
  by_cases h15 : m ≥ 15
  case neg => rw [if_neg h15]; exact hno _ (by omega)
  rw [if_pos h15]
  by_cases h8 : m ≤ 8192
  case neg => rw [if_neg h8]; exact hno _ (by omega)
  rw [if_pos h8]
  have e : wrap64 (m - 15) = m - 15 := by unfold wrap64; omega
  rw [e]
  by_cases hle : (body.length : Int) ≤ m - 15
  case neg => rw [decide_eq_false hle]; exact hno _ (by omega)
  rw [decide_eq_true hle]
  obtain ⟨n, rfl⟩ := Int.eq_ofNat_of_zero_le (show 0 ≤ m by omega)
  rw [show 140000 + l.length = (139999 + l.length) + 1 by omega]
  simp only [arborlaw2_FrameRounds.j0]
  rw [if_pos trivial, copied_is body (by omega)]
  simp only [Option.bind_some]
  rw [seal_is kind gen body n hk hb (by omega) (by omega) (by omega) _ (by omega)]
  simp only [Option.bind_some, if_true]
  have hfl := framed_length kind gen body n (by omega) (by omega)
  have e2 : (((framed kind gen body n).length : Int) != (n : Int)) = false := by rw [hfl]; simp
  rw [e2, show 139999 + l.length = (139998 + l.length) + 1 by omega]
  simp only [arborlaw2_FrameRounds.j1]
  rw [if_neg (by simp), open_is _ (framed_bytes kind gen body n hk hb) _ (by omega), opened_framed kind gen body n (by omega) (by omega) (by omega) hg]
  simp only [Option.bind_some, if_true]
  rw [sameFrame_is _ _ _ _ _ _ (by omega) _ (by omega)]
  simp only [Option.bind_some, and_self, decide_true, if_true]
  exact hj2 _ (by omega)

/-! ### the whole -/
theorem whole (kind gen : Int) (body : List Int) (m z : Int) (hk : 0 ≤ kind ∧ kind < 256) (hg : 0 ≤ gen ∧ gen < 18446744073709551616) (hb : Bytes body) (hl : body.length ≤ 140737488351232) :
    ∃ k, arborlaw2_FrameWhole.f k kind gen body m z = some true := by
  have hj1 : ∀ k, 130000 < k → arborlaw2_FrameWhole.j1 k m kind gen body = some true := by
    intro k hkk
    obtain ⟨k, rfl⟩ : ∃ q, k = q + 2 := ⟨k - 2, by omega⟩
    simp only [arborlaw2_FrameWhole.j1]
    rw [ref_size]
    simp only [Option.bind_some]
    by_cases h : 15 ≤ m ∧ m ≤ 8192
    case neg =>
      rw [decide_eq_false h, if_neg (by simp)]
      simp only [arborlaw2_FrameWhole.j2]
      rw [if_pos trivial]
    rw [decide_eq_true h, if_pos rfl, ref_room m h]
    simp only [Option.bind_some, arborlaw2_FrameWhole.j2]
    by_cases hbig : (body.length : Int) > m - 15
    · rw [if_pos (by simpa using hbig)]
    rw [if_neg (by simpa using hbig), copied_is body (by omega)]
    simp only [Option.bind_some]
    obtain ⟨n, rfl⟩ := Int.eq_ofNat_of_zero_le (show 0 ≤ m by omega)
    have hfl := framed_length kind gen body n (by omega) (by omega)
    rw [seal_is kind gen body n hk hb (by omega) (by omega) (by omega) _ (by omega)]
    simp only [Option.bind_some]
    rw [frame_sum _ (framed_bytes kind gen body n hk hb) (by omega) _ (by omega), sum_framed]
    simp
  refine ⟨140000, ?_⟩
  unfold arborlaw2_FrameWhole.f
  have hno : arborlaw2_FrameWhole.j0 140000 m z false kind gen body = some true := by
    rw [show 140000 = 139999 + 1 by omega]
    simp only [arborlaw2_FrameWhole.j0]
    rw [if_neg (by simp)]
    exact hj1 _ (by omega)
  by_cases h0 : z ≥ 0
  case neg => rw [if_neg h0]; exact hno
  rw [if_pos h0]
  by_cases h1 : z ≤ 65536
  case neg => rw [decide_eq_false h1]; exact hno
  rw [decide_eq_true h1, show 140000 = 139999 + 1 by omega]
  simp only [arborlaw2_FrameWhole.j0]
  rw [if_pos trivial, if_pos (by omega), if_pos (by omega), open_is _ (bytes_zeros _) _ (by omega), opened_no (zeros_not_ok _)]
  simp only [Option.bind_some, if_true]
  exact hj1 _ (by omega)

/-! ### bursts -/
/-- What the bits of a run from the place P bits ahead of the end do to the register: n of them, by the bits of x. -/
def runReg (P : Nat) : Nat → Nat → Nat → BitVec 32
  | 0, _, _ => 0#32
  | n + 1, i, x => (if x % 2 = 1 then Tn (P - i) 1#32 else 0#32) ^^^ runReg P n (i + 1) (x / 2)
theorem runReg_Tn (P : Nat) : ∀ (n i x : Nat), i + n ≤ P → i + n ≤ 32 → runReg P n i x = Tn P ((BitVec.ofNat 32 (x % 2 ^ n)) <<< i)
  | 0, i, x, _, _ => by
    simp only [runReg, Nat.pow_zero, Nat.mod_one]
    have e : (BitVec.ofNat 32 0) <<< i = 0#32 := by simp
    rw [e, Tn_zero]
  | n + 1, i, x, hP, h32 => by
    simp only [runReg]
    rw [runReg_Tn P n (i + 1) (x / 2) (by omega) (by omega)]
    have e1 : (if x % 2 = 1 then Tn (P - i) 1#32 else 0#32) = Tn P ((BitVec.ofNat 32 (x % 2)) <<< i) := by
      by_cases h : x % 2 = 1
      · rw [if_pos h, h]
        have h8 : Tn P (1#32 <<< i) = Tn (i + (P - i)) (1#32 <<< i) := congrArg (fun n => Tn n (1#32 <<< i)) (by omega)
        show _ = Tn P (1#32 <<< i)
        rw [h8, Tn_add, Tn_shl i 0 i (Nat.le_refl _) (by omega), Nat.sub_self]
        rfl
      · have h0 : x % 2 = 0 := by omega
        rw [if_neg h, h0]
        have e : (BitVec.ofNat 32 0) <<< i = 0#32 := by simp
        rw [e, Tn_zero]
    rw [e1, ← Tn_xor]
    congr 1
    apply BitVec.eq_of_getLsbD_eq
    intro j hj
    rw [BitVec.getLsbD_xor]
    simp only [BitVec.getLsbD_shiftLeft, BitVec.getLsbD_ofNat, hj, decide_true, Bool.true_and]
    by_cases hji : j < i
    · simp [hji, show j < i + 1 by omega]
    · by_cases hje : j = i
      · subst hje
        simp only [Nat.lt_irrefl, decide_false, Bool.not_false, Bool.true_and, Nat.sub_self, show j < j + 1 by omega, decide_true, Bool.not_true, Bool.false_and, Bool.xor_false, hj]
        rw [Nat.testBit_zero, Nat.testBit_mod_two_pow]
        simp [Nat.testBit_zero]
      · have h1 : ¬ j < i + 1 := by omega
        have h2 : j - i < 32 := by omega
        have h3 : j - (i + 1) < 32 := by omega
        have h4 : j - i = (j - (i + 1)) + 1 := by omega
        simp only [hji, h1, h2, h3, decide_false, decide_true, Bool.not_false, Bool.true_and]
        rw [Nat.testBit_mod_two_pow, Nat.testBit_mod_two_pow, h4]
        have h5 : (x % 2).testBit (j - (i + 1) + 1) = false := by
          rw [Nat.testBit_succ]
          have : x % 2 / 2 = 0 := by omega
          rw [this]
          simp
        rw [h5, Bool.false_xor, Nat.testBit_succ x]
        congr 1
        exact decide_eq_decide.2 (by omega)
theorem run_zero (P n x : Nat) (hP : n ≤ P) (h32 : n ≤ 32) (h : runReg P n 0 x = 0#32) : x % 2 ^ n = 0 := by
  rw [runReg_Tn P n 0 x (by omega) (by omega)] at h
  have h1 := Tn_eq_zero P _ h
  have h2 : BitVec.ofNat 32 (x % 2 ^ n) = 0#32 := by simpa using h1
  have h3 := congrArg BitVec.toNat h2
  rw [BitVec.toNat_ofNat] at h3
  have h4 : x % 2 ^ n < 2 ^ n := Nat.mod_lt _ (Nat.two_pow_pos n)
  have h5 : 2 ^ n ≤ 2 ^ 32 := Nat.pow_le_pow_right (by decide) h32
  rw [Nat.mod_eq_of_lt (Nat.lt_of_lt_of_le h4 h5)] at h3
  simpa using h3
/-- Was any of the first n bits one? -/
def anyOne : Nat → Nat → Bool
  | 0, _ => false
  | n + 1, x => decide (x % 2 = 1) || anyOne n (x / 2)
theorem anyOne_mod : ∀ (n x : Nat), anyOne n x = true ↔ x % 2 ^ n ≠ 0
  | 0, x => by simp [anyOne, Nat.mod_one]
  | n + 1, x => by
    have ih := anyOne_mod n (x / 2)
    simp only [anyOne, Bool.or_eq_true, decide_eq_true_eq, ih]
    have e : x % 2 ^ (n + 1) = x % 2 + 2 * (x / 2 % 2 ^ n) := by
      rw [Nat.pow_succ, Nat.mul_comm, Nat.mod_mul]
    rw [e]
    omega
theorem shl_u8 (s : Nat) (hs : s < 8) : shl .u8 1 (s : Int) = ((2 ^ s : Nat) : Int) := by
  show IntKind.u8.wrap (1 * 2 ^ min ((s : Int)).toNat IntKind.u8.bits) = _
  rw [Int.toNat_natCast, show min s IntKind.u8.bits = s from by show min s 8 = _; omega]
  have h : s = 0 ∨ s = 1 ∨ s = 2 ∨ s = 3 ∨ s = 4 ∨ s = 5 ∨ s = 6 ∨ s = 7 := by omega
  rcases h with rfl | rfl | rfl | rfl | rfl | rfl | rfl | rfl <;> decide
theorem set_bytes {l : List Int} (hl : Bytes l) (q : Nat) (v : Int) (hv : 0 ≤ v ∧ v < 256) : Bytes (l.set q v) := by
  intro x hx
  rcases List.mem_or_eq_of_mem_set hx with h | h
  · exact hl x h
  · subst h; exact hv
theorem bursts_end (m at_ x : Int) (b : List Int) (c : Bool) (i : Int) (hb : Bytes b) (h1 : c = true → okL b = false) (h0 : c = false → okL b = true) (k : Nat) (hk : 90000 < k) :
    arborlaw2_FrameBursts.j4 k m at_ x b c i false = some true := by
  obtain ⟨k, rfl⟩ : ∃ q, k = q + 1 := ⟨k - 1, by omega⟩
  simp only [arborlaw2_FrameBursts.j4]
  rw [if_neg (by simp), open_is b hb k (by omega)]
  simp only [Option.bind_some]
  cases c with
  | true =>
    rw [opened_no (h1 rfl)]
    simp
  | false =>
    have := opened_yes (h0 rfl)
    rw [this]
    simp
theorem bursts_zero (m at_ : Nat) (hm : m ≤ 8192) (hat : at_ < 8 * m) (b0 : List Int) (h0 : okL b0 = true) (i x : Nat) (b : List Int) (c : Bool) (k : Nat) (hi : i = min 32 (8 * m - at_)) (hb : Bytes b) (hc : c = false → b = b0)
    (hX : c = true → chk b ≠ Tn 32 (BitVec.allOnes 32)) (hk : 90010 < k) :
    arborlaw2_FrameBursts.l0 k (m : Int) (at_ : Int) (x : Int) b c (i : Int) = some true := by
  obtain ⟨k, rfl⟩ : ∃ q, k = q + 1 := ⟨k - 1, by omega⟩
  have hend : arborlaw2_FrameBursts.j4 k (m : Int) (at_ : Int) (x : Int) b c (i : Int) false = some true := by
    refine bursts_end _ _ _ _ _ _ hb (fun h => ?_) (fun h => by rw [hc h]; exact h0) k (by omega)
    cases ho : okL b with
    | false => rfl
    | true => exact absurd (chk_of_ok b hb ho) (hX h)
  simp only [arborlaw2_FrameBursts.l0]
  by_cases h32 : (i : Int) < 32
  · have e1 : wrap64 ((at_ : Int) + (i : Int)) = (at_ : Int) + (i : Int) := by unfold wrap64; omega
    have e2 : wrap64 (8 * (m : Int)) = 8 * (m : Int) := by unfold wrap64; omega
    rw [if_pos h32, e1, e2, decide_eq_false (by omega)]
    exact hend
  · rw [if_neg h32]
    exact hend
theorem wrap_small (q : Nat) (h : q ≤ 100000) : wrap64 (q : Int) = (q : Int) := by
  unfold wrap64
  omega
theorem wrap_div8 (n : Nat) (h : n ≤ 100000) : wrap64 (Int.tdiv (n : Int) 8) = ((n / 8 : Nat) : Int) := by
  rw [Int.tdiv_eq_ediv_of_nonneg (by omega), show (n : Int) / 8 = ((n / 8 : Nat) : Int) from by omega]
  exact wrap_small _ (by omega)
theorem tmod2 (x : Nat) : Int.tmod (x : Int) 2 = ((x % 2 : Nat) : Int) := by
  rw [Int.tmod_eq_emod_of_nonneg (by omega)]
  omega
theorem tdiv2 (x : Nat) (hx : x < 4294967296) : (Int.tdiv (x : Int) 2) % (4294967296 : Int) = ((x / 2 : Nat) : Int) := by
  rw [Int.tdiv_eq_ediv_of_nonneg (by omega)]
  omega
theorem tmod8 (n : Nat) : IntKind.u64.wrap (Int.tmod (n : Int) 8) = ((n % 8 : Nat) : Int) := by
  rw [Int.tmod_eq_emod_of_nonneg (by omega), show (n : Int) % 8 = ((n % 8 : Nat) : Int) from by omega, wrap_u64_id _ (by omega) (by omega)]
theorem bursts_step (m at_ : Nat) (hm : m ≤ 8192) (i x : Nat) (b : List Int) (c : Bool) (k : Nat) (hi : i < 32) (hi2 : at_ + i < 8 * m) (hbl : b.length = m) (hb : Bytes b) (hx : x < 4294967296) :
    arborlaw2_FrameBursts.l0 (k + 2) (m : Int) (at_ : Int) (x : Int) b c (i : Int) =
      if x % 2 = 1 then arborlaw2_FrameBursts.l0 k (m : Int) (at_ : Int) ((x / 2 : Nat) : Int) (b.set ((at_ + i) / 8) (Go.bits .xor .u8 (b.getD ((at_ + i) / 8) 0) ((2 ^ ((at_ + i) % 8) : Nat) : Int))) true ((i + 1 : Nat) : Int)
      else arborlaw2_FrameBursts.l0 k (m : Int) (at_ : Int) ((x / 2 : Nat) : Int) b c ((i + 1 : Nat) : Int) := by
  have hq : (at_ + i) / 8 < b.length := by omega
  have hq2 : (((at_ + i) / 8 : Nat) : Int) < (b.length : Int) := Int.ofNat_lt.2 hq
  have hq0 : (0 : Int) ≤ (((at_ + i) / 8 : Nat) : Int) := Int.natCast_nonneg _
  have hs0 : (0 : Int) ≤ (((at_ + i) % 8 : Nat) : Int) := Int.natCast_nonneg _
  have hs8 : (at_ + i) % 8 < 8 := Nat.mod_lt _ (by decide)
  have hi3 : (i : Int) < 32 := by omega
  have hlt : ((at_ + i : Nat) : Int) < 8 * (m : Int) := by omega
  have e1 : wrap64 ((at_ : Int) + (i : Int)) = ((at_ + i : Nat) : Int) := wrap_small (at_ + i) (by omega)
  have e2 : wrap64 (8 * (m : Int)) = 8 * (m : Int) := wrap_small (8 * m) (by omega)
  have e5 : wrap64 ((i : Int) + 1) = ((i + 1 : Nat) : Int) := wrap_small (i + 1) (by omega)
  have e6 : wrap64 (Int.tdiv ((at_ + i : Nat) : Int) 8) = (((at_ + i) / 8 : Nat) : Int) := wrap_div8 (at_ + i) (by omega)
  have e3 := tmod2 x
  have e4 := tdiv2 x hx
  have e7 := tmod8 (at_ + i)
  simp only [arborlaw2_FrameBursts.l0]
  rw [if_pos hi3, e1, e2, decide_eq_true hlt]
  simp only [arborlaw2_FrameBursts.j4]
  rw [if_pos trivial, e3]
  by_cases h1 : x % 2 = 1
  · rw [if_pos h1, h1, if_pos (by rfl), e1, e6, e7, if_pos hq0, if_pos hq2, if_pos hs0, Int.toNat_natCast, shl_u8 _ hs8, e5]
    have hr : rd b (((at_ + i) / 8 : Nat) : Int) = b.getD ((at_ + i) / 8) 0 := by unfold rd; rw [Int.toNat_natCast]
    rw [hr]
    exact congrArg (fun z => arborlaw2_FrameBursts.l0 k (m : Int) (at_ : Int) z (b.set ((at_ + i) / 8) (Go.bits .xor .u8 (b.getD ((at_ + i) / 8) 0) ((2 ^ ((at_ + i) % 8) : Nat) : Int))) true ((i + 1 : Nat) : Int)) e4
  · have h00 : x % 2 = 0 := (Nat.mod_two_eq_zero_or_one x).resolve_right h1
    rw [if_neg h1, h00, if_neg (by decide), e5]
    exact congrArg (fun z => arborlaw2_FrameBursts.l0 k (m : Int) (at_ : Int) z b c ((i + 1 : Nat) : Int)) e4
theorem flip_bit (m at_ i : Nat) (b : List Int) (hbl : b.length = m) (hb : Bytes b) (hi2 : at_ + i < 8 * m) :
    Bytes (b.set ((at_ + i) / 8) (Go.bits .xor .u8 (b.getD ((at_ + i) / 8) 0) ((2 ^ ((at_ + i) % 8) : Nat) : Int))) ∧
      chk (b.set ((at_ + i) / 8) (Go.bits .xor .u8 (b.getD ((at_ + i) / 8) 0) ((2 ^ ((at_ + i) % 8) : Nat) : Int))) = chk b ^^^ Tn (8 * m - at_ - i) 1#32 := by
  have hq : (at_ + i) / 8 < b.length := by omega
  have hg : b.getD ((at_ + i) / 8) 0 = b[(at_ + i) / 8] := by simp [List.getD_eq_getElem?_getD, List.getElem?_eq_getElem hq]
  rw [hg]
  have hby := hb b[(at_ + i) / 8] (List.getElem_mem hq)
  have hs : (at_ + i) % 8 < 8 := Nat.mod_lt _ (by decide)
  have h2s : (2 : Nat) ^ ((at_ + i) % 8) < 256 := by
    have : (2 : Nat) ^ ((at_ + i) % 8) ≤ 2 ^ 7 := Nat.pow_le_pow_right (by decide) (by omega)
    omega
  have h2i : ((2 ^ ((at_ + i) % 8) : Nat) : Int) < 256 := by revert h2s; generalize 2 ^ ((at_ + i) % 8) = p; intro h; omega
  have hxu := xor_u8 b[(at_ + i) / 8] ((2 ^ ((at_ + i) % 8) : Nat) : Int) hby.1 hby.2 (Int.natCast_nonneg _) h2i
  have hflip := reg_flip b hb ((at_ + i) / 8) ((at_ + i) % 8) hq hs (~~~ 0#32)
  refine ⟨set_bytes hb _ _ hxu.2, ?_⟩
  have e8 : 8 * (b.length - (at_ + i) / 8) - (at_ + i) % 8 = 8 * m - at_ - i := by rw [hbl]; omega
  rw [e8] at hflip
  exact hflip
theorem bursts_l0 (m at_ : Nat) (hm : m ≤ 8192) (hat : at_ < 8 * m) (b0 : List Int) (h0 : okL b0 = true) (rem : Nat) : ∀ (i x : Nat) (b : List Int) (c : Bool) (k : Nat), i + rem = min 32 (8 * m - at_) → b.length = m → Bytes b → x < 4294967296 → (c = false → b = b0) →
    ((c || anyOne rem x) = true → chk b ^^^ runReg (8 * m - at_) rem i x ≠ Tn 32 (BitVec.allOnes 32)) → 90010 + 2 * rem < k →
    arborlaw2_FrameBursts.l0 k (m : Int) (at_ : Int) (x : Int) b c (i : Int) = some true := by
  induction rem with
  | zero =>
    intro i x b c k hi hbl hb hx hc hX hk
    refine bursts_zero m at_ hm hat b0 h0 i x b c k (by omega) hb hc (fun h => ?_) (by omega)
    have h2 := hX (by rw [h]; rfl)
    simp only [runReg, BitVec.xor_zero] at h2
    exact h2
  | succ rem ih =>
    intro i x b c k hi hbl hb hx hc hX hk
    obtain ⟨k, rfl⟩ : ∃ q, k = q + 2 := ⟨k - 2, by omega⟩
    rw [bursts_step m at_ hm i x b c k (by omega) (by omega) hbl hb hx]
    by_cases h1 : x % 2 = 1
    · rw [if_pos h1]
      obtain ⟨hfb, hfc⟩ := flip_bit m at_ i b hbl hb (by omega)
      refine ih (i + 1) (x / 2) _ true k (by omega) (by rw [List.length_set]; exact hbl) hfb (by omega) (fun h => by cases h) (fun _ => ?_) (by omega)
      have h9 := hX (by simp only [anyOne, h1, decide_true, Bool.true_or, Bool.or_true])
      simp only [runReg, h1, if_true] at h9
      rw [hfc, BitVec.xor_assoc]
      exact h9
    · have h00 : x % 2 = 0 := by omega
      rw [if_neg h1]
      refine ih (i + 1) (x / 2) b c k (by omega) hbl hb (by omega) hc (fun hcc => ?_) (by omega)
      have h9 := hX (by simp only [anyOne, h00]; simpa using hcc)
      simp only [runReg, h00] at h9
      simpa using h9
theorem bursts (kind gen : Int) (body : List Int) (m at_ x : Int) (hk : 0 ≤ kind ∧ kind < 256) (hg : 0 ≤ gen ∧ gen < 18446744073709551616) (hb : Bytes body) (hl : body.length ≤ 140737488351232) (hx : 0 ≤ x ∧ x < 4294967296) :
    ∃ k, arborlaw2_FrameBursts.f k kind gen body m at_ x = some true := by
  refine ⟨200003, ?_⟩
  unfold arborlaw2_FrameBursts.f
  rw [ref_size]
  simp only [Option.bind_some]
  by_cases h : 15 ≤ m ∧ m ≤ 8192
  case neg =>
    rw [decide_eq_false h, if_neg (by simp), show 200003 = 200002 + 1 from rfl]
    simp only [arborlaw2_FrameBursts.j0]
    rw [if_pos trivial]
  rw [decide_eq_true h, if_pos rfl, ref_room m h]
  simp only [Option.bind_some]
  rw [show 200003 = 200002 + 1 from rfl]
  simp only [arborlaw2_FrameBursts.j0]
  by_cases hbig : (body.length : Int) > m - 15
  · rw [if_pos (by simpa using hbig)]
  rw [if_neg (by simpa using hbig), copied_is body (by omega)]
  simp only [Option.bind_some]
  obtain ⟨n, rfl⟩ := Int.eq_ofNat_of_zero_le (show 0 ≤ m by omega)
  have hfl := framed_length kind gen body n (by omega) (by omega)
  have hfb := framed_bytes kind gen body n hk hb
  have hok := okL_framed kind gen body n (by omega) (by omega) (by omega)
  rw [seal_is kind gen body n hk hb (by omega) (by omega) (by omega) _ (by omega)]
  simp only [Option.bind_some, if_true]
  have e2 : (((framed kind gen body n).length : Int) != (n : Int)) = false := by rw [hfl]; simp
  rw [e2, show 200002 = 200001 + 1 from rfl]
  simp only [arborlaw2_FrameBursts.j1]
  rw [if_neg (by simp), copied_is _ (by omega)]
  simp only [Option.bind_some]
  rw [open_is _ hfb _ (by omega), opened_framed kind gen body n (by omega) (by omega) (by omega) hg]
  simp only [Option.bind_some, if_true]
  have hyes : arborlaw2_FrameBursts.j2 200001 (n : Int) at_ x (framed kind gen body n) true = some true := by
    rw [show 200001 = 200000 + 1 from rfl]
    simp only [arborlaw2_FrameBursts.j2]
    rw [if_pos trivial]
  by_cases hneg : at_ < 0
  · rw [if_pos hneg]
    exact hyes
  rw [if_neg hneg]
  have e8 : wrap64 (8 * (n : Int)) = 8 * (n : Int) := by unfold wrap64; omega
  rw [e8]
  by_cases hge : at_ ≥ 8 * (n : Int)
  · rw [decide_eq_true hge]
    exact hyes
  rw [decide_eq_false hge, show 200001 = 200000 + 1 from rfl]
  simp only [arborlaw2_FrameBursts.j2]
  rw [if_neg (by simp)]
  obtain ⟨a, rfl⟩ := Int.eq_ofNat_of_zero_le (show 0 ≤ at_ by omega)
  obtain ⟨y, rfl⟩ := Int.eq_ofNat_of_zero_le hx.1
  refine bursts_l0 n a (by omega) (by omega) _ hok (min 32 (8 * n - a)) 0 y _ false 200000 (by omega) hfl hfb (by omega) (fun _ => rfl) (fun hany => ?_) (by omega)
  rw [Bool.false_or, anyOne_mod] at hany
  rw [chk_framed]
  intro he
  apply hany
  refine run_zero (8 * n - a) _ y (by omega) (by omega) ?_
  have := congrArg (fun v => Tn 32 (BitVec.allOnes 32) ^^^ v) he
  simpa [← BitVec.xor_assoc] using this
end Go.Proofs.Ythggjlfiliggjaa.FrLaws
