/- The statements on frames as facts on lists: every printed law answers true. -/
import Derived.Test.YthggjlfiliggjaaFrPure
namespace Go.Proofs.Ythggjlfiliggjaa.FrLaws
open Go.RowKit Go.Proofs.Ythggjlfiliggjaa.QFr Go.Proofs.YthggjlfiliggjaaW.PrintWords Go.Proofs.YthggjlfiliggjaaW.PrintLast Go.Proofs.YthggjlfiliggjaaW.PrintMore Go.Proofs.Ythggjlfiliggjaa.Crc Go.Proofs.Ythggjlfiliggjaa.QFrExt Go.Proofs.Ythggjlfiliggjaa.FrPure
set_option linter.unusedVariables false
set_option linter.unusedSimpArgs false

theorem seal_size (kind gen : Int) (body : List Int) (m : Int) (h : ¬ (15 ≤ m ∧ m ≤ 8192)) (k : Nat) : frame_Seal.f k kind gen body m = some ([], 1) := by
  unfold frame_Seal.f
  by_cases h1 : m < 15
  · rw [if_pos h1]
  · rw [if_neg h1, if_pos (by omega)]
theorem seal_long (kind gen : Int) (body : List Int) (m : Int) (h : 15 ≤ m ∧ m ≤ 8192) (hl : (body.length : Int) > m - 15) (k : Nat) : frame_Seal.f k kind gen body m = some ([], 21) := by
  unfold frame_Seal.f
  rw [if_neg (by omega), if_neg (by omega), if_pos hl]
theorem refSeal_size (kind gen : Int) (body : List Int) (m : Int) (h : ¬ (15 ≤ m ∧ m ≤ 8192)) (k : Nat) : arborref2_Seal.f k kind gen body m = some ([], 1) := by
  unfold arborref2_Seal.f
  rw [ref_size, decide_eq_false h]
  rfl
theorem refSeal_long (kind gen : Int) (body : List Int) (m : Int) (h : 15 ≤ m ∧ m ≤ 8192) (hl : (body.length : Int) > m - 15) (k : Nat) : arborref2_Seal.f k kind gen body m = some ([], 21) := by
  unfold arborref2_Seal.f
  rw [ref_size, decide_eq_true h, ref_room m h]
  simp only [Option.bind_some, if_true]
  rw [if_pos hl]
/-- What Seal answers. -/
def sealed (kind gen : Int) (body : List Int) (m : Int) : List Int × Int :=
  if 15 ≤ m ∧ m ≤ 8192 then (if (body.length : Int) > m - 15 then ([], 21) else (framed kind gen body m.toNat, 0)) else ([], 1)
theorem seal_all (kind gen : Int) (body : List Int) (m : Int) (hk : 0 ≤ kind ∧ kind < 256) (hb : Bytes body) (k : Nat) (hkk : 90200 < k) : frame_Seal.f k kind gen body m = some (sealed kind gen body m) := by
  unfold sealed
  by_cases h : 15 ≤ m ∧ m ≤ 8192
  · rw [if_pos h]
    by_cases hl : (body.length : Int) > m - 15
    · rw [if_pos hl, seal_long kind gen body m h hl]
    · rw [if_neg hl]
      obtain ⟨n, rfl⟩ := Int.eq_ofNat_of_zero_le (show 0 ≤ m by omega)
      rw [Int.toNat_natCast]
      exact seal_is kind gen body n hk hb (by omega) (by omega) (by omega) k (by omega)
  · rw [if_neg h, seal_size kind gen body m h]
theorem refSeal_all (kind gen : Int) (body : List Int) (m : Int) (hk : 0 ≤ kind ∧ kind < 256) (hg : 0 ≤ gen ∧ gen < 18446744073709551616) (hb : Bytes body) (k : Nat) (hkk : 90200 < k) : arborref2_Seal.f k kind gen body m = some (sealed kind gen body m) := by
  unfold sealed
  by_cases h : 15 ≤ m ∧ m ≤ 8192
  · rw [if_pos h]
    by_cases hl : (body.length : Int) > m - 15
    · rw [if_pos hl, refSeal_long kind gen body m h hl]
    · rw [if_neg hl]
      obtain ⟨n, rfl⟩ := Int.eq_ofNat_of_zero_le (show 0 ≤ m by omega)
      rw [Int.toNat_natCast]
      exact refSeal_is kind gen body n hk hg hb (by omega) (by omega) (by omega) k (by omega)
  · rw [if_neg h, refSeal_size kind gen body m h]
theorem sealed_len (kind gen : Int) (body : List Int) (m : Int) : (sealed kind gen body m).1.length ≤ 8192 := by
  unfold sealed
  by_cases h : 15 ≤ m ∧ m ≤ 8192
  · rw [if_pos h]
    by_cases hl : (body.length : Int) > m - 15
    · rw [if_pos hl]; simp
    · rw [if_neg hl]
      show (framed _ _ _ _).length ≤ _
      rw [framed_length _ _ _ _ (by omega) (by omega)]
      omega
  · rw [if_neg h]; simp

theorem seals (kind gen : Int) (body : List Int) (m : Int) (hk : 0 ≤ kind ∧ kind < 256) (hg : 0 ≤ gen ∧ gen < 18446744073709551616) (hb : Bytes body) (hl : body.length ≤ 140737488351232) :
    ∃ k, arborlaw2_FrameSeals.f k kind gen body m = some true := by
  refine ⟨100000, ?_⟩
  unfold arborlaw2_FrameSeals.f
  rw [copied_is body (by omega)]
  simp only [Option.bind_some]
  rw [seal_all kind gen body m hk hb _ (by omega), refSeal_all kind gen body m hk hg hb _ (by omega)]
  simp only [Option.bind_some, if_true]
  rw [same_is _ _ (by have := sealed_len kind gen body m; omega) _ (by have := sealed_len kind gen body m; omega)]
  simp

theorem opened_len (l : List Int) : (opened l).2.2.1.length ≤ l.length := by
  unfold opened
  by_cases h : okL l = true
  · rw [if_pos h]
    show (List.take _ _).length ≤ _
    rw [List.length_take, List.length_drop]
    omega
  · rw [if_neg h]; simp

theorem opened_seals (l : List Int) (hb : Bytes l) (h : okL l = true) : sealed (opened l).1 (opened l).2.1 (opened l).2.2.1 (l.length : Int) = (l, 0) := by
  obtain ⟨hf, hbl, hn, h15, h8⟩ := framed_of_ok l hb h
  rw [opened_yes h]
  unfold sealed
  rw [if_pos (by omega), if_neg (by simp only [hbl]; omega), Int.toNat_natCast, hf]
end Go.Proofs.Ythggjlfiliggjaa.FrLaws
