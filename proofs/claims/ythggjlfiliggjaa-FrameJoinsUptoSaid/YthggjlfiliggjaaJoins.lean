/- The sum of a text in pieces is the sum of the whole, for pieces that together are short enough to be laid behind each other. -/
import Derived.Test.YthggjlfiliggjaaQSumsExt
import Derived.Test.YthggjlfiliggjaaQSumsx3
import Derived.Test.YthggjlfiliggjaaPureFrameXors
namespace Go.Proofs.Ythggjlfiliggjaa.Joins
open Go.RowKit Go.Proofs.Ythggjlfiliggjaa.QSums Go.Proofs.YthggjlfiliggjaaW.PrintWords Go.Proofs.YthggjlfiliggjaaW.PrintLast Go.Proofs.Ythggjlfiliggjaa.Crc Go.Proofs.Ythggjlfiliggjaa.QSumsExt
set_option linter.unusedVariables false
set_option linter.unusedSimpArgs false

theorem flat_len : ∀ (l : List (List Int)), (l.flatten).length = (l.map List.length).sum
  | [] => rfl
  | a :: l => by simp [flat_len l]
theorem le_flat {l : List (List Int)} {p : List Int} (h : p ∈ l) : p.length ≤ l.flatten.length := by
  rw [flat_len]
  exact List.single_le_sum_nat h
where
  List.single_le_sum_nat {l : List (List Int)} {p : List Int} (h : p ∈ l) : p.length ≤ (l.map List.length).sum := by
    induction l with
    | nil => cases h
    | cons a l ih =>
      rcases List.mem_cons.1 h with rfl | h
      · simp
      · have := ih h
        simp
        omega
theorem rd_L (l : List (List Int)) (i : Nat) (hi : i < l.length) : rd_L1 l (i : Int) = l[i] := by
  simp [rd_L1, List.getD_eq_getElem?_getD, List.getElem?_eq_getElem hi]

theorem joins_l0 (l : List (List Int)) (hb : ∀ p ∈ l, Bytes p) (hs : l.flatten.length ≤ 2000000) (hn : l.length ≤ 2000000) : ∀ (d k i : Nat), i + d = l.length → d + 20000010 < k →
    arborlaw2_FrameJoins.l0 k l (l.take i).flatten (V (ext 0#32 (l.take i).flatten)) (i : Int) = some true := by
  have hfb : ∀ i, Bytes (l.take i).flatten := by
    intro i x hx
    obtain ⟨p, hp, hx⟩ := List.mem_flatten.1 hx
    exact hb p (List.mem_of_mem_take hp) x hx
  have hfl : ∀ i, (l.take i).flatten.length ≤ 2000000 := by
    intro i
    have : l.flatten = (l.take i).flatten ++ (l.drop i).flatten := by rw [← List.flatten_append, List.take_append_drop]
    have h2 := congrArg List.length this
    rw [List.length_append] at h2
    omega
  intro d
  induction d with
  | zero =>
    intro k i hi hk
    obtain ⟨k, rfl⟩ : ∃ m, k = m + 1 := ⟨k - 1, by omega⟩
    simp only [arborlaw2_FrameJoins.l0]
    rw [if_neg (by omega), frame_sum _ (hfb i) (by have := hfl i; omega) k (by have := hfl i; omega)]
    simp
  | succ d ih =>
    intro k i hi hk
    obtain ⟨k, rfl⟩ : ∃ m, k = m + 1 := ⟨k - 1, by omega⟩
    have hil : i < l.length := by omega
    have hp := hb l[i] (List.getElem_mem hil)
    have hpl := le_flat (List.getElem_mem hil)
    have h1 := hfl i
    simp only [arborlaw2_FrameJoins.l0]
    rw [if_pos (by omega), if_pos (by omega), rd_L l i hil, if_pos (by omega), copied_is _ (by omega)]
    simp only [Option.bind_some]
    rw [frame_ext _ _ hp (by omega) k (by omega), wrap_up (by omega) (by omega)]
    simp only [Option.bind_some]
    have e : (l.take i).flatten ++ l[i] = (l.take (i + 1)).flatten := by
      rw [List.take_succ_eq_append_getElem hil, List.flatten_append]
      simp
    rw [← ext_append, e]
    exact ih k (i + 1) (by omega) (by omega)
theorem joins (l : List (List Int)) (hb : ∀ p ∈ l, Bytes p) (hs : l.flatten.length ≤ 2000000) (hn : l.length ≤ 2000000) : ∃ k, arborlaw2_FrameJoins.f k l = some true := by
  obtain ⟨k, hk⟩ : ∃ k, l.length + 20000020 < k := ⟨_, Nat.lt_succ_self _⟩
  refine ⟨k, ?_⟩
  unfold arborlaw2_FrameJoins.f
  rw [Pure.check_holds k (by omega)]
  simp only [Option.bind_some, if_true]
  rw [frame_sum [] (fun x hx => by cases hx) (by simp) k (by simp; omega)]
  simp only [Option.bind_some]
  exact joins_l0 l hb hs hn l.length k 0 (by omega) (by omega)
theorem bulk_len (l : List (List Int)) : (l.map (fun xs => (xs.map (fun _ => 1)).sum + 1)).sum = l.flatten.length + l.length := by
  have h1 : ∀ xs : List Int, (xs.map (fun _ => 1)).sum = xs.length := by
    intro xs
    induction xs with
    | nil => rfl
    | cons x xs ih => simp [ih]; omega
  induction l with
  | nil => rfl
  | cons a l ih =>
    show (a.map (fun _ => 1)).sum + 1 + (l.map (fun xs => (xs.map (fun _ => 1)).sum + 1)).sum = _
    rw [ih, h1, List.flatten_cons, List.length_append, List.length_cons]
    omega
end Go.Proofs.Ythggjlfiliggjaa.Joins
