/- What FrameOwn's callees do, said of lists: the calls of a walk. -/
import Derived.Test.YthggjlfiliggjaaOwn2
import Derived.Test.YthggjlfiliggjaaQOwnx2
namespace Go.Proofs.Ythggjlfiliggjaa.Own
open Go.RowKit Go.Proofs.Ythggjlfiliggjaa.QFr Go.Proofs.YthggjlfiliggjaaW.PrintWords Go.Proofs.YthggjlfiliggjaaW.PrintLast Go.Proofs.YthggjlfiliggjaaW.PrintMore Go.Proofs.Ythggjlfiliggjaa.Crc Go.Proofs.Ythggjlfiliggjaa.QFrExt Go.Proofs.Ythggjlfiliggjaa.FrPure Go.Proofs.Ythggjlfiliggjaa.FrLaws
set_option linter.unusedVariables false
set_option linter.unusedSimpArgs false

/-- A list of bytes that is read in W. -/
structure RD (W : World) (A : Option Addr) (n c : Nat) (l : List Int) : Prop where
  cc : Kd.C (Kd.int .u8) W A n l
  le : n ≤ c
theorem RD.len {W : World} {A : Option Addr} {n c : Nat} {l : List Int} (h : RD W A n c l) : l.length = n := Kd.C_len h.cc
theorem RD.below {W W1 : World} {A : Option Addr} {n c : Nat} {l : List Int} (h : RD W A n c l) (hb : Below W.heap.size W W1) : RD W1 A n c l := ⟨Kd.C_below h.cc hb, h.le⟩
/-- A row of the call's own, and no other block. -/
abbrev OR (W : World) (base : Nat) (v : Value) (l : List Int) : Prop := Kd.R (Kd.int .u8) 5 W base (fun k => some k = v.ownBlock) v l
theorem OR.rd {W : World} {base n c : Nat} {A : Option Addr} {l : List Int} (h : OR W base (.slice A n c) l) : RD W A n c l := by
  obtain ⟨h1, h2, h3⟩ := Kd.R_reads' h
  rw [← h1] at h3
  exact ⟨h3, h2⟩
theorem new_row {W W1 : World} {v : Value} {l : List Int} {ok : Nat → Prop} (h : Kd.R (Kd.int .u8) 5 W1 W.heap.size ok v l) : ∃ A c, v = .slice A l.length c ∧ OR W1 W.heap.size (.slice A l.length c) l := by
  obtain ⟨A, c, rfl⟩ := Kd.R_slice h
  exact ⟨A, c, rfl, Kd.R_tight rfl h⟩

section
variable {W : World} {A : Option Addr} {n c : Nat} {l : List Int}
theorem c_seal (h : RD W A n c l) (hb : Bytes l) (kind gen size : Int) (hk : 0 ≤ kind ∧ kind < 256) : Calls Try.prog 20 #[.agg #[.int .u8 kind, .int .u64 gen, .slice A n c], .int .i64 size] W fun e w' =>
    ∃ A1 n1 c1, e = .returned (.tuple #[.slice A1 n1 c1, .int .i64 (sealed kind gen l size).2]) ∧ OR w' W.heap.size (.slice A1 n1 c1) (sealed kind gen l size).1 ∧ Below W.heap.size W w' := by
  have h1 := frame_Seal.calls 90201 kind gen A c l size (sealed kind gen l size).1 (sealed kind gen l size).2 W (by rw [h.len]; exact h.cc) (by rw [h.len]; exact h.le) (seal_all kind gen l size hk hb 90201 (by omega))
  rw [h.len] at h1
  refine h1.mono ?_
  rintro e w' ⟨v, rfl, hr, hbl⟩
  obtain ⟨A1, c1, rfl, ho⟩ := new_row hr
  exact ⟨A1, _, c1, rfl, ho, hbl⟩
theorem c_refSeal (h : RD W A n c l) (hb : Bytes l) (kind gen size : Int) (hk : 0 ≤ kind ∧ kind < 256) (hg : 0 ≤ gen ∧ gen < 18446744073709551616) : Calls Try.prog 21 #[.agg #[.int .u8 kind, .int .u64 gen, .slice A n c], .int .i64 size] W fun e w' =>
    ∃ A1 n1 c1, e = .returned (.tuple #[.slice A1 n1 c1, .int .i64 (sealed kind gen l size).2]) ∧ OR w' W.heap.size (.slice A1 n1 c1) (sealed kind gen l size).1 ∧ Below W.heap.size W w' := by
  have h1 := arborref2_Seal.calls 90201 kind gen A c l size (sealed kind gen l size).1 (sealed kind gen l size).2 W (by rw [h.len]; exact h.cc) (by rw [h.len]; exact h.le) (refSeal_all kind gen l size hk hg hb 90201 (by omega))
  rw [h.len] at h1
  refine h1.mono ?_
  rintro e w' ⟨v, rfl, hr, hbl⟩
  obtain ⟨A1, c1, rfl, ho⟩ := new_row hr
  exact ⟨A1, _, c1, rfl, ho, hbl⟩
theorem c_open (h : RD W A n c l) (hb : Bytes l) : Calls Try.prog 23 #[.slice A n c] W fun e w' =>
    ∃ A1 n1 c1, e = .returned (.tuple #[.agg #[.int .u8 (opened l).1, .int .u64 (opened l).2.1, .slice A1 n1 c1], .int .i64 (opened l).2.2.2]) ∧ OR w' W.heap.size (.slice A1 n1 c1) (opened l).2.2.1 ∧ Below W.heap.size W w' := by
  have h1 := frame_Open.calls 81931 A c l _ _ _ _ W (by rw [h.len]; exact h.cc) (by rw [h.len]; exact h.le) (open_is l hb 81931 (by omega))
  rw [h.len] at h1
  refine h1.mono ?_
  rintro e w' ⟨v, rfl, hr, hbl⟩
  obtain ⟨A1, c1, rfl, ho⟩ := new_row hr
  exact ⟨A1, _, c1, rfl, ho, hbl⟩
theorem c_refOpen (h : RD W A n c l) (hb : Bytes l) (hl : n ≤ 140737488355328) : Calls Try.prog 24 #[.slice A n c] W fun e w' =>
    ∃ A1 n1 c1, e = .returned (.tuple #[.agg #[.int .u8 (opened l).1, .int .u64 (opened l).2.1, .slice A1 n1 c1], .int .i64 (opened l).2.2.2]) ∧ OR w' W.heap.size (.slice A1 n1 c1) (opened l).2.2.1 ∧ Below W.heap.size W w' := by
  have h1 := arborref2_Open.calls 120001 A c l _ _ _ _ W (by rw [h.len]; exact h.cc) (by rw [h.len]; exact h.le) (refOpen_is l hb (by rw [h.len]; exact hl) 120001 (by omega))
  rw [h.len] at h1
  refine h1.mono ?_
  rintro e w' ⟨v, rfl, hr, hbl⟩
  obtain ⟨A1, c1, rfl, ho⟩ := new_row hr
  exact ⟨A1, _, c1, rfl, ho, hbl⟩
theorem c_copied (h : RD W A n c l) (hl : n < 140737488355328) : Calls Try.prog 15 #[.slice A n c] W fun e w' =>
    ∃ A1 c1, e = .returned (.slice A1 n c1) ∧ OR w' W.heap.size (.slice A1 n c1) l ∧ Below W.heap.size W w' := by
  have h1 := arborlaw2_copied.calls A c l l W (by rw [h.len]; exact h.cc) (by rw [h.len]; exact h.le) (copied_is l (by rw [h.len]; exact hl))
  rw [h.len] at h1
  refine h1.mono ?_
  rintro e w' ⟨v, rfl, hr, hbl⟩
  obtain ⟨A1, c1, rfl, ho⟩ := new_row hr
  rw [h.len] at ho ⊢
  exact ⟨A1, c1, rfl, ho, hbl⟩
theorem c_sum (h : RD W A n c l) (hb : Bytes l) (hl : n ≤ 140737488355328) : Calls Try.prog 17 #[.slice A n c] W fun e w' => e = .returned (.int .u32 (V (ext 0#32 l))) ∧ Drawn0 W w' := by
  have h1 := frame_Sum.calls _ A c l _ W (by rw [h.len]; exact h.cc) (by rw [h.len]; exact h.le) (frame_sum l hb (by rw [h.len]; exact hl) (10 * l.length + 1) (by omega))
  rwa [h.len] at h1
theorem c_refSum (h : RD W A n c l) (hb : Bytes l) (hl : n ≤ 140737488355328) : Calls Try.prog 18 #[.slice A n c] W fun e w' => e = .returned (.int .u32 (V (ext 0#32 l))) ∧ Drawn0 W w' := by
  have h1 := arborref2_Sum.calls _ A c l _ W (by rw [h.len]; exact h.cc) (by rw [h.len]; exact h.le) (ref_sum l hb (by rw [h.len]; exact hl) (10 * l.length + 1) (by omega))
  rwa [h.len] at h1
theorem V_seven : (7 : Int) = V 7#32 := by decide
theorem c_ext (h : RD W A n c l) (hb : Bytes l) (hl : n ≤ 140737488355328) : Calls Try.prog 14 #[.int .u32 7, .slice A n c] W fun e w' => e = .returned (.int .u32 (V (ext 7#32 l))) ∧ Drawn0 W w' := by
  have h1 := frame_Extend.calls _ (V 7#32) A c l _ W (by rw [h.len]; exact h.cc) (by rw [h.len]; exact h.le) (frame_ext 7#32 l hb (by rw [h.len]; exact hl) (10 * l.length + 1) (by omega))
  rwa [h.len, ← V_seven] at h1
theorem c_refExt (h : RD W A n c l) (hb : Bytes l) (hl : n ≤ 140737488355328) : Calls Try.prog 16 #[.int .u32 7, .slice A n c] W fun e w' => e = .returned (.int .u32 (V (ext 7#32 l))) ∧ Drawn0 W w' := by
  have h1 := arborref2_Extend.calls _ (V 7#32) A c l _ W (by rw [h.len]; exact h.cc) (by rw [h.len]; exact h.le) (ref_ext 7#32 l hb (by rw [h.len]; exact hl) (10 * l.length + 1) (by omega))
  rwa [h.len, ← V_seven] at h1
variable {A' : Option Addr} {n' c' : Nat}
/-- Equal lists are the same. -/
theorem c_same (h : RD W A n c l) (h' : RD W A' n' c' l) (hl : n ≤ 140737488355328) : Calls Try.prog 22 #[.slice A n c, .slice A' n' c'] W fun e w' => e = .returned (.bool true) ∧ Drawn0 W w' := by
  have hs := same_is l l (by rw [h.len]; exact hl) (l.length + 1) (by omega)
  rw [decide_eq_true rfl] at hs
  have h1 := arborlaw2_same.calls _ A c l A' c' l true W (by rw [h.len]; exact h.cc) (by rw [h.len]; exact h.le) (by rw [h'.len]; exact h'.cc) (by rw [h'.len]; exact h'.le) hs
  rw [h.len] at h1
  have hn : n = n' := h.len.symm.trans h'.len
  subst hn
  exact h1
theorem c_sameFrame (h : RD W A n c l) (h' : RD W A' n' c' l) (hl : n ≤ 140737488355328) (kind gen : Int) : Calls Try.prog 25 #[.agg #[.int .u8 kind, .int .u64 gen, .slice A n c], .agg #[.int .u8 kind, .int .u64 gen, .slice A' n' c']] W fun e w' => e = .returned (.bool true) ∧ Below W.heap.size W w' := by
  have hs := sameFrame_is kind gen l kind gen l (by rw [h.len]; exact hl) (l.length + 1) (by omega)
  rw [decide_eq_true ⟨rfl, rfl, rfl⟩] at hs
  have h1 := arborlaw2_sameFrame.calls _ kind gen A c l kind gen A' c' l true W (by rw [h.len]; exact h.cc) (by rw [h.len]; exact h.le) (by rw [h'.len]; exact h'.cc) (by rw [h'.len]; exact h'.le) hs
  rw [h.len] at h1
  have hn : n = n' := h.len.symm.trans h'.len
  subst hn
  exact h1
end

/-! ### untouched, still -/
theorem rd_app_lt {l t : List Int} {i : Nat} (h : i < l.length) : rd (l ++ t) (i : Int) = rd l (i : Int) := by
  simp [rd, List.getElem?_append_left h]
theorem rd_app_ge {l : List Int} {i n : Nat} (m : Int) (h : l.length ≤ i) (h2 : i < l.length + n) : rd (l ++ List.replicate n m) (i : Int) = m := by
  simp only [rd, Int.toNat_natCast]
  rw [List.getD_eq_getElem?_getD, List.getElem?_append_right h, List.getElem?_replicate]
  rw [if_pos (by omega)]
  rfl
theorem untouched_l0 (l : List Int) (hl : l.length ≤ 140737488355000) : ∀ (d k i : Nat), i + d = l.length + 8 → d < k → QOwn.arborlaw2_untouched.l0 k (l ++ List.replicate 8 165) l (i : Int) = some true
  | 0, k, i, hi, hk => by
    obtain ⟨k, rfl⟩ : ∃ q, k = q + 1 := ⟨k - 1, by omega⟩
    rw [QOwn.arborlaw2_untouched.l0, if_neg (by rw [List.length_append, List.length_replicate]; omega)]
  | d + 1, k, i, hi, hk => by
    obtain ⟨k, rfl⟩ : ∃ q, k = q + 1 := ⟨k - 1, by omega⟩
    have ih := untouched_l0 l hl d k (i + 1) (by omega) (by omega)
    have hw : wrap64 ((i : Int) + 1) = ((i + 1 : Nat) : Int) := by rw [wrap_up (by omega) (by omega)]; omega
    rw [QOwn.arborlaw2_untouched.l0, if_pos (by rw [List.length_append, List.length_replicate]; omega)]
    by_cases h : i < l.length
    · rw [if_pos (by omega), if_pos (by omega), if_pos (rd_app_lt h), if_neg (by omega), hw, ih]
    · rw [if_neg (by omega), if_pos (by omega), if_pos (by omega), if_pos (rd_app_ge 165 (by omega) (by omega)), hw, ih]
theorem c_untouched {W : World} {A A' : Option Addr} {n n' c c' : Nat} {l : List Int} (h : RD W A n c (l ++ List.replicate 8 165)) (h' : RD W A' n' c' l) (hl : n' ≤ 140737488355000) : Calls Try.prog 31 #[.slice A n c, .slice A' n' c'] W fun e w' => e = .returned (.bool true) ∧ Drawn0 W w' := by
  have hs : QOwn.arborlaw2_untouched.f (l.length + 9) (l ++ List.replicate 8 165) l = some true := untouched_l0 l (by rw [h'.len]; exact hl) (l.length + 8) _ 0 (by omega) (by omega)
  have h1 := QOwn.arborlaw2_untouched.calls _ A c _ A' c' l true W (by rw [h.len]; exact h.cc) (by rw [h.len]; exact h.le) (by rw [h'.len]; exact h'.cc) (by rw [h'.len]; exact h'.le) hs
  rwa [h.len, h'.len] at h1
theorem same_own : ∀ (k : Nat) (a b : List Int) (i : Int), QOwn.arborlaw2_same.l0 k a b i = arborlaw2_same.l0 k a b i
  | 0, a, b, i => by rw [QOwn.arborlaw2_same.l0, arborlaw2_same.l0]
  | k + 1, a, b, i => by
    rw [QOwn.arborlaw2_same.l0, arborlaw2_same.l0]
    simp only [same_own k]
theorem same_own_f (k : Nat) (a b : List Int) : QOwn.arborlaw2_same.f k a b = arborlaw2_same.f k a b := by
  unfold QOwn.arborlaw2_same.f arborlaw2_same.f
  simp only [same_own]
/-- A list as it was left. -/
def Stays (x : QOwn.S60) : Prop := x.f0 = x.f1.take x.f0.length ∧ x.f0.length ≤ x.f1.length ∧ x.f2 = x.f1 ∧ x.f1.length ≤ 8388608
theorem still_l0 (hs : List QOwn.S60) (hh : ∀ x ∈ hs, Stays x) (hl : hs.length ≤ 140737488355000) : ∀ (d k i : Nat), i + d = hs.length → d + 8388612 < k → QOwn.arborlaw2_still.l0 k hs (i : Int) = some true
  | 0, k, i, hi, hk => by
    obtain ⟨k, rfl⟩ : ∃ q, k = q + 1 := ⟨k - 1, by omega⟩
    rw [QOwn.arborlaw2_still.l0, if_neg (by omega)]
  | d + 1, k, i, hi, hk => by
    obtain ⟨k, rfl⟩ : ∃ q, k = q + 1 := ⟨k - 1, by omega⟩
    have ih := still_l0 hs hh hl d k (i + 1) (by omega) (by omega)
    have hw : wrap64 ((i : Int) + 1) = ((i + 1 : Nat) : Int) := by rw [wrap_up (by omega) (by omega)]; omega
    have hil : i < hs.length := by omega
    have hx : QOwn.rd_T60 hs (i : Int) = hs[i] := by
      unfold QOwn.rd_T60
      rw [Int.toNat_natCast, List.getD_eq_getElem?_getD, List.getElem?_eq_getElem hil]
      rfl
    obtain ⟨h1, h2, h3, h4⟩ := hh _ (List.getElem_mem hil)
    have e1 : arborlaw2_same.f k (hs[i]).f0 ((hs[i]).f1.take (hs[i]).f0.length) = some true := by
      rw [← h1, same_is _ _ (by omega) k (by omega), decide_eq_true rfl]
    have e2 : arborlaw2_same.f k (hs[i]).f2 (hs[i]).f1 = some true := by
      rw [h3, same_is _ _ (by omega) k (by omega), decide_eq_true rfl]
    rw [QOwn.arborlaw2_still.l0, if_pos (by omega), if_pos (by omega), hx, if_pos (by omega), if_pos (by omega), same_own_f, same_own_f, Int.toNat_natCast, e1, Option.bind_some, if_pos rfl, e2, Option.bind_some, if_pos rfl, hw, ih]
theorem c_still {W : World} {A : Option Addr} {n c : Nat} {hs : List QOwn.S60} (h : Kd.C QOwn.k60 W A n hs) (hc : n ≤ c) (hh : ∀ x ∈ hs, Stays x) (hl : n ≤ 140737488355000) : Calls Try.prog 32 #[.slice A n c] W fun e w' => e = .returned (.bool true) ∧ Below W.heap.size W w' := by
  have hn := Kd.C_len h
  have hs1 : QOwn.arborlaw2_still.f (hs.length + 8388613) hs = some true := still_l0 hs hh (by omega) hs.length _ 0 (by omega) (by omega)
  have h1 := QOwn.arborlaw2_still.calls _ A c hs true W (by rw [hn]; exact h) (by omega) hs1
  rwa [hn] at h1
theorem stays_hold (n : Nat) (m : Int) (mo : List Int) (hn : n ≤ 4194304) (hmo : mo.length = 64) : Stays ⟨List.replicate n m, List.replicate n m ++ mo, List.replicate n m ++ mo⟩ := by
  refine ⟨?_, ?_, rfl, ?_⟩
  · simp only [List.length_replicate]
    rw [List.take_left' (List.length_replicate ..)]
  · simp
  · simp only [List.length_append, List.length_replicate, hmo]
    omega
theorem sealed_bytes (kind gen : Int) (l : List Int) (m : Int) (hk : 0 ≤ kind ∧ kind < 256) (hb : Bytes l) : Bytes (sealed kind gen l m).1 := by
  unfold sealed
  split
  · split
    · intro x hx; simp at hx
    · exact framed_bytes _ _ _ _ hk hb
  · intro x hx; simp at hx
theorem opened_bytes (l : List Int) (hb : Bytes l) : Bytes (opened l).2.2.1 := by
  unfold opened
  split
  · exact fun x hx => hb x (List.mem_of_mem_drop (List.mem_of_mem_take hx))
  · intro x hx; simp at hx
end Go.Proofs.Ythggjlfiliggjaa.Own
