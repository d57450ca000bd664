/- By hand: FrameOwn (answers are new memory, arguments are left alone, step by step). -/
import Derived.Test.YthggjlfiliggjaaOwnT
namespace Go.Proofs.Ythggjlfiliggjaa.Own
open Go.RowKit Go.Proofs.Ythggjlfiliggjaa.QFr Go.Proofs.YthggjlfiliggjaaW.PrintWords Go.Proofs.YthggjlfiliggjaaW.PrintLast Go.Proofs.YthggjlfiliggjaaW.PrintMore Go.Proofs.Ythggjlfiliggjaa.Crc Go.Proofs.Ythggjlfiliggjaa.QFrExt Go.Proofs.Ythggjlfiliggjaa.FrPure Go.Proofs.Ythggjlfiliggjaa.FrLaws
set_option linter.unusedVariables false
set_option linter.unusedSimpArgs false

def own8.T : Bool × List (List Nat × List Nat) := (true, [([], []), ([], []), ([0, 1], [0, 1]), ([2], [2]), ([3], [3]), ([4], [4]), ([], []), ([], []), ([6, 7], [6, 7]), ([8], [8]), ([9], [9]), ([10], [10]), ([], []), ([5, 11, 12], [5, 11, 12]), ([], []), ([], []), ([14, 15], [14, 15]), ([16], [16]), ([17], [17]), ([13, 18], [13, 18]), ([19], [19]), ([20], [20]), ([20], [20]), ([21, 19, 0, 1, 2, 3, 4, 5, 6, 7, 8, 9, 10, 11, 12, 13, 14, 15, 16, 17, 18, 19, 20, 21], [21]), ([22, 23, 0, 1, 2, 3, 4, 5, 6, 7, 8, 9, 10, 11, 12, 13, 14, 15, 16, 17, 18, 19, 20, 21, 22, 23], [22])])
def own8.B : List Nat := [0, 0, 3, 7, 15, 31, 0, 0, 192, 448, 960, 1984, 0, 8191, 0, 0, 49152, 114688, 245760, 524287, 1048575, 2097151, 2097151, 4194303, 16777215]
theorem own8.tab : rtab .any (opsOf Try.f13 8) = own8.T := by kernel_rfl
theorem own8.bits : waitsOk own8.T.2 own8.B = true := by kernel_rfl
def own9.T : Bool × List (List Nat × List Nat) := (true, [([], []), ([], []), ([0, 1], [0, 1]), ([2], [2]), ([3], [3]), ([], []), ([], []), ([5, 6], [5, 6]), ([7], [7]), ([8], [8]), ([4, 9], [4, 9]), ([10], [10]), ([11], [11]), ([11], [11]), ([12, 10, 0, 1, 2, 3, 4, 5, 6, 7, 8, 9, 10, 11, 12], [12]), ([13, 14, 0, 1, 2, 3, 4, 5, 6, 7, 8, 9, 10, 11, 12, 13, 14], [13])])
def own9.B : List Nat := [0, 0, 3, 7, 15, 0, 0, 96, 224, 480, 1023, 2047, 4095, 4095, 8191, 32767]
theorem own9.tab : rtab .any (opsOf Try.f13 9) = own9.T := by kernel_rfl
theorem own9.bits : waitsOk own9.T.2 own9.B = true := by kernel_rfl
def own21.T : Bool × List (List Nat × List Nat) := (true, [([], []), ([], []), ([], []), ([2], [2]), ([3], [3]), ([4], [4]), ([1, 5], [1, 5]), ([], []), ([7], [7]), ([], []), ([9], [9]), ([10], [10]), ([11], [11]), ([8, 12, 6], [8, 12]), ([6, 13], [6, 13]), ([0, 14, 13], [0, 14]), ([15, 15, 0, 1, 2, 3, 4, 5, 6, 7, 8, 9, 10, 11, 12, 13, 14, 15], [0, 15])])
def own21.B : List Nat := [0, 0, 0, 4, 12, 28, 62, 0, 128, 0, 512, 1536, 3584, 8190, 16382, 32767, 65535]
theorem arborlaw2_FrameOwn.tab21 : rtab .any (opsOf Try.f13 21) = own21.T := by kernel_rfl
theorem arborlaw2_FrameOwn.bits21 : waitsOk own21.T.2 own21.B = true := by kernel_rfl
theorem own21.tab : rtab .any (opsOf Try.f13 21) = own21.T := by kernel_rfl
theorem own21.bits : waitsOk own21.T.2 own21.B = true := by kernel_rfl
theorem to_or {W : World} {base g n c : Nat} {l : List Int} (h : Kd.R (Kd.int .u8) 5 W base (fun k => k = g) (.slice (some ⟨g, 0, none⟩) n c) l) : OR W base (.slice (some ⟨g, 0, none⟩) n c) l := Kd.R_tight rfl h
theorem RS.of {w : World} {s0 : Nat} {v3 : Value} {hs : List QOwn.S60} {rows : List (Value × List Int)} {bx : List (Nat × Array Value)} {W : World} (h : RS w s0 v3 hs rows bx W) (i : Nat) {A : Option Addr} {n c : Nat} {l : List Int} (hi : rows[i]? = some (.slice A n c, l)) : RD W A n c l := (h.row _ (List.mem_of_getElem? hi)).rd
structure ITEM (W : World) (ad : Addr) (i : Nat) (kind gen size : Int) (A2 : Option Addr) (nb c2 : Nat) : Prop where
  c0 : W.cell? (ad.add (i * 4)) = some (.int .u8 kind)
  c1 : W.cell? ⟨(ad.add (i * 4)).block, (ad.add (i * 4)).off + 1, none⟩ = some (.int .u64 gen)
  c2 : W.cell? ⟨(ad.add (i * 4)).block, (ad.add (i * 4)).off + 2, none⟩ = some (.slice A2 nb c2)
  c3 : W.cell? ⟨(ad.add (i * 4)).block, (ad.add (i * 4)).off + 3, none⟩ = some (.int .i64 size)
theorem ITEM.below {w W : World} {ad : Addr} {i : Nat} {kind gen size : Int} {A2 : Option Addr} {nb c2 : Nat} (h : ITEM w ad i kind gen size A2 nb c2) (hb : Below w.heap.size w W) : ITEM W ad i kind gen size A2 nb c2 :=
  ⟨(hb.cell (World.block_lt_of_cell? w _ h.c0)).trans h.c0, (hb.cell (World.block_lt_of_cell? w _ h.c1)).trans h.c1, (hb.cell (World.block_lt_of_cell? w _ h.c2)).trans h.c2, (hb.cell (World.block_lt_of_cell? w _ h.c3)).trans h.c3⟩
theorem RS.still {w : World} {s0 : Nat} {Ah : Option Addr} {m ch : Nat} {hs : List QOwn.S60} {rows : List (Value × List Int)} {bx : List (Nat × Array Value)} {W : World} (h : RS w s0 (.slice Ah m ch) hs rows bx W) (hh : ∀ x ∈ hs, Stays x) (hm : m ≤ 140737488355000) : Calls Try.prog 32 #[.slice Ah m ch] W fun e w' => e = .returned (.bool true) ∧ Below W.heap.size W w' := by
  obtain ⟨h1, h2, h3⟩ := Kd.R_reads' h.held
  rw [← h1] at h3
  exact c_still h3 h2 hh hm
theorem c_spare {W : World} {A : Option Addr} {n c : Nat} {l : List Int} (h : RD W A n c l) (hl : n ≤ 4194304) : Calls Try.prog 30 #[.slice A n c] W fun e w' => ∃ (g cap : Nat), e = .returned (.tuple #[.slice (some ⟨g, 0, none⟩) n cap, .slice (some ⟨g, 0, none⟩) (n + 8) cap]) ∧
      Kd.R (Kd.int .u8) 5 w' W.heap.size (fun k => k = g) (.slice (some ⟨g, 0, none⟩) (n + 8) cap) (l ++ List.replicate 8 165) ∧ n + 8 ≤ cap ∧ Below W.heap.size W w' := by
  have hn := h.len
  subst hn
  refine (spare A c l W h.cc h.le hl).mono ?_
  rintro e w' ⟨g, cap, rfl, hr, hc, _, hb⟩
  exact ⟨g, cap, rfl, hr, hc, hb⟩
theorem cut_row {W : World} {base g n m c : Nat} {l t : List Int} {ok : Nat → Prop} (h : Kd.R (Kd.int .u8) 5 W base ok (.slice (some ⟨g, 0, none⟩) m c) (l ++ t)) (hn : l.length = n) : RD W (some ⟨g, 0, none⟩) n c l := by
  subst hn
  exact take_row h
theorem RS.cut {w : World} {s0 : Nat} {v3 : Value} {hs : List QOwn.S60} {rows : List (Value × List Int)} {bx : List (Nat × Array Value)} {W : World} (h : RS w s0 v3 hs rows bx W) (i : Nat) {g m c n : Nat} {l t : List Int} (hi : rows[i]? = some (.slice (some ⟨g, 0, none⟩) m c, l ++ t)) (hn : l.length = n) : RD W (some ⟨g, 0, none⟩) n c l := cut_row (h.row _ (List.mem_of_getElem? hi)) hn
theorem RS.bx {w : World} {s0 : Nat} {v3 : Value} {hs : List QOwn.S60} {rows : List (Value × List Int)} {bx : List (Nat × Array Value)} {W : World} (h : RS w s0 v3 hs rows bx W) (i : Nat) {g : Nat} {cs : Array Value} (hi : bx[i]? = some (g, cs)) : W.heap[g]? = some (.cells cs 35 (0, 0)) := (h.box _ (List.mem_of_getElem? hi)).1

set_option maxHeartbeats 16000000 in
set_option maxRecDepth 100000 in
theorem frameOwn {w : World} {A : Option Addr} {n c : Nat} {xs : List ((Int × Int × List Int) × Int)} (h : Kd.C kI w A n xs) (hc : n ≤ c) (hn : n ≤ 1048576) (hok : ∀ x ∈ xs, ItemOk x) :
    Calls Try.prog 13 #[.slice A n c] w fun e w' => e = .returned (.bool true) ∧ Below w.heap.size w w' := by
  have hu60 := Try.underlying60
  have hu57 := Try.underlying57
  have hu35 := Try.underlying35
  have HC := Aside0.mk h
  have HOKS := Aside0.mk hok
  clear h hok
  go_enter Try.func13, Try.ntmps13
  go_wp2_with (go_at_call 29; go_must (refine (calm HC.out hc hn HOKS.out).mono ?_; rintro e w1 ⟨rfl, hb⟩; have HB := Aside0.mk hb; clear hb))
  go_loopg [3, 4] (n + 1) (fun kq v3 v4 w' => ∃ (i : Nat) (hs : List QOwn.S60), v4 = .int .i64 (i : Int) ∧ Aside0 (i ≤ n) ∧ Aside0 (i + kq = n + 1) ∧ Aside0 (hs.length = 2 * i) ∧ Aside0 (∀ x ∈ hs, Stays x) ∧ Aside0 (Kd.R QOwn.k60 60 w' w.heap.size (fun _ => True) v3 hs) ∧ Aside0 (Below w.heap.size w w'))
  case atStart => exact ⟨0, [], rfl, ⟨by omega⟩, ⟨by omega⟩, ⟨rfl⟩, ⟨fun x hx => by simp at hx⟩, ⟨Kd.R_nil _ _ _ _ _⟩, HB⟩
  case round =>
    obtain ⟨i, hs, rfl, HI, HIK, HHL, HHS, HH, HBX⟩ := hrel
    clear HB
    by_cases hi : i < n
    · have hi2 : (i : Int) < (n : Int) := by omega
      have hi3 : decide ((i : Int) < (n : Int)) = true := decide_eq_true hi2
      have HI2 := Aside0.mk hi
      obtain ⟨Ah, ch, eh⟩ := Kd.R_slice HH.out
      rw [HHL.out] at eh
      subst eh
      have S0 := RS.start HH.out HBX.out
      obtain ⟨s0, hs0⟩ : ∃ s, s = wr.heap.size := ⟨_, rfl⟩
      rw [← hs0] at S0
      clear HH HBX hs0
      obtain ⟨ad, A2, c2, kind, gen, size, body, nb, e, hx, hnb, hx0, hx1, hx2, hx3, hrd⟩ := at_item HC.out i (by omega)
      subst hnb
      cases e
      have hq := (S0.bel.cell (World.block_lt_of_cell? w _ hx2)).trans hx2
      have HX : ITEM w ad i kind gen size A2 body.length c2 := ⟨hx0, hx1, hx2, hx3⟩
      have HRD := Aside0.mk hrd
      have HIO := Aside0.mk (HOKS.out _ (List.mem_of_getElem? hx))
      obtain ⟨sl, se, hsl⟩ : ∃ sl se, sealed kind gen body size = (sl, se) := ⟨_, _, rfl⟩
      have HSN := Aside0.mk (sealed_len kind gen body size)
      have HSB := Aside0.mk (sealed_bytes kind gen body size HIO.out.k HIO.out.b)
      rw [hsl] at HSN HSB
      obtain ⟨ob, og, ol, oe, hop⟩ : ∃ ob og ol oe, opened sl = (ob, og, ol, oe) := ⟨_, _, _, _, rfl⟩
      have HON := Aside0.mk (opened_len sl)
      rw [hop] at HON
      have HOP := Aside0.mk hop
      have HSL := Aside0.mk hsl
      clear hop hsl hrd hx hi hx0 hx1 hx2 hx3
      go_wp2_with (go_at_call 30; go_must (have hrd := HRD.out.below S0.bel; refine (spare A2 c2 body wr hrd.cc hrd.le HIO.out.l).mono ?_; rintro e w2 ⟨ga, ca, rfl, hr, hca, _, hb⟩; have S1 := S0.add hb hr; have HCA := Aside0.mk hca; clear hr hb hrd hq hca S0))
      have S1d := S1.below (drew_below w2)
      clear S1
      have hi5 : (0 : Int) ≤ (i : Int) := Int.natCast_nonneg _
      refine start_ (n := 25) (S := fun w' => w'.cell? (ad.add (i * 4)) = some (.int .u8 kind) ∧ w'.cell? ⟨(ad.add (i * 4)).block, (ad.add (i * 4)).off + 1, none⟩ = some (.int .u64 gen) ∧ w'.cell? ⟨(ad.add (i * 4)).block, (ad.add (i * 4)).off + 2, none⟩ = some (.slice A2 body.length c2) ∧ w'.cell? ⟨(ad.add (i * 4)).block, (ad.add (i * 4)).off + 3, none⟩ = some (.int .i64 size)) (ds := []) #[false, false, false, false, false, false, false, false, false, false, false, false, false, false, false, false, false, false, false, false, false, false, false, false, false] (by kernel_rfl) rfl rfl ⟨(HX.below S1d.bel).c0, (HX.below S1d.bel).c1, (HX.below S1d.bel).c2, (HX.below S1d.bel).c3⟩ (fun hHeld => ?_); refine with_tabW own8.tab own8.bits (fun HT_ HW_ => ?_)
      generalize w2.drew = w3 at *
      refine pure_ (i := 0) (N := some 39) (v := ?_) (a' := ?_) #[true, false, false, false, false, false, false, false, false, false, false, false, false, false, false, false, false, false, false, false, false, false, false, false, false] rfl rfl (any_of HT_.out (by kernel_rfl)) (fun _ _ _ h => h) (Or.inl ⟨by rfl, ?_⟩) ?_ ?_
      rotate_left
      · intro w'
        go_simp
        with_reducible rfl
      rotate_left
      · simp only [Act.put, List.setIfInBounds_toArray, List.set_cons_zero, List.set_cons_succ, i64_w, i32_w]
        rfl
      refine pure_ (i := 1) (N := some 40) (v := ?_) (a' := ?_) #[true, true, false, false, false, false, false, false, false, false, false, false, false, false, false, false, false, false, false, false, false, false, false, false, false] rfl rfl (any_of HT_.out (by kernel_rfl)) (fun _ _ _ h => h) (Or.inl ⟨by rfl, ?_⟩) ?_ ?_
      rotate_left
      · intro w'
        go_simp
        with_reducible rfl
      rotate_left
      · simp only [Act.put, List.setIfInBounds_toArray, List.set_cons_zero, List.set_cons_succ, i64_w, i32_w]
        rfl
      refine pure_ (i := 2) (N := some 41) (v := ?_) (a' := ?_) #[true, true, true, false, false, false, false, false, false, false, false, false, false, false, false, false, false, false, false, false, false, false, false, false, false] rfl rfl (any_of HT_.out (by kernel_rfl)) (fun _ _ _ h => h) (Or.inl ⟨by rfl, ?_⟩) ?_ ?_
      rotate_left
      · intro w'
        go_simp
        with_reducible rfl
      rotate_left
      · simp only [Act.put, List.setIfInBounds_toArray, List.set_cons_zero, List.set_cons_succ, i64_w, i32_w]
        rfl
      refine pure_ (i := 3) (N := some 42) (v := ?_) (a' := ?_) #[true, true, true, true, false, false, false, false, false, false, false, false, false, false, false, false, false, false, false, false, false, false, false, false, false] rfl rfl (any_of HT_.out (by kernel_rfl)) (fun _ _ _ h => h) (Or.inl ⟨by rfl, ?_⟩) ?_ ?_
      rotate_left
      · intro w'
        go_simp
        with_reducible rfl
      rotate_left
      · simp only [Act.put, List.setIfInBounds_toArray, List.set_cons_zero, List.set_cons_succ, i64_w, i32_w]
        rfl
      refine pure_ (i := 4) (N := some 43) (v := ?_) (a' := ?_) #[true, true, true, true, true, false, false, false, false, false, false, false, false, false, false, false, false, false, false, false, false, false, false, false, false] rfl rfl (any_of HT_.out (by kernel_rfl)) (fun _ _ _ h => h) (Or.inl ⟨by rfl, ?_⟩) ?_ ?_
      rotate_left
      · intro w'
        go_simp
        with_reducible rfl
      rotate_left
      · simp only [Act.put, List.setIfInBounds_toArray, List.set_cons_zero, List.set_cons_succ, i64_w, i32_w]
        rfl
      refine pure_ (i := 6) (N := some 45) (v := ?_) (a' := ?_) #[true, true, true, true, true, false, true, false, false, false, false, false, false, false, false, false, false, false, false, false, false, false, false, false, false] rfl rfl (any_of HT_.out (by kernel_rfl)) (fun _ _ _ h => h) (Or.inl ⟨by rfl, ?_⟩) ?_ ?_
      rotate_left
      · intro w'
        go_simp
        with_reducible rfl
      rotate_left
      · simp only [Act.put, List.setIfInBounds_toArray, List.set_cons_zero, List.set_cons_succ, i64_w, i32_w]
        rfl
      refine pure_ (i := 7) (N := some 46) (v := ?_) (a' := ?_) #[true, true, true, true, true, false, true, true, false, false, false, false, false, false, false, false, false, false, false, false, false, false, false, false, false] rfl rfl (any_of HT_.out (by kernel_rfl)) (fun _ _ _ h => h) (Or.inl ⟨by rfl, ?_⟩) ?_ ?_
      rotate_left
      · intro w'
        go_simp
        with_reducible rfl
      rotate_left
      · simp only [Act.put, List.setIfInBounds_toArray, List.set_cons_zero, List.set_cons_succ, i64_w, i32_w]
        rfl
      refine pure_ (i := 8) (N := some 47) (v := ?_) (a' := ?_) #[true, true, true, true, true, false, true, true, true, false, false, false, false, false, false, false, false, false, false, false, false, false, false, false, false] rfl rfl (any_of HT_.out (by kernel_rfl)) (fun _ _ _ h => h) (Or.inl ⟨by rfl, ?_⟩) ?_ ?_
      rotate_left
      · intro w'
        go_simp
        with_reducible rfl
      rotate_left
      · simp only [Act.put, List.setIfInBounds_toArray, List.set_cons_zero, List.set_cons_succ, i64_w, i32_w]
        rfl
      refine pure_ (i := 9) (N := some 48) (v := ?_) (a' := ?_) #[true, true, true, true, true, false, true, true, true, true, false, false, false, false, false, false, false, false, false, false, false, false, false, false, false] rfl rfl (any_of HT_.out (by kernel_rfl)) (fun _ _ _ h => h) (Or.inl ⟨by rfl, ?_⟩) ?_ ?_
      rotate_left
      · intro w'
        go_simp
        with_reducible rfl
      rotate_left
      · simp only [Act.put, List.setIfInBounds_toArray, List.set_cons_zero, List.set_cons_succ, i64_w, i32_w]
        rfl
      refine pure_ (i := 10) (N := some 49) (v := ?_) (a' := ?_) #[true, true, true, true, true, false, true, true, true, true, true, false, false, false, false, false, false, false, false, false, false, false, false, false, false] rfl rfl (any_of HT_.out (by kernel_rfl)) (fun _ _ _ h => h) (Or.inl ⟨by rfl, ?_⟩) ?_ ?_
      rotate_left
      · intro w'
        go_simp
        with_reducible rfl
      rotate_left
      · simp only [Act.put, List.setIfInBounds_toArray, List.set_cons_zero, List.set_cons_succ, i64_w, i32_w]
        rfl
      refine pure_ (i := 12) (N := some 51) (v := ?_) (a' := ?_) #[true, true, true, true, true, false, true, true, true, true, true, false, true, false, false, false, false, false, false, false, false, false, false, false, false] rfl rfl (any_of HT_.out (by kernel_rfl)) (fun _ _ _ h => h) (Or.inl ⟨by rfl, ?_⟩) ?_ ?_
      rotate_left
      · intro w'
        go_simp
        with_reducible rfl
      rotate_left
      · simp only [Act.put, List.setIfInBounds_toArray, List.set_cons_zero, List.set_cons_succ, i64_w, i32_w]
        rfl
      refine pure_ (i := 14) (N := some 53) (v := ?_) (a' := ?_) #[true, true, true, true, true, false, true, true, true, true, true, false, true, false, true, false, false, false, false, false, false, false, false, false, false] rfl rfl (any_of HT_.out (by kernel_rfl)) (fun _ _ _ h => h) (Or.inl ⟨by rfl, ?_⟩) ?_ ?_
      rotate_left
      · intro w'
        go_simp
        with_reducible rfl
      rotate_left
      · simp only [Act.put, List.setIfInBounds_toArray, List.set_cons_zero, List.set_cons_succ, i64_w, i32_w]
        rfl
      refine pure_ (i := 15) (N := some 54) (v := ?_) (a' := ?_) #[true, true, true, true, true, false, true, true, true, true, true, false, true, false, true, true, false, false, false, false, false, false, false, false, false] rfl rfl (any_of HT_.out (by kernel_rfl)) (fun _ _ _ h => h) (Or.inl ⟨by rfl, ?_⟩) ?_ ?_
      rotate_left
      · intro w'
        go_simp
        with_reducible rfl
      rotate_left
      · simp only [Act.put, List.setIfInBounds_toArray, List.set_cons_zero, List.set_cons_succ, i64_w, i32_w]
        rfl
      refine pure_ (i := 16) (N := some 55) (v := ?_) (a' := ?_) #[true, true, true, true, true, false, true, true, true, true, true, false, true, false, true, true, true, false, false, false, false, false, false, false, false] rfl rfl (any_of HT_.out (by kernel_rfl)) (fun _ _ _ h => h) (Or.inl ⟨by rfl, ?_⟩) ?_ ?_
      rotate_left
      · intro w'
        go_simp
        with_reducible rfl
      rotate_left
      · simp only [Act.put, List.setIfInBounds_toArray, List.set_cons_zero, List.set_cons_succ, i64_w, i32_w]
        rfl
      refine pure_ (i := 17) (N := some 56) (v := ?_) (a' := ?_) #[true, true, true, true, true, false, true, true, true, true, true, false, true, false, true, true, true, true, false, false, false, false, false, false, false] rfl rfl (any_of HT_.out (by kernel_rfl)) (fun _ _ _ h => h) (Or.inl ⟨by rfl, ?_⟩) ?_ ?_
      rotate_left
      · intro w'
        go_simp
        with_reducible rfl
      rotate_left
      · simp only [Act.put, List.setIfInBounds_toArray, List.set_cons_zero, List.set_cons_succ, i64_w, i32_w]
        rfl
      refine take_ (i := 5) (N := some 44) (v := ?_) (a' := ?_) #[true, true, true, true, true, true, true, true, true, true, true, false, true, false, true, true, true, true, false, false, false, false, false, false, false] rfl rfl (take_ofW HT_.out HW_.out (by kernel_rfl)) (fun _ _ _ h => h) (Or.inl ⟨by rfl, ?_⟩) hHeld ?_ ?_
      rotate_left
      · rintro w' ⟨s0, s1, s2, s3⟩
        go_simp
        with_reducible rfl
      rotate_left
      · simp only [Act.put, List.setIfInBounds_toArray, List.set_cons_zero, List.set_cons_succ, i64_w, i32_w]
        rfl
      refine take_ (i := 11) (N := some 50) (v := ?_) (a' := ?_) #[true, true, true, true, true, true, true, true, true, true, true, true, true, false, true, true, true, true, false, false, false, false, false, false, false] rfl rfl (take_ofW HT_.out HW_.out (by kernel_rfl)) (fun _ _ _ h => h) (Or.inl ⟨by rfl, ?_⟩) hHeld ?_ ?_
      rotate_left
      · rintro w' ⟨s0, s1, s2, s3⟩
        go_simp
        with_reducible rfl
      rotate_left
      · simp only [Act.put, List.setIfInBounds_toArray, List.set_cons_zero, List.set_cons_succ, i64_w, i32_w]
        rfl
      refine pure_ (i := 13) (N := some 52) (v := ?_) (a' := ?_) #[true, true, true, true, true, true, true, true, true, true, true, true, true, true, true, true, true, true, false, false, false, false, false, false, false] rfl rfl (any_of HT_.out (by kernel_rfl)) (fun _ _ _ h => h) (Or.inl ⟨by rfl, ?_⟩) ?_ ?_
      rotate_left
      · intro w'
        go_simp
        with_reducible rfl
      rotate_left
      · simp only [Act.put, List.setIfInBounds_toArray, List.set_cons_zero, List.set_cons_succ, i64_w, i32_w]
        rfl
      refine take_ (i := 18) (N := some 57) (v := ?_) (a' := ?_) #[true, true, true, true, true, true, true, true, true, true, true, true, true, true, true, true, true, true, true, false, false, false, false, false, false] rfl rfl (take_ofW HT_.out HW_.out (by kernel_rfl)) (fun _ _ _ h => h) (Or.inl ⟨by rfl, ?_⟩) hHeld ?_ ?_
      rotate_left
      · rintro w' ⟨s0, s1, s2, s3⟩
        go_simp
        with_reducible rfl
      rotate_left
      · simp only [Act.put, List.setIfInBounds_toArray, List.set_cons_zero, List.set_cons_succ, i64_w, i32_w]
        rfl
      refine one_ (i := 19) (N := some 58) #[true, true, true, true, true, true, true, true, true, true, true, true, true, true, true, true, true, true, true, true, false, false, false, false, false] rfl rfl (one_of HT_.out (by kernel_rfl)) (by decide) (fun K hK => ?_)
      refine goes_ Try.func20 (by kernel_rfl) rfl #[.agg #[.int .u8 kind, .int .u64 gen, .slice (some ⟨ga, 0, none⟩) body.length ca], .int .i64 size] (by rfl) rfl rfl (by (try simp only [List.map_toArray, List.map_cons, List.map_nil]); first | done | rfl | (simp only [List.length_drop, List.length_take]; rfl)) ?_
      have hq := c_seal (take_row (S1d.row _ List.mem_cons_self)) HIO.out.b kind gen size HIO.out.k
      rw [HSL.out] at hq
      refine hq.mono ?_
      rintro e w4 ⟨A3, n3, c3, rfl, hr, hb⟩
      refine ⟨_, rfl, ?_⟩
      have S2 := S1d.add hb hr
      clear hr hb hq S1d
      refine hK.out _ _ ⟨(HX.below S2.bel).c0, (HX.below S2.bel).c1, (HX.below S2.bel).c2, (HX.below S2.bel).c3⟩ (fun hHeld => ?_)
      clear hK K
      refine norm_ (a' := ?_) ?_ ?_
      rotate_left
      · show Act.put _ (some 58) _ = _
        simp only [Act.put, List.setIfInBounds_toArray, List.set_cons_zero, List.set_cons_succ, i64_w, i32_w]
        rfl
      refine pure_ (i := 20) (N := some 38) (v := ?_) (a' := ?_) #[true, true, true, true, true, true, true, true, true, true, true, true, true, true, true, true, true, true, true, true, true, false, false, false, false] rfl rfl (any_of HT_.out (by kernel_rfl)) (fun _ _ _ h => h) (Or.inl ⟨by rfl, ?_⟩) ?_ ?_
      rotate_left
      · intro w'
        go_simp
        with_reducible rfl
      rotate_left
      · simp only [Act.put, List.setIfInBounds_toArray, List.set_cons_zero, List.set_cons_succ, i64_w, i32_w]
        rfl
      refine pure_ (i := 21) (N := some 59) (v := ?_) (a' := ?_) #[true, true, true, true, true, true, true, true, true, true, true, true, true, true, true, true, true, true, true, true, true, true, false, false, false] rfl rfl (any_of HT_.out (by kernel_rfl)) (fun _ _ _ h => h) (Or.inl ⟨by rfl, ?_⟩) ?_ ?_
      rotate_left
      · intro w'
        go_simp
        with_reducible rfl
      rotate_left
      · simp only [Act.put, List.setIfInBounds_toArray, List.set_cons_zero, List.set_cons_succ, i64_w, i32_w]
        rfl
      refine pure_ (i := 22) (N := some 60) (v := ?_) (a' := ?_) #[true, true, true, true, true, true, true, true, true, true, true, true, true, true, true, true, true, true, true, true, true, true, true, false, false] rfl rfl (any_of HT_.out (by kernel_rfl)) (fun _ _ _ h => h) (Or.inl ⟨by rfl, ?_⟩) ?_ ?_
      rotate_left
      · intro w'
        go_simp
        with_reducible rfl
      rotate_left
      · simp only [Act.put, List.setIfInBounds_toArray, List.set_cons_zero, List.set_cons_succ, i64_w, i32_w]
        rfl
      refine pure_ (i := 23) (N := some 7) (v := ?_) (a' := ?_) #[true, true, true, true, true, true, true, true, true, true, true, true, true, true, true, true, true, true, true, true, true, true, true, true, false] rfl rfl (any_of HT_.out (by kernel_rfl)) (fun _ _ _ h => h) (Or.inl ⟨by rfl, ?_⟩) ?_ ?_
      rotate_left
      · intro w'
        go_simp
        with_reducible rfl
      rotate_left
      · simp only [Act.put, List.setIfInBounds_toArray, List.set_cons_zero, List.set_cons_succ, i64_w, i32_w]
        rfl
      refine pure_ (i := 24) (N := some 8) (v := ?_) (a' := ?_) #[true, true, true, true, true, true, true, true, true, true, true, true, true, true, true, true, true, true, true, true, true, true, true, true, true] rfl rfl (any_of HT_.out (by kernel_rfl)) (fun _ _ _ h => h) (Or.inl ⟨by rfl, ?_⟩) ?_ ?_
      rotate_left
      · intro w'
        go_simp
        with_reducible rfl
      rotate_left
      · simp only [Act.put, List.setIfInBounds_toArray, List.set_cons_zero, List.set_cons_succ, i64_w, i32_w]
        rfl
      refine done_ (done_of HT_.out (by kernel_rfl)) ?_
      clear hHeld HT_ HW_
      go_wp2
      have S2d := S2.below (drew_below w4)
      clear S2
      refine start_ (n := 16) (S := fun w' => w'.cell? (ad.add (i * 4)) = some (.int .u8 kind) ∧ w'.cell? ⟨(ad.add (i * 4)).block, (ad.add (i * 4)).off + 1, none⟩ = some (.int .u64 gen) ∧ w'.cell? ⟨(ad.add (i * 4)).block, (ad.add (i * 4)).off + 2, none⟩ = some (.slice A2 body.length c2) ∧ w'.cell? ⟨(ad.add (i * 4)).block, (ad.add (i * 4)).off + 3, none⟩ = some (.int .i64 size)) (ds := []) #[false, false, false, false, false, false, false, false, false, false, false, false, false, false, false, false] (by kernel_rfl) rfl rfl ⟨(HX.below S2d.bel).c0, (HX.below S2d.bel).c1, (HX.below S2d.bel).c2, (HX.below S2d.bel).c3⟩ (fun hHeld => ?_); refine with_tabW own9.tab own9.bits (fun HT_ HW_ => ?_)
      generalize w4.drew = w5 at *
      refine pure_ (i := 0) (N := some 62) (v := ?_) (a' := ?_) #[true, false, false, false, false, false, false, false, false, false, false, false, false, false, false, false] rfl rfl (any_of HT_.out (by kernel_rfl)) (fun _ _ _ h => h) (Or.inl ⟨by rfl, ?_⟩) ?_ ?_
      rotate_left
      · intro w'
        go_simp
        with_reducible rfl
      rotate_left
      · simp only [Act.put, List.setIfInBounds_toArray, List.set_cons_zero, List.set_cons_succ, i64_w, i32_w]
        rfl
      refine pure_ (i := 1) (N := some 63) (v := ?_) (a' := ?_) #[true, true, false, false, false, false, false, false, false, false, false, false, false, false, false, false] rfl rfl (any_of HT_.out (by kernel_rfl)) (fun _ _ _ h => h) (Or.inl ⟨by rfl, ?_⟩) ?_ ?_
      rotate_left
      · intro w'
        go_simp
        with_reducible rfl
      rotate_left
      · simp only [Act.put, List.setIfInBounds_toArray, List.set_cons_zero, List.set_cons_succ, i64_w, i32_w]
        rfl
      refine pure_ (i := 2) (N := some 64) (v := ?_) (a' := ?_) #[true, true, true, false, false, false, false, false, false, false, false, false, false, false, false, false] rfl rfl (any_of HT_.out (by kernel_rfl)) (fun _ _ _ h => h) (Or.inl ⟨by rfl, ?_⟩) ?_ ?_
      rotate_left
      · intro w'
        go_simp
        with_reducible rfl
      rotate_left
      · simp only [Act.put, List.setIfInBounds_toArray, List.set_cons_zero, List.set_cons_succ, i64_w, i32_w]
        rfl
      refine pure_ (i := 3) (N := some 65) (v := ?_) (a' := ?_) #[true, true, true, true, false, false, false, false, false, false, false, false, false, false, false, false] rfl rfl (any_of HT_.out (by kernel_rfl)) (fun _ _ _ h => h) (Or.inl ⟨by rfl, ?_⟩) ?_ ?_
      rotate_left
      · intro w'
        go_simp
        with_reducible rfl
      rotate_left
      · simp only [Act.put, List.setIfInBounds_toArray, List.set_cons_zero, List.set_cons_succ, i64_w, i32_w]
        rfl
      refine pure_ (i := 5) (N := some 67) (v := ?_) (a' := ?_) #[true, true, true, true, false, true, false, false, false, false, false, false, false, false, false, false] rfl rfl (any_of HT_.out (by kernel_rfl)) (fun _ _ _ h => h) (Or.inl ⟨by rfl, ?_⟩) ?_ ?_
      rotate_left
      · intro w'
        go_simp
        with_reducible rfl
      rotate_left
      · simp only [Act.put, List.setIfInBounds_toArray, List.set_cons_zero, List.set_cons_succ, i64_w, i32_w]
        rfl
      refine pure_ (i := 6) (N := some 68) (v := ?_) (a' := ?_) #[true, true, true, true, false, true, true, false, false, false, false, false, false, false, false, false] rfl rfl (any_of HT_.out (by kernel_rfl)) (fun _ _ _ h => h) (Or.inl ⟨by rfl, ?_⟩) ?_ ?_
      rotate_left
      · intro w'
        go_simp
        with_reducible rfl
      rotate_left
      · simp only [Act.put, List.setIfInBounds_toArray, List.set_cons_zero, List.set_cons_succ, i64_w, i32_w]
        rfl
      refine pure_ (i := 7) (N := some 69) (v := ?_) (a' := ?_) #[true, true, true, true, false, true, true, true, false, false, false, false, false, false, false, false] rfl rfl (any_of HT_.out (by kernel_rfl)) (fun _ _ _ h => h) (Or.inl ⟨by rfl, ?_⟩) ?_ ?_
      rotate_left
      · intro w'
        go_simp
        with_reducible rfl
      rotate_left
      · simp only [Act.put, List.setIfInBounds_toArray, List.set_cons_zero, List.set_cons_succ, i64_w, i32_w]
        rfl
      refine pure_ (i := 8) (N := some 70) (v := ?_) (a' := ?_) #[true, true, true, true, false, true, true, true, true, false, false, false, false, false, false, false] rfl rfl (any_of HT_.out (by kernel_rfl)) (fun _ _ _ h => h) (Or.inl ⟨by rfl, ?_⟩) ?_ ?_
      rotate_left
      · intro w'
        go_simp
        with_reducible rfl
      rotate_left
      · simp only [Act.put, List.setIfInBounds_toArray, List.set_cons_zero, List.set_cons_succ, i64_w, i32_w]
        rfl
      refine take_ (i := 4) (N := some 66) (v := ?_) (a' := ?_) #[true, true, true, true, true, true, true, true, true, false, false, false, false, false, false, false] rfl rfl (take_ofW HT_.out HW_.out (by kernel_rfl)) (fun _ _ _ h => h) (Or.inl ⟨by rfl, ?_⟩) hHeld ?_ ?_
      rotate_left
      · rintro w' ⟨s0, s1, s2, s3⟩
        go_simp
        with_reducible rfl
      rotate_left
      · simp only [Act.put, List.setIfInBounds_toArray, List.set_cons_zero, List.set_cons_succ, i64_w, i32_w]
        rfl
      refine take_ (i := 9) (N := some 71) (v := ?_) (a' := ?_) #[true, true, true, true, true, true, true, true, true, true, false, false, false, false, false, false] rfl rfl (take_ofW HT_.out HW_.out (by kernel_rfl)) (fun _ _ _ h => h) (Or.inl ⟨by rfl, ?_⟩) hHeld ?_ ?_
      rotate_left
      · rintro w' ⟨s0, s1, s2, s3⟩
        go_simp
        with_reducible rfl
      rotate_left
      · simp only [Act.put, List.setIfInBounds_toArray, List.set_cons_zero, List.set_cons_succ, i64_w, i32_w]
        rfl
      refine one_ (i := 10) (N := some 72) #[true, true, true, true, true, true, true, true, true, true, true, false, false, false, false, false] rfl rfl (one_of HT_.out (by kernel_rfl)) (by decide) (fun K hK => ?_)
      refine goes_ Try.func21 (by kernel_rfl) rfl #[.agg #[.int .u8 kind, .int .u64 gen, .slice A2 body.length c2], .int .i64 size] (by rfl) rfl rfl (by (try simp only [List.map_toArray, List.map_cons, List.map_nil]); first | done | rfl | (simp only [List.length_drop, List.length_take]; rfl)) ?_
      have hq := c_refSeal (HRD.out.below S2d.bel) HIO.out.b kind gen size HIO.out.k HIO.out.g
      rw [HSL.out] at hq
      refine hq.mono ?_
      rintro e w6 ⟨A5, n5, c5, rfl, hr, hb⟩
      refine ⟨_, rfl, ?_⟩
      have S3 := S2d.add hb hr
      clear hr hb hq S2d
      refine hK.out _ _ ⟨(HX.below S3.bel).c0, (HX.below S3.bel).c1, (HX.below S3.bel).c2, (HX.below S3.bel).c3⟩ (fun hHeld => ?_)
      clear hK K
      refine norm_ (a' := ?_) ?_ ?_
      rotate_left
      · show Act.put _ (some 72) _ = _
        simp only [Act.put, List.setIfInBounds_toArray, List.set_cons_zero, List.set_cons_succ, i64_w, i32_w]
        rfl
      refine pure_ (i := 11) (N := some 61) (v := ?_) (a' := ?_) #[true, true, true, true, true, true, true, true, true, true, true, true, false, false, false, false] rfl rfl (any_of HT_.out (by kernel_rfl)) (fun _ _ _ h => h) (Or.inl ⟨by rfl, ?_⟩) ?_ ?_
      rotate_left
      · intro w'
        go_simp
        with_reducible rfl
      rotate_left
      · simp only [Act.put, List.setIfInBounds_toArray, List.set_cons_zero, List.set_cons_succ, i64_w, i32_w]
        rfl
      refine pure_ (i := 12) (N := some 73) (v := ?_) (a' := ?_) #[true, true, true, true, true, true, true, true, true, true, true, true, true, false, false, false] rfl rfl (any_of HT_.out (by kernel_rfl)) (fun _ _ _ h => h) (Or.inl ⟨by rfl, ?_⟩) ?_ ?_
      rotate_left
      · intro w'
        go_simp
        with_reducible rfl
      rotate_left
      · simp only [Act.put, List.setIfInBounds_toArray, List.set_cons_zero, List.set_cons_succ, i64_w, i32_w]
        rfl
      refine pure_ (i := 13) (N := some 74) (v := ?_) (a' := ?_) #[true, true, true, true, true, true, true, true, true, true, true, true, true, true, false, false] rfl rfl (any_of HT_.out (by kernel_rfl)) (fun _ _ _ h => h) (Or.inl ⟨by rfl, ?_⟩) ?_ ?_
      rotate_left
      · intro w'
        go_simp
        with_reducible rfl
      rotate_left
      · simp only [Act.put, List.setIfInBounds_toArray, List.set_cons_zero, List.set_cons_succ, i64_w, i32_w]
        rfl
      refine pure_ (i := 14) (N := some 9) (v := ?_) (a' := ?_) #[true, true, true, true, true, true, true, true, true, true, true, true, true, true, true, false] rfl rfl (any_of HT_.out (by kernel_rfl)) (fun _ _ _ h => h) (Or.inl ⟨by rfl, ?_⟩) ?_ ?_
      rotate_left
      · intro w'
        go_simp
        with_reducible rfl
      rotate_left
      · simp only [Act.put, List.setIfInBounds_toArray, List.set_cons_zero, List.set_cons_succ, i64_w, i32_w]
        rfl
      refine pure_ (i := 15) (N := some 10) (v := ?_) (a' := ?_) #[true, true, true, true, true, true, true, true, true, true, true, true, true, true, true, true] rfl rfl (any_of HT_.out (by kernel_rfl)) (fun _ _ _ h => h) (Or.inl ⟨by rfl, ?_⟩) ?_ ?_
      rotate_left
      · intro w'
        go_simp
        with_reducible rfl
      rotate_left
      · simp only [Act.put, List.setIfInBounds_toArray, List.set_cons_zero, List.set_cons_succ, i64_w, i32_w]
        rfl
      refine done_ (done_of HT_.out (by kernel_rfl)) ?_
      clear hHeld HT_ HW_
      have hbl : body.length ≤ 4194304 := HIO.out.l
      have L3 : Aside0 (n3 ≤ 8192) := ⟨by rw [← (S3.of 1 rfl).len]; exact HSN.out⟩
      go_upto_region 12 with (first | (go_at_call 22; go_must (first | (have uu := S3; clear uu; refine (c_same (S3.of 1 rfl) (S3.of 0 rfl) (by have := L3.out; omega)).mono ?_; rintro e w7 ⟨rfl, hd⟩; have S4 := S3.below (drawn_below hd); have hq := (HX.below S4.bel).c2; clear hd S3))) | (go_at_call 31; go_must (first | (have uu := S4; clear uu; refine (c_untouched (S4.of 2 rfl) (HRD.out.below S4.bel) (by omega)).mono ?_; rintro e w8 ⟨rfl, hd⟩; have S5 := S4.below (drawn_below hd); clear hd hq S4))) | (go_at_call 32; go_must (first | (have uu := S5; clear uu; refine (S5.still HHS.out (by omega)).mono ?_; rintro e w9 ⟨rfl, hb⟩; have S6 := S5.below hb; clear hb S5))))
      have L3e := Aside0.mk (S6.of 1 rfl).len
      go_upto_region 15 with (first | (go_at_call 30; go_must (refine (c_spare (S6.of 1 rfl) (by have := L3.out; omega)).mono ?_; rintro e w10 ⟨gw, cw, rfl, hr, hcw, hb⟩; have S7 := S6.add hb hr; have HCW := Aside0.mk hcw; clear hr hb hcw S6)) | (go_at_call 23; go_must (have hq := c_open (cut_row (S7.row _ List.mem_cons_self) L3e.out) HSB.out; rw [HOP.out] at hq; refine hq.mono ?_; rintro e w11 ⟨A6, n6, c6, rfl, hr, hb⟩; have S8 := S7.add hb hr; clear hr hb hq S7)) | ((with_reducible refine gate_dst (N := 13) rfl ?_); go_must (refine box_event ?hg (N := 13) ?hd (cs := #[.int .u8 0, .int .u64 0, .slice none 0 0]) (t := 35) ?hr ?_); (case hd => rfl); (case hg => rfl); (case hr => first | (go_simp; done) | (go_simp; rfl)); intro g13 hg w12 hbox hb; have S9 := S8.below hb; have BK := Aside0.mk hbox; have GK := Aside0.mk (by rw [hg]; exact S8.le : s0 ≤ g13); have hc0 : w12.cell? ⟨g13, 0, none⟩ = some (.int .u8 0) := (blk_cell BK.out 0).trans rfl; have hc1 : w12.cell? ⟨g13, 1, none⟩ = some (.int .u64 0) := (blk_cell BK.out 1).trans rfl; have hc2 : w12.cell? ⟨g13, 2, none⟩ = some (.slice none 0 0) := (blk_cell BK.out 2).trans rfl; have hf0 := blk_frozen BK.out 0; have hf1 := blk_frozen BK.out 1; have hf2 := blk_frozen BK.out 2; clear hbox hb hg S8) | (go_at_call 24; go_must (have SA := S9.store BK.out GK.out (fun p hp => by simp at hp) (.int .u8 ob) (.int .u64 og) (.slice A6 n6 c6); clear hc0 hc1 hc2 hf0 hf1 hf2 S9 BK; generalize (((w12.setCell ⟨g13, 0, none⟩ (.int .u8 ob)).setCell ⟨g13, 1, none⟩ (.int .u64 og)).setCell ⟨g13, 2, none⟩ (.slice A6 n6 c6)) = w13 at *; have hq := c_refOpen (SA.of 2 rfl) HSB.out (by have := (SA.of 2 rfl).len; have := HSN.out; omega); rw [HOP.out] at hq; refine hq.mono ?_; rintro e w14 ⟨A7, n7, c7, rfl, hr, hb⟩; have SB := SA.add hb hr; clear hr hb hq SA)) | ((with_reducible refine gate_dst (N := 15) rfl ?_); go_must (refine box_event ?hg (N := 15) ?hd (cs := #[.int .u8 0, .int .u64 0, .slice none 0 0]) (t := 35) ?hr ?_); (case hd => rfl); (case hg => rfl); (case hr => first | (go_simp; done) | (go_simp; rfl)); intro g15 hg w15 hbox hb; have SC := SB.below hb; have BL := Aside0.mk hbox; have GL := Aside0.mk (by rw [hg]; exact SB.le : s0 ≤ g15); have N13 : g13 ≠ g15 := (by rw [hg]; exact Nat.ne_of_lt (blk_lt (SB.box _ List.mem_cons_self).1)); have hc0 : w15.cell? ⟨g15, 0, none⟩ = some (.int .u8 0) := (blk_cell BL.out 0).trans rfl; have hc1 : w15.cell? ⟨g15, 1, none⟩ = some (.int .u64 0) := (blk_cell BL.out 1).trans rfl; have hc2 : w15.cell? ⟨g15, 2, none⟩ = some (.slice none 0 0) := (blk_cell BL.out 2).trans rfl; have hf0 := blk_frozen BL.out 0; have hf1 := blk_frozen BL.out 1; have hf2 := blk_frozen BL.out 2; clear hbox hb hg SB))
      have SD := SC.store BL.out GL.out (fun p hp => by obtain rfl := List.mem_singleton.1 hp; exact N13) (.int .u8 ob) (.int .u64 og) (.slice A7 n7 c7)
      clear hc0 hc1 hc2 hf0 hf1 hf2 SC BL
      generalize (((w15.setCell ⟨g15, 0, none⟩ (.int .u8 ob)).setCell ⟨g15, 1, none⟩ (.int .u64 og)).setCell ⟨g15, 2, none⟩ (.slice A7 n7 c7)) = w16 at *
      have ha0 : w16.cell? ⟨g13, 0, none⟩ = some (.int .u8 ob) := (blk_cell (SD.bx 1 rfl) 0).trans rfl
      have ha1 : w16.cell? ⟨g13, 1, none⟩ = some (.int .u64 og) := (blk_cell (SD.bx 1 rfl) 1).trans rfl
      have ha2 : w16.cell? ⟨g13, 2, none⟩ = some (.slice A6 n6 c6) := (blk_cell (SD.bx 1 rfl) 2).trans rfl
      have hb0 : w16.cell? ⟨g15, 0, none⟩ = some (.int .u8 ob) := (blk_cell (SD.bx 0 rfl) 0).trans rfl
      have hb1 : w16.cell? ⟨g15, 1, none⟩ = some (.int .u64 og) := (blk_cell (SD.bx 0 rfl) 1).trans rfl
      have hb2 : w16.cell? ⟨g15, 2, none⟩ = some (.slice A7 n7 c7) := (blk_cell (SD.bx 0 rfl) 2).trans rfl
      have L5 : Aside0 (n5 ≤ 8192) := ⟨by rw [← (SD.of 3 rfl).len]; exact HSN.out⟩
      have L6 : Aside0 (n6 ≤ 8192) := ⟨by rw [← (SD.of 1 rfl).len]; have := HON.out; have := HSN.out; omega⟩
      go_upto_region 17 with (first | (go_at_call 25; go_must (refine (c_sameFrame (SD.of 1 rfl) (SD.of 0 rfl) (by have := L6.out; omega) ob og).mono ?_; rintro e w17 ⟨rfl, hb⟩; have SE := SD.below hb; clear hb SD ha0 ha1 ha2 hb0 hb1 hb2)) | (go_at_call 31; go_must (refine (c_untouched (SE.of 2 rfl) (SE.of 3 rfl) (by have := L5.out; omega)).mono ?_; rintro e w18 ⟨rfl, hd⟩; have SF := SE.below (drawn_below hd); clear hd SE)) | (go_at_call 32; go_must (refine (SF.still HHS.out (by omega)).mono ?_; rintro e w19 ⟨rfl, hb⟩; have SG := SF.below hb; clear hb SF)))
      go_upto_region 21 with (first | (go_at_call 17; go_must (refine (c_sum (SG.cut 2 rfl L3e.out) HSB.out (by have := L3.out; omega)).mono ?_; rintro e w20 ⟨rfl, hd⟩; have SH := SG.below (drawn_below hd); clear hd SG)) | (go_at_call 14; go_must (refine (c_ext (SH.cut 2 rfl L3e.out) HSB.out (by have := L3.out; omega)).mono ?_; rintro e w21 ⟨rfl, hd⟩; have SI := SH.below (drawn_below hd); clear hd SH)) | (go_at_call 18; go_must (refine (c_refSum (SI.of 3 rfl) HSB.out (by have := L5.out; omega)).mono ?_; rintro e w22 ⟨rfl, hd⟩; have SJ := SI.below (drawn_below hd); clear hd SI)) | (go_at_call 16; go_must (refine (c_refExt (SJ.of 3 rfl) HSB.out (by have := L5.out; omega)).mono ?_; rintro e w23 ⟨rfl, hd⟩; have SK := SJ.below (drawn_below hd); clear hd SJ)) | (go_at_call 31; go_must (refine (c_untouched (SK.of 2 rfl) (SK.of 3 rfl) (by have := L5.out; omega)).mono ?_; rintro e w24 ⟨rfl, hd⟩; have SL := SK.below (drawn_below hd); clear hd SK)))
      have SM := SL.below (drew_below w24)
      have L6e := Aside0.mk (SL.of 1 rfl).len
      clear SL
      refine start_ (n := 17) (S := fun w' => w'.cell? ⟨g13, 2, none⟩ = some (.slice A6 n6 c6)) (ds := []) #[false, false, false, false, false, false, false, false, false, false, false, false, false, false, false, false, false] (by kernel_rfl) rfl rfl ((blk_cell (SM.bx 1 rfl) 2).trans rfl) (fun hHeld => ?_); refine with_tabW own21.tab own21.bits (fun HT_ HW_ => ?_)
      generalize w24.drew = w25 at *
      refine pure_ (i := 0) (N := some 155) (v := ?_) (a' := ?_) #[true, false, false, false, false, false, false, false, false, false, false, false, false, false, false, false, false] rfl rfl (any_of HT_.out (by kernel_rfl)) (fun _ _ _ h => h) (Or.inl ⟨by rfl, ?_⟩) ?_ ?_
      rotate_left
      · intro w'
        go_simp
        with_reducible rfl
      rotate_left
      · simp only [Act.put, List.setIfInBounds_toArray, List.set_cons_zero, List.set_cons_succ, i64_w, i32_w]
        rfl
      refine pure_ (i := 1) (N := some 156) (v := ?_) (a' := ?_) #[true, true, false, false, false, false, false, false, false, false, false, false, false, false, false, false, false] rfl rfl (any_of HT_.out (by kernel_rfl)) (fun _ _ _ h => h) (Or.inl ⟨by rfl, ?_⟩) ?_ ?_
      rotate_left
      · intro w'
        go_simp
        with_reducible rfl
      rotate_left
      · simp only [Act.put, List.setIfInBounds_toArray, List.set_cons_zero, List.set_cons_succ, i64_w, i32_w]
        rfl
      refine pure_ (i := 2) (N := some 157) (v := ?_) (a' := ?_) #[true, true, true, false, false, false, false, false, false, false, false, false, false, false, false, false, false] rfl rfl (any_of HT_.out (by kernel_rfl)) (fun _ _ _ h => h) (Or.inl ⟨by rfl, ?_⟩) ?_ ?_
      rotate_left
      · intro w'
        go_simp
        with_reducible rfl
      rotate_left
      · simp only [Act.put, List.setIfInBounds_toArray, List.set_cons_zero, List.set_cons_succ, i64_w, i32_w]
        rfl
      refine pure_ (i := 3) (N := some 158) (v := ?_) (a' := ?_) #[true, true, true, true, false, false, false, false, false, false, false, false, false, false, false, false, false] rfl rfl (any_of HT_.out (by kernel_rfl)) (fun _ _ _ h => h) (Or.inl ⟨by rfl, ?_⟩) ?_ ?_
      rotate_left
      · intro w'
        go_simp
        with_reducible rfl
      rotate_left
      · simp only [Act.put, List.setIfInBounds_toArray, List.set_cons_zero, List.set_cons_succ, i64_w, i32_w]
        rfl
      refine pure_ (i := 4) (N := some 159) (v := ?_) (a' := ?_) #[true, true, true, true, true, false, false, false, false, false, false, false, false, false, false, false, false] rfl rfl (any_of HT_.out (by kernel_rfl)) (fun _ _ _ h => h) (Or.inl ⟨by rfl, ?_⟩) ?_ ?_
      rotate_left
      · intro w'
        go_simp
        with_reducible rfl
      rotate_left
      · simp only [Act.put, List.setIfInBounds_toArray, List.set_cons_zero, List.set_cons_succ, i64_w, i32_w]
        rfl
      refine pure_ (i := 5) (N := some 160) (v := ?_) (a' := ?_) #[true, true, true, true, true, true, false, false, false, false, false, false, false, false, false, false, false] rfl rfl (any_of HT_.out (by kernel_rfl)) (fun _ _ _ h => h) (Or.inl ⟨by rfl, ?_⟩) ?_ ?_
      rotate_left
      · intro w'
        go_simp
        with_reducible rfl
      rotate_left
      · simp only [Act.put, List.setIfInBounds_toArray, List.set_cons_zero, List.set_cons_succ, i64_w, i32_w]
        rfl
      refine pure_ (i := 7) (N := some 162) (v := ?_) (a' := ?_) #[true, true, true, true, true, true, false, true, false, false, false, false, false, false, false, false, false] rfl rfl (any_of HT_.out (by kernel_rfl)) (fun _ _ _ h => h) (Or.inl ⟨by rfl, ?_⟩) ?_ ?_
      rotate_left
      · intro w'
        go_simp
        with_reducible rfl
      rotate_left
      · simp only [Act.put, List.setIfInBounds_toArray, List.set_cons_zero, List.set_cons_succ, i64_w, i32_w]
        rfl
      refine pure_ (i := 9) (N := some 164) (v := ?_) (a' := ?_) #[true, true, true, true, true, true, false, true, false, true, false, false, false, false, false, false, false] rfl rfl (any_of HT_.out (by kernel_rfl)) (fun _ _ _ h => h) (Or.inl ⟨by rfl, ?_⟩) ?_ ?_
      rotate_left
      · intro w'
        go_simp
        with_reducible rfl
      rotate_left
      · simp only [Act.put, List.setIfInBounds_toArray, List.set_cons_zero, List.set_cons_succ, i64_w, i32_w]
        rfl
      refine pure_ (i := 10) (N := some 165) (v := ?_) (a' := ?_) #[true, true, true, true, true, true, false, true, false, true, true, false, false, false, false, false, false] rfl rfl (any_of HT_.out (by kernel_rfl)) (fun _ _ _ h => h) (Or.inl ⟨by rfl, ?_⟩) ?_ ?_
      rotate_left
      · intro w'
        go_simp
        with_reducible rfl
      rotate_left
      · simp only [Act.put, List.setIfInBounds_toArray, List.set_cons_zero, List.set_cons_succ, i64_w, i32_w]
        rfl
      refine pure_ (i := 11) (N := some 166) (v := ?_) (a' := ?_) #[true, true, true, true, true, true, false, true, false, true, true, true, false, false, false, false, false] rfl rfl (any_of HT_.out (by kernel_rfl)) (fun _ _ _ h => h) (Or.inl ⟨by rfl, ?_⟩) ?_ ?_
      rotate_left
      · intro w'
        go_simp
        with_reducible rfl
      rotate_left
      · simp only [Act.put, List.setIfInBounds_toArray, List.set_cons_zero, List.set_cons_succ, i64_w, i32_w]
        rfl
      refine pure_ (i := 12) (N := some 167) (v := ?_) (a' := ?_) #[true, true, true, true, true, true, false, true, false, true, true, true, true, false, false, false, false] rfl rfl (any_of HT_.out (by kernel_rfl)) (fun _ _ _ h => h) (Or.inl ⟨by rfl, ?_⟩) ?_ ?_
      rotate_left
      · intro w'
        go_simp
        with_reducible rfl
      rotate_left
      · simp only [Act.put, List.setIfInBounds_toArray, List.set_cons_zero, List.set_cons_succ, i64_w, i32_w]
        rfl
      refine take_ (i := 8) (N := some 163) (v := ?_) (a' := ?_) #[true, true, true, true, true, true, false, true, true, true, true, true, true, false, false, false, false] rfl rfl (take_ofW HT_.out HW_.out (by kernel_rfl)) (fun _ _ _ h => h) (Or.inl ⟨by rfl, ?_⟩) hHeld ?_ ?_
      rotate_left
      · rintro w' s0
        go_simp
        with_reducible rfl
      rotate_left
      · simp only [Act.put, List.setIfInBounds_toArray, List.set_cons_zero, List.set_cons_succ, i64_w, i32_w]
        rfl
      refine one_ (i := 6) (N := some 161) #[true, true, true, true, true, true, true, true, true, true, true, true, true, false, false, false, false] rfl rfl (one_of HT_.out (by kernel_rfl)) (by decide) (fun K hK => ?_)
      refine goes_ Try.func33 (by kernel_rfl) rfl #[.slice A3 n3 c3, .int .u8 (Go.IntKind.u8.wrap (wrap64 (wrap64 (17 * (i : Int)) + 1)))] (by rfl) rfl rfl (by (try simp only [List.map_toArray, List.map_cons, List.map_nil]); first | done | rfl | (simp only [List.length_drop, List.length_take]; rfl)) ?_
      refine ((SM.perm (perm6 _ _ _ _ _ _)).hold L3e.out (by have := L3.out; omega) _ (u8_wrap _)).mono ?_
      rintro e w26 ⟨p1, q1, mo1, rfl, hmo1, SN, hm1, hk1⟩
      refine ⟨_, rfl, ?_⟩
      have MO1 := Aside0.mk hmo1
      have HM1 := Aside0.mk hm1
      clear hmo1 hm1 hk1 SM
      refine hK.out _ _ ((blk_cell (SN.bx 1 rfl) 2).trans rfl) (fun hHeld => ?_)
      clear hK K
      refine norm_ (a' := ?_) ?_ ?_
      rotate_left
      · show Act.put _ (some 161) _ = _
        simp only [Act.put, List.setIfInBounds_toArray, List.set_cons_zero, List.set_cons_succ, i64_w, i32_w]
        rfl
      refine one_ (i := 13) (N := some 168) #[true, true, true, true, true, true, true, true, true, true, true, true, true, true, false, false, false] rfl rfl (one_of HT_.out (by kernel_rfl)) (by decide) (fun K hK => ?_)
      refine goes_ Try.func33 (by kernel_rfl) rfl #[.slice A6 n6 c6, .int .u8 (Go.IntKind.u8.wrap (wrap64 (wrap64 (29 * (i : Int)) + 101)))] (by rfl) rfl rfl (by (try simp only [List.map_toArray, List.map_cons, List.map_nil]); first | done | rfl | (simp only [List.length_drop, List.length_take]; rfl)) ?_
      refine (SN.hold L6e.out (by have := L6.out; omega) _ (u8_wrap _)).mono ?_
      rintro e w27 ⟨p2, q2, mo2, rfl, hmo2, SO, hm2, hk2⟩
      refine ⟨_, rfl, ?_⟩
      have MO2 := Aside0.mk hmo2
      have HM2 := Aside0.mk hm2
      have HM1b := Aside0.mk (held_kept HM1.out hk2)
      clear hmo2 hm2 hk2 HM1 SN
      refine hK.out _ _ ((blk_cell (SO.bx 1 rfl) 2).trans rfl) (fun hHeld => ?_)
      clear hK K
      refine norm_ (a' := ?_) ?_ ?_
      rotate_left
      · show Act.put _ (some 168) _ = _
        simp only [Act.put, List.setIfInBounds_toArray, List.set_cons_zero, List.set_cons_succ, i64_w, i32_w]
        rfl
      refine one_ (i := 14) (N := some 169) #[true, true, true, true, true, true, true, true, true, true, true, true, true, true, true, false, false] rfl rfl (one_of HT_.out (by kernel_rfl)) (by decide) (fun K hK => ?_)
      have SOn := SO.new
      refine Kd.R_lit_step QOwn.k60 (w0 := w) w.heap.size 60 (by rfl) (N := 169) rfl (xs := [⟨List.replicate n3 (Go.IntKind.u8.wrap (wrap64 (wrap64 (17 * (i : Int)) + 1))), List.replicate n3 (Go.IntKind.u8.wrap (wrap64 (wrap64 (17 * (i : Int)) + 1))) ++ mo1, List.replicate n3 (Go.IntKind.u8.wrap (wrap64 (wrap64 (17 * (i : Int)) + 1))) ++ mo1⟩, ⟨List.replicate n6 (Go.IntKind.u8.wrap (wrap64 (wrap64 (29 * (i : Int)) + 101))), List.replicate n6 (Go.IntKind.u8.wrap (wrap64 (wrap64 (29 * (i : Int)) + 101))) ++ mo2, List.replicate n6 (Go.IntKind.u8.wrap (wrap64 (wrap64 (29 * (i : Int)) + 101))) ++ mo2⟩]) (inner := [.slice A3 n3 c3, p1, q1, .slice A6 n6 c6, p2, q2]) (ok := Off [(.slice (some ⟨ga, 0, none⟩) (body.length + 8) ca, body ++ List.replicate 8 165), (.slice (some ⟨gw, 0, none⟩) (n3 + 8) cw, sl ++ List.replicate 8 165), (.slice A5 n5 c5, sl), (.slice A7 n7 c7, ol)] s0) (okp := Off [(.slice (some ⟨ga, 0, none⟩) (body.length + 8) ca, body ++ List.replicate 8 165), (.slice (some ⟨gw, 0, none⟩) (n3 + 8) cw, sl ++ List.replicate 8 165), (.slice A5 n5 c5, sl), (.slice A7 n7 c7, ol)] s0) ?hr (reps_two HM1b.out HM2.out) (fun _ h => h) (SOn _ (Nat.le_refl _)) SO.bel SO.bel.size (by simp) ?_
      (case hr => first | (go_simp; done) | (go_simp; rfl))
      intro vl w28 ho hb hg hat
      have SP := SO.quiet hg hb
      obtain ⟨al, cl, rfl⟩ := Kd.R_slice ho
      have HL := Aside0.mk ho
      clear ho hb hg hat SOn HM1b HM2 SO
      refine hK.out _ _ ((blk_cell (SP.bx 1 rfl) 2).trans rfl) (fun hHeld => ?_)
      clear hK K
      refine norm_ (a' := ?_) ?_ ?_
      rotate_left
      · show Act.put _ (some 169) _ = _
        simp only [Act.put, List.setIfInBounds_toArray, List.set_cons_zero, List.set_cons_succ, i64_w, i32_w]
        rfl
      refine one_ (i := 15) (N := some 170) #[true, true, true, true, true, true, true, true, true, true, true, true, true, true, true, true, false] rfl rfl (one_of HT_.out (by kernel_rfl)) (by decide) (fun K hK => ?_)
      obtain ⟨al2, cl2, hal, _, hrr⟩ := OwnRow.reads HL.out.2
      obtain ⟨rfl, rfl⟩ : al = al2 ∧ cl = cl2 := by injection hal with e1 e2 e3; exact ⟨e1, e3⟩
      refine Kd.R_append_rows_step QOwn.k60 (w0 := w) w.heap.size (by rfl) (.tmp 155) (.tmp 169) 53 60 (.agg #[.slice none 0 0, .slice none 0 0, .slice none 0 0]) 72 (by rfl) Try.underlying53 info60 rfl (by decide) (by decide) (.slice Ah (2 * i) ch) hs [⟨List.replicate n3 (Go.IntKind.u8.wrap (wrap64 (wrap64 (17 * (i : Int)) + 1))), List.replicate n3 (Go.IntKind.u8.wrap (wrap64 (wrap64 (17 * (i : Int)) + 1))) ++ mo1, List.replicate n3 (Go.IntKind.u8.wrap (wrap64 (wrap64 (17 * (i : Int)) + 1))) ++ mo1⟩, ⟨List.replicate n6 (Go.IntKind.u8.wrap (wrap64 (wrap64 (29 * (i : Int)) + 101))), List.replicate n6 (Go.IntKind.u8.wrap (wrap64 (wrap64 (29 * (i : Int)) + 101))) ++ mo2, List.replicate n6 (Go.IntKind.u8.wrap (wrap64 (wrap64 (29 * (i : Int)) + 101))) ++ mo2⟩] al 2 cl (Away [(.slice (some ⟨ga, 0, none⟩) (body.length + 8) ca, body ++ List.replicate 8 165), (.slice (some ⟨gw, 0, none⟩) (n3 + 8) cw, sl ++ List.replicate 8 165), (.slice A5 n5 c5, sl), (.slice A7 n7 c7, ol)]) (fun k => Off [(.slice (some ⟨ga, 0, none⟩) (body.length + 8) ca, body ++ List.replicate 8 165), (.slice (some ⟨gw, 0, none⟩) (n3 + 8) cw, sl ++ List.replicate 8 165), (.slice A5 n5 c5, sl), (.slice A7 n7 c7, ol)] s0 k ∧ some k ≠ (Value.slice al 2 cl).ownBlock) (by rfl) (by rfl) SP.held' hrr (fun _ _ h => h) (fun k hk => SP.off k hk.1) (fun k hk => (SP.new k hk).2) SP.bel SP.bel.size (by rw [HHL.out]; have := HI2.out; omega) ?_
      intro v31 w29 ho hb hg hat
      have SQ := SP.joined hg hb ho
      obtain ⟨Ah2, ch2, rfl⟩ := Kd.R_slice ho
      rw [show (hs ++ [⟨List.replicate n3 (Go.IntKind.u8.wrap (wrap64 (wrap64 (17 * (i : Int)) + 1))), List.replicate n3 (Go.IntKind.u8.wrap (wrap64 (wrap64 (17 * (i : Int)) + 1))) ++ mo1, List.replicate n3 (Go.IntKind.u8.wrap (wrap64 (wrap64 (17 * (i : Int)) + 1))) ++ mo1⟩, ⟨List.replicate n6 (Go.IntKind.u8.wrap (wrap64 (wrap64 (29 * (i : Int)) + 101))), List.replicate n6 (Go.IntKind.u8.wrap (wrap64 (wrap64 (29 * (i : Int)) + 101))) ++ mo2, List.replicate n6 (Go.IntKind.u8.wrap (wrap64 (wrap64 (29 * (i : Int)) + 101))) ++ mo2⟩] : List QOwn.S60).length = 2 * (i + 1) from (by rw [List.length_append, HHL.out]; rfl)] at SQ ⊢
      have HB13 := (blk_grown (SP.box _ (List.mem_cons_of_mem _ List.mem_cons_self)).1 hg (Kd.R_ne SP.held (SP.box _ (List.mem_cons_of_mem _ List.mem_cons_self)).1 (by decide)))
      clear ho hb hg hat hal hrr HL SP
      refine hK.out _ _ ((blk_cell HB13 2).trans rfl) (fun hHeld => ?_)
      clear HB13
      clear hK K
      refine norm_ (a' := ?_) ?_ ?_
      rotate_left
      · show Act.put _ (some 170) _ = _
        simp only [Act.put, List.setIfInBounds_toArray, List.set_cons_zero, List.set_cons_succ, i64_w, i32_w]
        rfl
      refine pure_ (i := 16) (N := some 3) (v := ?_) (a' := ?_) #[true, true, true, true, true, true, true, true, true, true, true, true, true, true, true, true, true] rfl rfl (any_of HT_.out (by kernel_rfl)) (fun _ _ _ h => h) (Or.inl ⟨by rfl, ?_⟩) ?_ ?_
      rotate_left
      · intro w'
        go_simp
        with_reducible rfl
      rotate_left
      · simp only [Act.put, List.setIfInBounds_toArray, List.set_cons_zero, List.set_cons_succ, i64_w, i32_w]
        rfl
      refine done_ (done_of HT_.out (by kernel_rfl)) ?_
      clear hHeld HT_ HW_
      have HHS2 := Aside0.mk (stays_more HHS.out (stays_hold n3 (Go.IntKind.u8.wrap (wrap64 (wrap64 (17 * (i : Int)) + 1))) mo1 (by have := L3.out; omega) MO1.out) (stays_hold n6 (Go.IntKind.u8.wrap (wrap64 (wrap64 (29 * (i : Int)) + 101))) mo2 (by have := L6.out; omega) MO2.out))
      go_wp2_with (first | (go_at_call 32; have uu := SQ; clear uu; go_must (refine (SQ.still HHS2.out (by have := HI2.out; omega)).mono ?_; rintro e w30 ⟨rfl, hb⟩; have SR := SQ.below hb; clear hb SQ)) | (go_at_call 31; have uu := SR; clear uu; go_must (refine (c_untouched (SR.of 1 rfl) (SR.of 2 rfl) (by have := L5.out; omega)).mono ?_; rintro e w31 ⟨rfl, hd⟩; have SS := SR.below (drawn_below hd); have hq := (HX.below SS.bel).c2; clear hd SR)) | (go_at_call 31; have uu := SS; clear uu; go_must (refine (c_untouched (SS.of 0 rfl) (HRD.out.below SS.bel) (by omega)).mono ?_; rintro e w32 ⟨rfl, hd⟩; have SY := SS.below (drawn_below hd); clear hd hq SS)) | (go_at_call 34; have uu := SY; clear uu; go_must (refine (SY.fill (n := body.length + 8) (by simp) (by omega) _).mono ?_; rintro e w33 ⟨rfl, h0⟩; have SU := h0.swap; clear h0 SY)) | (go_at_call 34; have uu := SU; clear uu; go_must (refine (SU.fill (n := n3 + 8) (by simp [L3e.out]) (by have := L3.out; omega) _).mono ?_; rintro e w34 ⟨rfl, SV⟩; clear SU)) | (go_at_call 32; have uu := SV; clear uu; go_must (refine (SV.still HHS2.out (by have := HI2.out; omega)).mono ?_; rintro e w35 ⟨rfl, hb⟩; have SW := SV.below hb; have hx0 := (HX.below SW.bel).c0; have hx1 := (HX.below SW.bel).c1; have hx2 := (HX.below SW.bel).c2; have hx3 := (HX.below SW.bel).c3; clear hb SV)) | (go_at_call 35; have uu := SW; clear uu; go_must (refine (SW.again ⟨Int.emod_nonneg _ (by decide), Int.emod_lt_of_pos _ (by decide)⟩ ⟨Int.emod_nonneg _ (by decide), Int.emod_lt_of_pos _ (by decide)⟩ (by have := L3.out; omega) hbl kind gen size body HIO.out A2 body.length c2).mono ?_; rintro e w36 ⟨rfl, hb⟩; have SX := SW.below hb; clear hb hx0 hx1 hx2 hx3 SW)))
      go_roundg (n - i)
      case measure => have := HIK.out; have := HI2.out; omega
      case rel => exact ⟨i + 1, _, by go_num, ⟨by have := HI2.out; omega⟩, ⟨by have := HI2.out; omega⟩, ⟨by rw [List.length_append, HHL.out]; rfl⟩, HHS2, ⟨Kd.R_mono SX.held (fun _ _ => trivial)⟩, ⟨SX.bel⟩⟩
    · have hi1 : i = n := by have := HI.out; omega
      subst hi1
      have hi3 : decide ((i : Int) < (i : Int)) = false := decide_eq_false (by omega)
      clear hi HI HIK
      go_wp2
      go_ret
      exact ⟨rfl, HBX.out⟩
end Go.Proofs.Ythggjlfiliggjaa.Own
