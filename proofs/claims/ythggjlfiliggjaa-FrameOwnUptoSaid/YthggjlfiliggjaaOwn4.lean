/- By hand: anew (lists that were written over are handed in again). -/
import Derived.Test.YthggjlfiliggjaaOwn3
namespace Go.Proofs.Ythggjlfiliggjaa.Own
open Go.RowKit Go.Proofs.Ythggjlfiliggjaa.QFr Go.Proofs.YthggjlfiliggjaaW.PrintWords Go.Proofs.YthggjlfiliggjaaW.PrintLast Go.Proofs.YthggjlfiliggjaaW.PrintMore Go.Proofs.Ythggjlfiliggjaa.Crc Go.Proofs.Ythggjlfiliggjaa.QFrExt Go.Proofs.Ythggjlfiliggjaa.FrPure Go.Proofs.Ythggjlfiliggjaa.FrLaws
set_option linter.unusedVariables false
set_option linter.unusedSimpArgs false

theorem putS35 {w W : World} {gr : Nat} {a b c : Value} (blk : W.heap[gr]? = some (.cells #[a, b, c] 35 (0, 0))) (bel : Below w.heap.size w W) (le : w.heap.size ≤ gr) (v0 v1 v2 : Value) :
    (((W.setCell ⟨gr, 0, none⟩ v0).setCell ⟨gr, 1, none⟩ v1).setCell ⟨gr, 2, none⟩ v2).heap[gr]? = some (.cells #[v0, v1, v2] 35 (0, 0)) ∧ Below w.heap.size w (((W.setCell ⟨gr, 0, none⟩ v0).setCell ⟨gr, 1, none⟩ v1).setCell ⟨gr, 2, none⟩ v2) ∧ W.grownBy (((W.setCell ⟨gr, 0, none⟩ v0).setCell ⟨gr, 1, none⟩ v1).setCell ⟨gr, 2, none⟩ v2) (some gr) :=
  ⟨blk_put (blk_put (blk_put blk 0 v0 rfl) 1 v1 rfl) 2 v2 rfl, below_set (below_set (below_set bel le) le) le,
    World.grownBy.trans (World.grownBy.trans (grown_set _ _ _ _) (grown_set _ _ _ _)) (grown_set _ _ _ _)⟩
theorem OR.below {W W1 : World} {base : Nat} {v : Value} {l : List Int} (h : OR W base v l) (hb : Below W.heap.size W W1) : OR W1 base v l := Kd.R_below h hb
theorem OR.far {W W1 : World} {base gr : Nat} {cs : Array Value} {v : Value} {l : List Int} (h : OR W base v l) (blk : W.heap[gr]? = some (.cells cs 35 (0, 0))) (hg : W.grownBy W1 (some gr)) : OR W1 base v l := row_farT h blk (by decide) hg
theorem drawn_below {W w' : World} (h : Drawn0 W w') : Below W.heap.size W w' := by
  obtain ⟨n, rfl⟩ := h.out
  exact pw_below_drewN (Below.refl _ _) n
def anewT.T : Bool × List (List Nat × List Nat) := (true, [([], []), ([0], [0]), ([1], [1]), ([], []), ([3], [3]), ([4], [4]), ([], []), ([6], [6]), ([2, 5, 7], [2, 5, 7]), ([], []), ([9], [9]), ([8, 10, 7], [8, 10]), ([11], [11]), ([12], [12]), ([12], [12]), ([13, 11, 0, 1, 2, 3, 4, 5, 6, 7, 8, 9, 10, 11, 12, 13], [13]), ([14, 15, 0, 1, 2, 3, 4, 5, 6, 7, 8, 9, 10, 11, 12, 13, 14, 15], [14])])
def anewT.B : List Nat := [0, 1, 3, 0, 8, 24, 0, 64, 255, 0, 512, 2047, 4095, 8191, 8191, 16383, 65535]
theorem anewT.tab : rtab .any (opsOf Try.f35 4) = anewT.T := by kernel_rfl
theorem anewT.bits : waitsOk anewT.T.2 anewT.B = true := by kernel_rfl

set_option maxHeartbeats 8000000 in
set_option maxRecDepth 100000 in
theorem anew {w : World} {A0 A1 A2 : Option Addr} {n0 c0 n1 c1 n2 c2 : Nat} {l0 l1 l2 : List Int} (h0 : RD w A0 n0 c0 l0) (h1 : RD w A1 n1 c1 l1) (hb0 : Bytes l0) (hb1 : Bytes l1) (kind gen size : Int) (hk : 0 ≤ kind ∧ kind < 256) (hg : 0 ≤ gen ∧ gen < 18446744073709551616) (hl0 : n0 ≤ 4194304) (hl1 : n1 ≤ 4194304) :
    Calls Try.prog 35 #[.slice A0 n0 c0, .slice A1 n1 c1, .agg #[.int .u8 kind, .int .u64 gen, .slice A2 n2 c2, .int .i64 size]] w fun e w' => e = .returned (.bool true) ∧ Below w.heap.size w w' := by
  have hu57 := Try.underlying57
  have hu35 := Try.underlying35
  have HK := Aside0.mk hk
  have HG := Aside0.mk hg
  have HB := Aside0.mk (Below.refl w.heap.size w)
  have HOL : Aside0 ((opened l0).2.2.1.length ≤ 4194304) := ⟨by have := opened_len l0; rw [h0.len] at this; omega⟩
  clear hk hg
  obtain ⟨ob, og, ol, oe, hop⟩ : ∃ ob og ol oe, opened l0 = (ob, og, ol, oe) := ⟨_, _, _, _, rfl⟩
  obtain ⟨sl, se, hsl⟩ : ∃ sl se, sealed kind gen l1 size = (sl, se) := ⟨_, _, rfl⟩
  have HOP := Aside0.mk hop
  have HSL := Aside0.mk hsl
  have HSN := Aside0.mk (sealed_len kind gen l1 size)
  rw [hop] at HOL
  rw [hsl] at HSN
  clear hop hsl
  go_enter Try.func35, Try.ntmps35
  go_wp2_with (first | ((with_reducible refine gate_dst (N := 5) rfl ?_); go_must (refine box_event ?hg (N := 5) ?hd (cs := #[.int .u8 kind, .int .u64 gen, .slice A2 n2 c2, .int .i64 size]) (t := 57) ?hr ?_); (case hd => rfl); (case hg => rfl); (case hr => first | (go_simp; done) | (go_simp; rfl)); intro gb hg w1 hbox hb; have HB1 := Aside0.mk (below_then HB.out HB.out.size hb); have B5 := Aside0.mk hbox; clear hbox hb hg HB) | (go_at_call 23; go_must (have hq := c_open (h0.below HB1.out) hb0; rw [HOP.out] at hq; refine hq.mono ?_; rintro e w2 ⟨A3, n3, c3, rfl, hr, hb⟩; have R3 := Aside0.mk hr; have B5b := Aside0.mk (blk_below B5.out hb); have HB2 := Aside0.mk (below_then HB1.out HB1.out.size hb); clear hr hb hq B5 HB1)) | ((with_reducible refine gate_dst (N := 7) rfl ?_); go_must (refine box_event ?hg (N := 7) ?hd (cs := #[.int .u8 0, .int .u64 0, .slice none 0 0]) (t := 35) ?hr ?_); (case hd => rfl); (case hg => rfl); (case hr => first | (go_simp; done) | (go_simp; rfl)); intro g7 hg w3 hbox hb; have HB3 := Aside0.mk (below_then HB2.out HB2.out.size hb); have B7 := Aside0.mk hbox; have G7 := Aside0.mk (by rw [hg]; exact HB2.out.size : w.heap.size ≤ g7); have R3b := Aside0.mk (OR.below R3.out hb); have B5c := Aside0.mk (blk_below B5b.out hb); have hc0 : w3.cell? ⟨g7, 0, none⟩ = some (.int .u8 0) := (blk_cell B7.out 0).trans rfl; have hc1 : w3.cell? ⟨g7, 1, none⟩ = some (.int .u64 0) := (blk_cell B7.out 1).trans rfl; have hc2 : w3.cell? ⟨g7, 2, none⟩ = some (.slice none 0 0) := (blk_cell B7.out 2).trans rfl; have hf0 := blk_frozen B7.out 0; have hf1 := blk_frozen B7.out 1; have hf2 := blk_frozen B7.out 2; clear hbox hb hg HB2 R3 B5b) | (go_at_call 15; go_must (first | (have uu := B7; clear uu; have ST := Aside0.mk (putS35 B7.out HB3.out G7.out (.int .u8 ob) (.int .u64 og) (.slice A3 n3 c3)); have R3c := Aside0.mk (OR.far R3b.out B7.out ST.out.2.2); have B5d := Aside0.mk (blk_grown B5c.out ST.out.2.2 (fun e => blk_ne B5c.out B7.out (by decide) (Option.some.inj e))); clear hc0 hc1 hc2 hf0 hf1 hf2 R3b B5c B7 HB3; generalize ((w3.setCell ⟨g7, 0, none⟩ (.int .u8 ob)).setCell ⟨g7, 1, none⟩ (.int .u64 og)).setCell ⟨g7, 2, none⟩ (.slice A3 n3 c3) = w4 at *; refine (c_copied (h0.below ST.out.2.1) (by omega)).mono ?_; rintro e w5 ⟨A4, c4, rfl, hr, hb⟩; have R4 := Aside0.mk hr; have R3d := Aside0.mk (OR.below R3c.out hb); have B5e := Aside0.mk (blk_below B5d.out hb); have B7b := Aside0.mk (blk_below ST.out.1 hb); have HB5 := Aside0.mk (below_then ST.out.2.1 ST.out.2.1.size hb); clear hr hb ST R3c B5d))) | (go_at_call 24; go_must (have hq := c_refOpen R4.out.rd hb0 (by omega); rw [HOP.out] at hq; refine hq.mono ?_; rintro e w6 ⟨A5, n5, c5, rfl, hr, hb⟩; have R5 := Aside0.mk hr; have R3e := Aside0.mk (OR.below R3d.out hb); have B5f := Aside0.mk (blk_below B5e.out hb); have B7c := Aside0.mk (blk_below B7b.out hb); have HB6 := Aside0.mk (below_then HB5.out HB5.out.size hb); clear hr hb hq R4 R3d B5e B7b HB5)) | ((with_reducible refine gate_dst (N := 9) rfl ?_); go_must (refine box_event ?hg (N := 9) ?hd (cs := #[.int .u8 0, .int .u64 0, .slice none 0 0]) (t := 35) ?hr ?_); (case hd => rfl); (case hg => rfl); (case hr => first | (go_simp; done) | (go_simp; rfl)); intro g9 hg w7 hbox hb; have HB7 := Aside0.mk (below_then HB6.out HB6.out.size hb); have B9 := Aside0.mk hbox; have G9 := Aside0.mk (by rw [hg]; exact HB6.out.size : w.heap.size ≤ g9); have R5b := Aside0.mk (OR.below R5.out hb); have R3f := Aside0.mk (OR.below R3e.out hb); have NB : gb ≠ g9 := (by rw [hg]; exact Nat.ne_of_lt (blk_lt B5f.out)); have N7 : g7 ≠ g9 := (by rw [hg]; exact Nat.ne_of_lt (blk_lt B7c.out)); have NB2 := Ne.symm NB; have B5g := Aside0.mk (blk_below B5f.out hb); have B7d := Aside0.mk (blk_below B7c.out hb); have hc0 : w7.cell? ⟨g9, 0, none⟩ = some (.int .u8 0) := (blk_cell B9.out 0).trans rfl; have hc1 : w7.cell? ⟨g9, 1, none⟩ = some (.int .u64 0) := (blk_cell B9.out 1).trans rfl; have hc2 : w7.cell? ⟨g9, 2, none⟩ = some (.slice none 0 0) := (blk_cell B9.out 2).trans rfl; have hf0 := blk_frozen B9.out 0; have hf1 := blk_frozen B9.out 1; have hf2 := blk_frozen B9.out 2; have hd0 : w7.cell? ⟨gb, 0, none⟩ = some (.int .u8 kind) := (blk_cell B5g.out 0).trans rfl; have hd1 : w7.cell? ⟨gb, 1, none⟩ = some (.int .u64 gen) := (blk_cell B5g.out 1).trans rfl; have hd2 : w7.cell? ⟨gb, 2, none⟩ = some (.slice A2 n2 c2) := (blk_cell B5g.out 2).trans rfl; have hd3 : w7.cell? ⟨gb, 3, none⟩ = some (.int .i64 size) := (blk_cell B5g.out 3).trans rfl; clear hbox hb hg HB6 R5 R3e B5f B7c) | (go_at_call 20; go_must (have ST := Aside0.mk (putS35 B9.out HB7.out G9.out (.int .u8 ob) (.int .u64 og) (.slice A5 n5 c5)); have R3g := Aside0.mk (OR.far R3f.out B9.out ST.out.2.2); have R5c := Aside0.mk (OR.far R5b.out B9.out ST.out.2.2); have B5h := Aside0.mk (blk_grown B5g.out ST.out.2.2 (fun e => NB (Option.some.inj e))); have B7e := Aside0.mk (blk_grown B7d.out ST.out.2.2 (fun e => N7 (Option.some.inj e))); clear hc0 hc1 hc2 hf0 hf1 hf2 hd0 hd1 hd2 hd3 R3f R5b B5g B7d B9 HB7; generalize ((w7.setCell ⟨g9, 0, none⟩ (.int .u8 ob)).setCell ⟨g9, 1, none⟩ (.int .u64 og)).setCell ⟨g9, 2, none⟩ (.slice A5 n5 c5) = w8 at *; have hq := c_seal (h1.below ST.out.2.1) hb1 kind gen size HK.out; rw [HSL.out] at hq; refine hq.mono ?_; rintro e w9 ⟨A6, n6, c6, rfl, hr, hb⟩; have R6 := Aside0.mk hr; have R3 := Aside0.mk (OR.below R3g.out hb); have R5 := Aside0.mk (OR.below R5c.out hb); have B5 := Aside0.mk (blk_below B5h.out hb); have B7 := Aside0.mk (blk_below B7e.out hb); have B9 := Aside0.mk (blk_below ST.out.1 hb); have HB := Aside0.mk (below_then ST.out.2.1 ST.out.2.1.size hb); clear hr hb hq ST R3g R5c B5h B7e)))
  have d3 := Aside0.mk (Kd.R_drew R3.out)
  have d5 := Aside0.mk (Kd.R_drew R5.out)
  have d6 := Aside0.mk (Kd.R_drew R6.out)
  have e5 := Aside0.mk (blk_drew B5.out)
  have e7 := Aside0.mk (blk_drew B7.out)
  have e9 := Aside0.mk (blk_drew B9.out)
  have HBd := Aside0.mk (below_drew1 HB.out)
  clear R3 R5 R6 B5 B7 B9 HB
  refine start_ (n := 17) (S := fun w' => w'.cell? ⟨gb, 0, none⟩ = some (.int .u8 kind) ∧ w'.cell? ⟨gb, 1, none⟩ = some (.int .u64 gen) ∧ w'.cell? ⟨gb, 2, none⟩ = some (.slice A2 n2 c2) ∧ w'.cell? ⟨gb, 3, none⟩ = some (.int .i64 size)) (ds := []) #[false, false, false, false, false, false, false, false, false, false, false, false, false, false, false, false, false] (by kernel_rfl) rfl rfl ⟨(blk_cell e5.out 0).trans rfl, (blk_cell e5.out 1).trans rfl, (blk_cell e5.out 2).trans rfl, (blk_cell e5.out 3).trans rfl⟩ (fun hHeld => ?_); refine with_tabW anewT.tab anewT.bits (fun HT_ HW_ => ?_)
  generalize w9.drew = w10 at *
  refine pure_ (i := 0) (N := some 41) (v := ?_) (a' := ?_) #[true, false, false, false, false, false, false, false, false, false, false, false, false, false, false, false, false] rfl rfl (any_of HT_.out (by kernel_rfl)) (fun _ _ _ h => h) (Or.inl ⟨by rfl, ?_⟩) ?_ ?_
  rotate_left
  · intro w'
    go_simp
    with_reducible rfl
  rotate_left
  · simp only [Act.put, List.setIfInBounds_toArray, List.set_cons_zero, List.set_cons_succ, i64_w, i32_w]
    rfl
  refine pure_ (i := 1) (N := some 42) (v := ?_) (a' := ?_) #[true, true, false, false, false, false, false, false, false, false, false, false, false, false, false, false, false] rfl rfl (any_of HT_.out (by kernel_rfl)) (fun _ _ _ h => h) (Or.inl ⟨by rfl, ?_⟩) ?_ ?_
  rotate_left
  · intro w'
    go_simp
    with_reducible rfl
  rotate_left
  · simp only [Act.put, List.setIfInBounds_toArray, List.set_cons_zero, List.set_cons_succ, i64_w, i32_w]
    rfl
  refine pure_ (i := 3) (N := some 44) (v := ?_) (a' := ?_) #[true, true, false, true, false, false, false, false, false, false, false, false, false, false, false, false, false] rfl rfl (any_of HT_.out (by kernel_rfl)) (fun _ _ _ h => h) (Or.inl ⟨by rfl, ?_⟩) ?_ ?_
  rotate_left
  · intro w'
    go_simp
    with_reducible rfl
  rotate_left
  · simp only [Act.put, List.setIfInBounds_toArray, List.set_cons_zero, List.set_cons_succ, i64_w, i32_w]
    rfl
  refine pure_ (i := 4) (N := some 45) (v := ?_) (a' := ?_) #[true, true, false, true, true, false, false, false, false, false, false, false, false, false, false, false, false] rfl rfl (any_of HT_.out (by kernel_rfl)) (fun _ _ _ h => h) (Or.inl ⟨by rfl, ?_⟩) ?_ ?_
  rotate_left
  · intro w'
    go_simp
    with_reducible rfl
  rotate_left
  · simp only [Act.put, List.setIfInBounds_toArray, List.set_cons_zero, List.set_cons_succ, i64_w, i32_w]
    rfl
  refine pure_ (i := 6) (N := some 47) (v := ?_) (a' := ?_) #[true, true, false, true, true, false, true, false, false, false, false, false, false, false, false, false, false] rfl rfl (any_of HT_.out (by kernel_rfl)) (fun _ _ _ h => h) (Or.inl ⟨by rfl, ?_⟩) ?_ ?_
  rotate_left
  · intro w'
    go_simp
    with_reducible rfl
  rotate_left
  · simp only [Act.put, List.setIfInBounds_toArray, List.set_cons_zero, List.set_cons_succ, i64_w, i32_w]
    rfl
  refine pure_ (i := 9) (N := some 50) (v := ?_) (a' := ?_) #[true, true, false, true, true, false, true, false, false, true, false, false, false, false, false, false, false] rfl rfl (any_of HT_.out (by kernel_rfl)) (fun _ _ _ h => h) (Or.inl ⟨by rfl, ?_⟩) ?_ ?_
  rotate_left
  · intro w'
    go_simp
    with_reducible rfl
  rotate_left
  · simp only [Act.put, List.setIfInBounds_toArray, List.set_cons_zero, List.set_cons_succ, i64_w, i32_w]
    rfl
  refine take_ (i := 2) (N := some 43) (v := ?_) (a' := ?_) #[true, true, true, true, true, false, true, false, false, true, false, false, false, false, false, false, false] rfl rfl (take_ofW HT_.out HW_.out (by kernel_rfl)) (fun _ _ _ h => h) (Or.inl ⟨by rfl, ?_⟩) hHeld ?_ ?_
  rotate_left
  · rintro w' ⟨s0, s1, s2, s3⟩
    go_simp
    with_reducible rfl
  rotate_left
  · simp only [Act.put, List.setIfInBounds_toArray, List.set_cons_zero, List.set_cons_succ, i64_w, i32_w]
    rfl
  refine take_ (i := 5) (N := some 46) (v := ?_) (a' := ?_) #[true, true, true, true, true, true, true, false, false, true, false, false, false, false, false, false, false] rfl rfl (take_ofW HT_.out HW_.out (by kernel_rfl)) (fun _ _ _ h => h) (Or.inl ⟨by rfl, ?_⟩) hHeld ?_ ?_
  rotate_left
  · rintro w' ⟨s0, s1, s2, s3⟩
    go_simp
    with_reducible rfl
  rotate_left
  · simp only [Act.put, List.setIfInBounds_toArray, List.set_cons_zero, List.set_cons_succ, i64_w, i32_w]
    rfl
  refine take_ (i := 10) (N := some 51) (v := ?_) (a' := ?_) #[true, true, true, true, true, true, true, false, false, true, true, false, false, false, false, false, false] rfl rfl (take_ofW HT_.out HW_.out (by kernel_rfl)) (fun _ _ _ h => h) (Or.inl ⟨by rfl, ?_⟩) hHeld ?_ ?_
  rotate_left
  · rintro w' ⟨s0, s1, s2, s3⟩
    go_simp
    with_reducible rfl
  rotate_left
  · simp only [Act.put, List.setIfInBounds_toArray, List.set_cons_zero, List.set_cons_succ, i64_w, i32_w]
    rfl
  refine one_ (i := 7) (N := some 48) #[true, true, true, true, true, true, true, true, false, true, true, false, false, false, false, false, false] rfl rfl (one_of HT_.out (by kernel_rfl)) (by decide) (fun K hK => ?_)
  refine goes_ Try.func15 (by kernel_rfl) rfl #[.slice A1 n1 c1] (by rfl) rfl rfl (by (try simp only [List.map_toArray, List.map_cons, List.map_nil]); first | done | rfl | (simp only [List.length_drop, List.length_take]; rfl)) ?_
  refine (c_copied (h1.below HBd.out) (by omega)).mono ?_
  rintro e w11 ⟨A7, c7, rfl, hr, hb⟩
  refine ⟨_, rfl, ?_⟩
  have R7 := Aside0.mk hr
  have f3 := Aside0.mk (OR.below d3.out hb)
  have f5 := Aside0.mk (OR.below d5.out hb)
  have f6 := Aside0.mk (OR.below d6.out hb)
  have k5 := Aside0.mk (blk_below e5.out hb)
  have k7 := Aside0.mk (blk_below e7.out hb)
  have k9 := Aside0.mk (blk_below e9.out hb)
  have HBe := Aside0.mk (below_then HBd.out HBd.out.size hb)
  clear hr hb d3 d5 d6 e5 e7 e9 HBd
  refine hK.out _ _ ⟨(blk_cell k5.out 0).trans rfl, (blk_cell k5.out 1).trans rfl, (blk_cell k5.out 2).trans rfl, (blk_cell k5.out 3).trans rfl⟩ (fun hHeld => ?_)
  clear hK K
  refine norm_ (a' := ?_) ?_ ?_
  rotate_left
  · show Act.put _ (some 48) _ = _
    simp only [Act.put, List.setIfInBounds_toArray, List.set_cons_zero, List.set_cons_succ, i64_w, i32_w]
    rfl
  refine pure_ (i := 8) (N := some 49) (v := ?_) (a' := ?_) #[true, true, true, true, true, true, true, true, true, true, true, false, false, false, false, false, false] rfl rfl (any_of HT_.out (by kernel_rfl)) (fun _ _ _ h => h) (Or.inl ⟨by rfl, ?_⟩) ?_ ?_
  rotate_left
  · intro w'
    go_simp
    with_reducible rfl
  rotate_left
  · simp only [Act.put, List.setIfInBounds_toArray, List.set_cons_zero, List.set_cons_succ, i64_w, i32_w]
    rfl
  refine one_ (i := 11) (N := some 52) #[true, true, true, true, true, true, true, true, true, true, true, true, false, false, false, false, false] rfl rfl (one_of HT_.out (by kernel_rfl)) (by decide) (fun K hK => ?_)
  refine goes_ Try.func21 (by kernel_rfl) rfl #[.agg #[.int .u8 kind, .int .u64 gen, .slice A7 n1 c7], .int .i64 size] (by rfl) rfl rfl (by (try simp only [List.map_toArray, List.map_cons, List.map_nil]); first | done | rfl | (simp only [List.length_drop, List.length_take]; rfl)) ?_
  have hq := c_refSeal R7.out.rd hb1 kind gen size HK.out HG.out
  rw [HSL.out] at hq
  refine hq.mono ?_
  rintro e w12 ⟨A8, n8, c8, rfl, hr, hb⟩
  refine ⟨_, rfl, ?_⟩
  have R8 := Aside0.mk hr
  have g3 := Aside0.mk (OR.below f3.out hb)
  have g5 := Aside0.mk (OR.below f5.out hb)
  have g6 := Aside0.mk (OR.below f6.out hb)
  have j5 := Aside0.mk (blk_below k5.out hb)
  have j7 := Aside0.mk (blk_below k7.out hb)
  have j9 := Aside0.mk (blk_below k9.out hb)
  have HBf := Aside0.mk (below_then HBe.out HBe.out.size hb)
  clear hr hb hq f3 f5 f6 k5 k7 k9 HBe R7
  refine hK.out _ _ ⟨(blk_cell j5.out 0).trans rfl, (blk_cell j5.out 1).trans rfl, (blk_cell j5.out 2).trans rfl, (blk_cell j5.out 3).trans rfl⟩ (fun hHeld => ?_)
  clear hK K
  refine norm_ (a' := ?_) ?_ ?_
  rotate_left
  · show Act.put _ (some 52) _ = _
    simp only [Act.put, List.setIfInBounds_toArray, List.set_cons_zero, List.set_cons_succ, i64_w, i32_w]
    rfl
  refine pure_ (i := 12) (N := some 40) (v := ?_) (a' := ?_) #[true, true, true, true, true, true, true, true, true, true, true, true, true, false, false, false, false] rfl rfl (any_of HT_.out (by kernel_rfl)) (fun _ _ _ h => h) (Or.inl ⟨by rfl, ?_⟩) ?_ ?_
  rotate_left
  · intro w'
    go_simp
    with_reducible rfl
  rotate_left
  · simp only [Act.put, List.setIfInBounds_toArray, List.set_cons_zero, List.set_cons_succ, i64_w, i32_w]
    rfl
  refine pure_ (i := 13) (N := some 53) (v := ?_) (a' := ?_) #[true, true, true, true, true, true, true, true, true, true, true, true, true, true, false, false, false] rfl rfl (any_of HT_.out (by kernel_rfl)) (fun _ _ _ h => h) (Or.inl ⟨by rfl, ?_⟩) ?_ ?_
  rotate_left
  · intro w'
    go_simp
    with_reducible rfl
  rotate_left
  · simp only [Act.put, List.setIfInBounds_toArray, List.set_cons_zero, List.set_cons_succ, i64_w, i32_w]
    rfl
  refine pure_ (i := 14) (N := some 54) (v := ?_) (a' := ?_) #[true, true, true, true, true, true, true, true, true, true, true, true, true, true, true, false, false] rfl rfl (any_of HT_.out (by kernel_rfl)) (fun _ _ _ h => h) (Or.inl ⟨by rfl, ?_⟩) ?_ ?_
  rotate_left
  · intro w'
    go_simp
    with_reducible rfl
  rotate_left
  · simp only [Act.put, List.setIfInBounds_toArray, List.set_cons_zero, List.set_cons_succ, i64_w, i32_w]
    rfl
  refine pure_ (i := 15) (N := some 13) (v := ?_) (a' := ?_) #[true, true, true, true, true, true, true, true, true, true, true, true, true, true, true, true, false] rfl rfl (any_of HT_.out (by kernel_rfl)) (fun _ _ _ h => h) (Or.inl ⟨by rfl, ?_⟩) ?_ ?_
  rotate_left
  · intro w'
    go_simp
    with_reducible rfl
  rotate_left
  · simp only [Act.put, List.setIfInBounds_toArray, List.set_cons_zero, List.set_cons_succ, i64_w, i32_w]
    rfl
  refine pure_ (i := 16) (N := some 14) (v := ?_) (a' := ?_) #[true, true, true, true, true, true, true, true, true, true, true, true, true, true, true, true, true] rfl rfl (any_of HT_.out (by kernel_rfl)) (fun _ _ _ h => h) (Or.inl ⟨by rfl, ?_⟩) ?_ ?_
  rotate_left
  · intro w'
    go_simp
    with_reducible rfl
  rotate_left
  · simp only [Act.put, List.setIfInBounds_toArray, List.set_cons_zero, List.set_cons_succ, i64_w, i32_w]
    rfl
  refine done_ (done_of HT_.out (by kernel_rfl)) ?_
  clear hHeld
  have ha0 : w12.cell? ⟨g7, 0, none⟩ = some (.int .u8 ob) := (blk_cell j7.out 0).trans rfl
  have ha1 : w12.cell? ⟨g7, 1, none⟩ = some (.int .u64 og) := (blk_cell j7.out 1).trans rfl
  have ha2 : w12.cell? ⟨g7, 2, none⟩ = some (.slice A3 n3 c3) := (blk_cell j7.out 2).trans rfl
  have hb9_0 : w12.cell? ⟨g9, 0, none⟩ = some (.int .u8 ob) := (blk_cell j9.out 0).trans rfl
  have hb9_1 : w12.cell? ⟨g9, 1, none⟩ = some (.int .u64 og) := (blk_cell j9.out 1).trans rfl
  have hb9_2 : w12.cell? ⟨g9, 2, none⟩ = some (.slice A5 n5 c5) := (blk_cell j9.out 2).trans rfl
  have L3 : Aside0 (n3 ≤ 4194304) := ⟨by rw [← g3.out.rd.len]; exact HOL.out⟩
  have L6 : Aside0 (n6 ≤ 8192) := ⟨by rw [← g6.out.rd.len]; exact HSN.out⟩
  go_wp2_with (first | (go_at_call 25; go_must (refine (c_sameFrame g3.out.rd g5.out.rd (by have := L3.out; omega) ob og).mono ?_; rintro e w13 ⟨rfl, hb⟩; have HB3 := Aside0.mk (below_then HBf.out HBf.out.size hb); have S6 := Aside0.mk (OR.below g6.out hb); have S8 := Aside0.mk (OR.below R8.out hb); clear hb HBf g3 g5 g6 R8 j5 j7 j9 ha0 ha1 ha2 hb9_0 hb9_1 hb9_2)) | (go_at_call 22; go_must (refine (c_same S6.out.rd S8.out.rd (by have := L6.out; omega)).mono ?_; rintro e w14 ⟨rfl, hd⟩; have HB4 := Aside0.mk (below_then HB3.out HB3.out.size (drawn_below hd)); clear hd HB3 S6 S8)) | (go_at_call 17; go_must (refine (c_sum (h0.below HB4.out) hb0 (by omega)).mono ?_; rintro e w15 ⟨rfl, hd⟩; have HB5 := Aside0.mk (below_then HB4.out HB4.out.size (drawn_below hd)); clear hd HB4)) | (go_at_call 15; go_must (first | (have uu := HB5; clear uu; refine (c_copied (h0.below HB5.out) (by omega)).mono ?_; rintro e w16 ⟨A9, c9, rfl, hr, hb⟩; have R9 := Aside0.mk hr; have HB6 := Aside0.mk (below_then HB5.out HB5.out.size hb); clear hr hb HB5) | (refine (c_copied (h0.below HB8.out) (by omega)).mono ?_; rintro e w19 ⟨A10, c10, rfl, hr, hb⟩; have R10 := Aside0.mk hr; have HB9 := Aside0.mk (below_then HB8.out HB8.out.size hb); clear hr hb HB8))) | (go_at_call 18; go_must (refine (c_refSum R9.out.rd hb0 (by omega)).mono ?_; rintro e w17 ⟨rfl, hd⟩; have HB7 := Aside0.mk (below_then HB6.out HB6.out.size (drawn_below hd)); clear hd HB6)) | (go_at_call 14; go_must (refine (c_ext (h0.below HB7.out) hb0 (by omega)).mono ?_; rintro e w18 ⟨rfl, hd⟩; have HB8 := Aside0.mk (below_then HB7.out HB7.out.size (drawn_below hd)); clear hd HB7)) | (go_at_call 16; go_must (refine (c_refExt R10.out.rd hb0 (by omega)).mono ?_; rintro e w20 ⟨rfl, hd⟩; have HB10 := Aside0.mk (below_then HB9.out HB9.out.size (drawn_below hd)); clear hd HB9)))
  go_ret
  exact ⟨rfl, HB10.out⟩
end Go.Proofs.Ythggjlfiliggjaa.Own
