/- By hand: calm (what is answered in turn is new memory). -/
import Derived.Test.YthggjlfiliggjaaOwn5
namespace Go.Proofs.Ythggjlfiliggjaa.Own
open Go.RowKit Go.Proofs.Ythggjlfiliggjaa.QFr Go.Proofs.YthggjlfiliggjaaW.PrintWords Go.Proofs.YthggjlfiliggjaaW.PrintLast Go.Proofs.YthggjlfiliggjaaW.PrintMore Go.Proofs.Ythggjlfiliggjaa.Crc Go.Proofs.Ythggjlfiliggjaa.QFrExt Go.Proofs.Ythggjlfiliggjaa.FrPure Go.Proofs.Ythggjlfiliggjaa.FrLaws
set_option linter.unusedVariables false
set_option linter.unusedSimpArgs false

structure CS (w : World) (v3 v4 : Value) (vs ws : List (Value × List Int)) (W : World) : Prop where
  ls : LR W w.heap.size v3 vs
  want : LR W w.heap.size v4 ws
  dj : ∀ k, v3.ownBlock = some k → v4.ownBlock ≠ some k
  apart : vs.Pairwise (fun p q => ∀ k, p.1.ownBlock = some k → q.1.ownBlock ≠ some k)
  bel : Below w.heap.size w W
theorem CS.start (w W : World) (h : Below w.heap.size w W) : CS w (.slice none 0 0) (.slice none 0 0) [] [] W := ⟨LR.nil _ _, LR.nil _ _, fun k hk => by simp [Value.ownBlock] at hk, List.Pairwise.nil, h⟩
theorem CS.below {w : World} {v3 v4 : Value} {vs ws : List (Value × List Int)} {W W1 : World} (h : CS w v3 v4 vs ws W) (hb : Below W.heap.size W W1) : CS w v3 v4 vs ws W1 := ⟨h.ls.below hb, h.want.below hb, h.dj, h.apart, below_then h.bel h.bel.size hb⟩
theorem CS.far {w : World} {v3 v4 : Value} {vs ws : List (Value × List Int)} {W W1 : World} {gr t : Nat} {cs : Array Value} (h : CS w v3 v4 vs ws W) (blk : W.heap[gr]? = some (.cells cs t (0, 0))) (h5 : 5 ≠ t) (h23 : 23 ≠ t) (hg : W.grownBy W1 (some gr)) (hb : Below w.heap.size w W1) : CS w v3 v4 vs ws W1 :=
  ⟨h.ls.far blk h5 h23 hg, h.want.far blk h5 h23 hg, h.dj, h.apart, hb⟩
theorem CS.more1 {w : World} {v3 v4 v1 : Value} {vs ws : List (Value × List Int)} {W W1 : World} {ok : Nat → Prop} {a b : Value} {xa xb : List Int} (h : CS w v3 v4 vs ws W) (ha : OR W w.heap.size a xa) (hb : OR W w.heap.size b xb) (hg : W.grownBy W1 v3.ownBlock) (h1 : Kd.R (Kd.raw 1) 23 W1 w.heap.size ok v1 (vs.map (fun p => [p.1]) ++ [[a], [b]])) (hbel : Below w.heap.size w W1)
    (hat : v1.ownBlock = v3.ownBlock ∨ ∃ b, v1.ownBlock = some b ∧ W.heap.size ≤ b) (hna : ∀ p ∈ vs, ∀ k, p.1.ownBlock = some k → a.ownBlock ≠ some k) (hnb : ∀ p ∈ vs, ∀ k, p.1.ownBlock = some k → b.ownBlock ≠ some k) (hab : ∀ k, a.ownBlock = some k → b.ownBlock ≠ some k) : CS w v1 v4 (vs ++ [(a, xa), (b, xb)]) ws W1 := by
  refine ⟨h.ls.more ha hb hg h1, h.want.other h.ls.outer (fun k hk e => h.dj k e hk) hg, fun k hk e => ?_, ?_, hbel⟩
  · rcases hat with hat | ⟨b', hb', hle⟩
    · exact h.dj k (hat ▸ hk) e
    · rw [hb'] at hk
      injection hk with hk
      have := Kd.R_lt h.want.outer k e
      omega
  · rw [List.pairwise_append]
    refine ⟨h.apart, ?_, fun p hp q hq => ?_⟩
    · simp only [List.pairwise_cons, List.mem_cons, List.not_mem_nil, or_false, forall_eq, List.Pairwise.nil, and_true, false_implies, implies_true]
      exact hab
    · simp only [List.mem_cons, List.not_mem_nil, or_false] at hq
      rcases hq with rfl | rfl
      · exact hna p hp
      · exact hnb p hp
theorem CS.more2 {w : World} {v3 v4 v1 : Value} {vs ws : List (Value × List Int)} {W W1 : World} {ok : Nat → Prop} {a b : Value} {xa xb : List Int} (h : CS w v3 v4 vs ws W) (ha : OR W w.heap.size a xa) (hb : OR W w.heap.size b xb) (hg : W.grownBy W1 v4.ownBlock) (h1 : Kd.R (Kd.raw 1) 23 W1 w.heap.size ok v1 (ws.map (fun p => [p.1]) ++ [[a], [b]])) (hbel : Below w.heap.size w W1)
    (hat : v1.ownBlock = v4.ownBlock ∨ ∃ b, v1.ownBlock = some b ∧ W.heap.size ≤ b) : CS w v3 v1 vs (ws ++ [(a, xa), (b, xb)]) W1 := by
  refine ⟨h.ls.other h.want.outer h.dj hg, h.want.more ha hb hg h1, fun k hk e => ?_, h.apart, hbel⟩
  rcases hat with hat | ⟨b', hb', hle⟩
  · exact h.dj k hk (hat ▸ e)
  · rw [hb'] at e
    injection e with e
    have := Kd.R_lt h.ls.outer k hk
    omega
theorem putS57 {w W : World} {gr : Nat} {a b c d : Value} (blk : W.heap[gr]? = some (.cells #[a, b, c, d] 57 (0, 0))) (bel : Below w.heap.size w W) (le : w.heap.size ≤ gr) (v0 v1 v2 v3 : Value) :
    ((((W.setCell ⟨gr, 0, none⟩ v0).setCell ⟨gr, 1, none⟩ v1).setCell ⟨gr, 2, none⟩ v2).setCell ⟨gr, 3, none⟩ v3).heap[gr]? = some (.cells #[v0, v1, v2, v3] 57 (0, 0)) ∧ Below w.heap.size w ((((W.setCell ⟨gr, 0, none⟩ v0).setCell ⟨gr, 1, none⟩ v1).setCell ⟨gr, 2, none⟩ v2).setCell ⟨gr, 3, none⟩ v3) ∧ W.grownBy ((((W.setCell ⟨gr, 0, none⟩ v0).setCell ⟨gr, 1, none⟩ v1).setCell ⟨gr, 2, none⟩ v2).setCell ⟨gr, 3, none⟩ v3) (some gr) :=
  ⟨blk_put (blk_put (blk_put (blk_put blk 0 v0 rfl) 1 v1 rfl) 2 v2 rfl) 3 v3 rfl, below_set (below_set (below_set (below_set bel le) le) le) le,
    World.grownBy.trans (World.grownBy.trans (World.grownBy.trans (grown_set _ _ _ _) (grown_set _ _ _ _)) (grown_set _ _ _ _)) (grown_set _ _ _ _)⟩
theorem OR.lower {W : World} {base b2 : Nat} {v : Value} {l : List Int} (h : OR W base v l) (hb : b2 ≤ base) : OR W b2 v l := Kd.R_lower h hb
theorem take_row {W : World} {base g n c : Nat} {l t : List Int} {ok : Nat → Prop} (h : Kd.R (Kd.int .u8) 5 W base ok (.slice (some ⟨g, 0, none⟩) n c) (l ++ t)) : RD W (some ⟨g, 0, none⟩) l.length c l := by
  have h2 := Kd.R_take h (m := l.length) (by simp)
  rw [List.take_left' rfl] at h2
  obtain ⟨_, h3, h4⟩ := Kd.R_reads' h2
  exact ⟨h4, h3⟩
structure ItemOk (x : (Int × Int × List Int) × Int) : Prop where
  k : 0 ≤ x.1.1 ∧ x.1.1 < 256
  g : 0 ≤ x.1.2.1 ∧ x.1.2.1 < 18446744073709551616
  b : Bytes x.1.2.2
  l : x.1.2.2.length ≤ 4194304
theorem short_more {vs : List (Value × List Int)} {a b : Value} {sl ol : List Int} (h : ∀ p ∈ vs, p.2.length ≤ 8192) (h1 : sl.length ≤ 8192) (h2 : ol.length ≤ sl.length) : ∀ p ∈ vs ++ [(a, sl), (b, ol)], p.2.length ≤ 8192 := by
  intro p hp
  rcases List.mem_append.1 hp with hp | hp
  · exact h p hp
  · simp only [List.mem_cons, List.not_mem_nil, or_false] at hp
    rcases hp with rfl | rfl
    · exact h1
    · exact Nat.le_trans h2 h1
/-- A row of slices, read at one place. -/
theorem LR.el {W : World} {base g N c : Nat} {vs : List (Value × List Int)} (h : LR W base (.slice (some ⟨g, 0, none⟩) N c) vs) (j : Nat) (hj : j < vs.length) :
    ∃ (A : Option Addr) (m c' : Nat) (l : List Int), vs[j]? = some (.slice A m c', l) ∧ l.length = m ∧ RD W A m c' l ∧ W.cell? ⟨g, j, none⟩ = some (.slice A m c') := by
  have hm := List.getElem_mem hj
  have ho := h.rows _ hm
  obtain ⟨A, c', e⟩ := Kd.R_slice ho
  have he : vs[j]? = some (.slice A (vs[j]).2.length c', (vs[j]).2) := by
    rw [List.getElem?_eq_getElem hj, ← e]
  refine ⟨A, _, c', _, he, rfl, ?_, raw_cell h.outer j _ ?_⟩
  · rw [e] at ho
    exact ho.rd
  · rw [List.getElem?_map, he]
    rfl
theorem LR.form {W : World} {base N : Nat} {v : Value} {vs : List (Value × List Int)} (h : LR W base v vs) (hN : vs.length = N) (hp : 0 < N) : ∃ g c, v = .slice (some ⟨g, 0, none⟩) N c := by
  obtain ⟨g, cap, e, _⟩ := Kd.R_form h.outer (by rw [List.length_map]; omega)
  rw [List.length_map, hN] at e
  exact ⟨g, cap, e⟩
theorem drew_below (W : World) : Below W.heap.size W W.drew := below_drew1 (Below.refl _ _)
def calm17.T : Bool × List (List Nat × List Nat) := (true, [([], []), ([], []), ([0, 1], [0, 1]), ([2], [2]), ([], []), ([], []), ([4, 5], [4, 5]), ([6], [6]), ([3, 7], [3, 7]), ([8], [8])])
def calm17.B : List Nat := [0, 0, 3, 7, 0, 0, 48, 112, 255, 511]
theorem calm17.tab : rtab .any (opsOf Try.f29 17) = calm17.T := by kernel_rfl
theorem calm17.bits : waitsOk calm17.T.2 calm17.B = true := by kernel_rfl
theorem CS.drop {w : World} {v3 v4 : Value} {vs ws : List (Value × List Int)} {W : World} (h : CS w v3 v4 vs ws W) : CS w v3 (.slice none 0 0) vs [] W := ⟨h.ls, LR.nil _ _, fun k hk e => by simp [Value.ownBlock] at e, h.apart, h.bel⟩
theorem map_same {vs : List (Value × List Int)} {j : Nat} {u : Value} {l l' : List Int} {β : Type} (f : Value → β) (hj : vs[j]? = some (u, l)) : (vs.set j (u, l')).map (fun p => f p.1) = vs.map (fun p => f p.1) := by
  apply List.ext_getElem?
  intro i
  rw [List.getElem?_map, List.getElem?_map, List.getElem?_set]
  by_cases hij : j = i
  · subst hij
    rw [if_pos rfl, if_pos (List.getElem?_eq_some_iff.1 hj).1, hj]
    rfl
  · rw [if_neg hij]
theorem CS.set {w : World} {v3 : Value} {vs : List (Value × List Int)} {W W1 : World} (h : CS w v3 (.slice none 0 0) vs [] W) {j : Nat} {u : Value} {l l' : List Int} (hj : vs[j]? = some (u, l)) (hr : OR W1 w.heap.size u l') (hk : Kept W W1 (fun k => some k = u.ownBlock)) (hb : Below w.heap.size w W1) : CS w v3 (.slice none 0 0) (vs.set j (u, l')) [] W1 := by
  have hu := h.ls.rows _ (List.mem_of_getElem? hj)
  refine ⟨⟨?_, ?_⟩, LR.nil _ _, fun k hk e => by simp [Value.ownBlock] at e, ?_, hb⟩
  · rw [map_same (fun v => [v]) hj]
    exact Kd.R_kept h.ls.outer hk (fun k hk1 hk2 => two_types hu h.ls.outer k hk2.symm hk1.symm)
  · intro p hp
    obtain ⟨i, hi⟩ := List.getElem?_of_mem hp
    rw [List.getElem?_set] at hi
    by_cases hij : j = i
    · subst hij
      rw [if_pos rfl, if_pos (List.getElem?_eq_some_iff.1 hj).1] at hi
      obtain rfl := Option.some.inj hi
      exact hr
    · rw [if_neg hij] at hi
      refine Kd.R_kept (h.ls.rows _ (List.mem_of_getElem? hi)) hk (fun k hk1 hk2 => ?_)
      obtain ⟨hjl, hj'⟩ := List.getElem?_eq_some_iff.1 hj
      obtain ⟨hil, hi'⟩ := List.getElem?_eq_some_iff.1 hi
      have hpw := List.pairwise_iff_getElem.1 h.apart
      rcases Nat.lt_or_gt_of_ne hij with hlt | hlt
      · have := hpw j i hjl hil hlt k (by rw [hj']; exact hk2.symm)
        rw [hi'] at this
        exact this hk1.symm
      · have := hpw i j hil hjl hlt k (by rw [hi']; exact hk1.symm)
        rw [hj'] at this
        exact this hk2.symm
  · have h1 := List.pairwise_map (f := fun p : Value × List Int => p.1) (R := fun a b : Value => ∀ k, a.ownBlock = some k → b.ownBlock ≠ some k) (l := vs.set j (u, l'))
    have h2 := List.pairwise_map (f := fun p : Value × List Int => p.1) (R := fun a b : Value => ∀ k, a.ownBlock = some k → b.ownBlock ≠ some k) (l := vs)
    rw [map_same (fun v => v) hj] at h1
    exact h1.1 (h2.2 h.apart)
theorem marks_more {us : List (Value × List Int)} {m n : Nat} {v : Value} (hm : m < us.length) (h : ∀ q p, q < m → us[q]? = some p → p.2 = List.replicate p.2.length (((q % 251 : Nat) : Int))) : ∀ q p, q < m + 1 → (us.set m (v, List.replicate n ((m : Int) % 251)))[q]? = some p → p.2 = List.replicate p.2.length (((q % 251 : Nat) : Int)) := by
  intro q p hq hp
  rw [List.getElem?_set] at hp
  by_cases hqm : m = q
  · subst hqm
    rw [if_pos rfl, if_pos hm] at hp
    obtain rfl := Option.some.inj hp
    simp only [List.length_replicate]
    rfl
  · rw [if_neg hqm] at hp
    exact h q p (by omega) hp
theorem short_set {us : List (Value × List Int)} {m n : Nat} {v : Value} {x : Int} (h : ∀ p ∈ us, p.2.length ≤ 8192) (hn : n ≤ 8192) : ∀ p ∈ us.set m (v, List.replicate n x), p.2.length ≤ 8192 := by
  intro p hp
  rcases List.mem_or_eq_of_mem_set hp with hp | rfl
  · exact h p hp
  · simpa using hn
theorem rd_rep {n i : Nat} {x : Int} (h : i < n) : rd (List.replicate n x) (i : Int) = x := by
  simp only [rd, Int.toNat_natCast]
  rw [List.getD_eq_getElem?_getD, List.getElem?_replicate, if_pos h]
  rfl

set_option maxHeartbeats 16000000 in
set_option maxRecDepth 100000 in
theorem calm {w : World} {A : Option Addr} {n c : Nat} {xs : List ((Int × Int × List Int) × Int)} (h : Kd.C kI w A n xs) (hc : n ≤ c) (hn : n ≤ 1048576) (hok : ∀ x ∈ xs, ItemOk x) :
    Calls Try.prog 29 #[.slice A n c] w fun e w' => e = .returned (.bool true) ∧ Below w.heap.size w w' := by
  have hu57 := Try.underlying57
  have hu35 := Try.underlying35
  have HC := Aside0.mk h
  have HOKS := Aside0.mk hok
  have ST0 : CS w (.slice none 0 0) (.slice none 0 0) [] [] w := CS.start w w (Below.refl _ _)
  clear h hok
  go_enter Try.func29, Try.ntmps29
  go_wp2
  go_loopg [3, 4, 5] (2 * n + 1) (fun kq v3 v4 v5 w' => ∃ (i : Nat) (vs ws : List (Value × List Int)), v5 = .int .i64 (i : Int) ∧ Aside0 (i ≤ 2 * n) ∧ Aside0 (i + kq = 2 * n + 1) ∧ Aside0 (vs.length = 2 * i) ∧ Aside0 (ws.length = 2 * i) ∧ Aside0 (vs.map (·.2) = ws.map (·.2)) ∧ Aside0 (∀ p ∈ vs, p.2.length ≤ 8192) ∧ CS w v3 v4 vs ws w')
  case atStart => exact ⟨0, [], [], rfl, ⟨by omega⟩, ⟨by omega⟩, ⟨rfl⟩, ⟨rfl⟩, ⟨rfl⟩, ⟨fun p hp => by simp at hp⟩, ST0⟩
  case round =>
    obtain ⟨i, vs, ws, rfl, HI, HIK, HVL, HWL, HEQ, HSH, ST⟩ := hrel
    clear ST0
    by_cases hi : i < 2 * n
    · have hi2 : (i : Int) < 2 * (n : Int) := by omega
      have hi3 : decide ((i : Int) < 2 * (n : Int)) = true := decide_eq_true hi2
      have HI2 := Aside0.mk hi
      obtain ⟨ad, A2, c2, kind, gen, size, body, nb, e, hx, hnb, hx0, hx1, hx2, hx3, hrd⟩ := at_item HC.out (i / 2) (by omega)
      subst hnb
      have hvl : Aside0 ((vs.map (fun p => [p.1])).length = 2 * i) := ⟨by rw [List.length_map]; exact HVL.out⟩
      have hwl : Aside0 ((ws.map (fun p => [p.1])).length = 2 * i) := ⟨by rw [List.length_map]; exact HWL.out⟩
      obtain ⟨Av, cv, ev⟩ := Kd.R_slice ST.ls.outer
      obtain ⟨Aw, cw, ew⟩ := Kd.R_slice ST.want.outer
      rw [hvl.out] at ev
      rw [hwl.out] at ew
      subst ev
      subst ew
      cases e
      replace hx0 := (ST.bel.cell (World.block_lt_of_cell? w _ hx0)).trans hx0
      replace hx1 := (ST.bel.cell (World.block_lt_of_cell? w _ hx1)).trans hx1
      replace hx2 := (ST.bel.cell (World.block_lt_of_cell? w _ hx2)).trans hx2
      replace hx3 := (ST.bel.cell (World.block_lt_of_cell? w _ hx3)).trans hx3
      have HRD := Aside0.mk hrd
      have HIO := Aside0.mk (HOKS.out _ (List.mem_of_getElem? hx))
      obtain ⟨sl, se, hsl⟩ : ∃ sl se, sealed kind gen body size = (sl, se) := ⟨_, _, rfl⟩
      have HSN := Aside0.mk (sealed_len kind gen body size)
      have HSB := Aside0.mk (sealed_bytes kind gen body size HIO.out.k HIO.out.b)
      rw [hsl] at HSN HSB
      obtain ⟨ob, og, ol, oe, hop⟩ : ∃ ob og ol oe, opened sl = (ob, og, ol, oe) := ⟨_, _, _, _, rfl⟩
      have HON := Aside0.mk (opened_len sl)
      rw [hop] at HON
      have HOP := Aside0.mk hop
      have HSL := Aside0.mk hsl
      have hlt : i / 2 < n := by omega
      have hlt2 : ((i / 2 : Nat) : Int) < (n : Int) := by omega
      have hlt3 : (0 : Int) ≤ ((i / 2 : Nat) : Int) := by omega
      clear hop hsl hrd hx hi
      go_wp2_with (first | ((with_reducible refine gate_dst (N := 6) rfl ?_); go_must (refine box_event ?hg (N := 6) ?hd (cs := #[.int .u8 0, .int .u64 0, .slice none 0 0, .int .i64 0]) (t := 57) ?hr ?_); (case hd => rfl); (case hg => rfl); (case hr => first | (go_simp; done) | (go_simp; rfl)); intro g6 hg w1 hbox hb; have S1 := ST.below hb; have B6 := Aside0.mk hbox; have G6 := Aside0.mk (by rw [hg]; exact ST.bel.size : w.heap.size ≤ g6); have hc0 : w1.cell? ⟨g6, 0, none⟩ = some (.int .u8 0) := (blk_cell B6.out 0).trans rfl; have hc1 : w1.cell? ⟨g6, 1, none⟩ = some (.int .u64 0) := (blk_cell B6.out 1).trans rfl; have hc2 : w1.cell? ⟨g6, 2, none⟩ = some (.slice none 0 0) := (blk_cell B6.out 2).trans rfl; have hc3 : w1.cell? ⟨g6, 3, none⟩ = some (.int .i64 0) := (blk_cell B6.out 3).trans rfl; have hf0 := blk_frozen B6.out 0; have hf1 := blk_frozen B6.out 1; have hf2 := blk_frozen B6.out 2; have hf3 := blk_frozen B6.out 3; clear hbox hb hg ST hx0 hx1 hx2 hx3) | (go_at_call 21; go_must (have PT := Aside0.mk (putS57 B6.out S1.bel G6.out (.int .u8 kind) (.int .u64 gen) (.slice A2 body.length c2) (.int .i64 size)); have S2 := S1.far B6.out (by decide) (by decide) PT.out.2.2 PT.out.2.1; clear hc0 hc1 hc2 hc3 hf0 hf1 hf2 hf3 B6 S1; generalize ((((w1.setCell ⟨g6, 0, none⟩ (.int .u8 kind)).setCell ⟨g6, 1, none⟩ (.int .u64 gen)).setCell ⟨g6, 2, none⟩ (.slice A2 body.length c2)).setCell ⟨g6, 3, none⟩ (.int .i64 size)) = w2 at *; have hq := c_refSeal (HRD.out.below S2.bel) HIO.out.b kind gen size HIO.out.k HIO.out.g; rw [HSL.out] at hq; refine hq.mono ?_; rintro e w3 ⟨A3, n3, c3, rfl, hr, hb⟩; have R3 := Aside0.mk (OR.lower hr S2.bel.size); have S3 := S2.below hb; have B6 := Aside0.mk (blk_below PT.out.1 hb); clear hr hb hq PT S2)) | (go_at_call 24; go_must (have hq := c_refOpen R3.out.rd HSB.out (by have := R3.out.rd.len; have := HSN.out; omega); rw [HOP.out] at hq; refine hq.mono ?_; rintro e w4 ⟨A4, n4, c4, rfl, hr, hb⟩; have R4 := Aside0.mk (OR.lower hr S3.bel.size); have R3b := Aside0.mk (OR.below R3.out hb); have S4 := S3.below hb; have B6b := Aside0.mk (blk_below B6.out hb); clear hr hb hq R3 B6 S3)) | ((with_reducible refine gate_dst (N := 9) rfl ?_); go_must (refine box_event ?hg (N := 9) ?hd (cs := #[.int .u8 0, .int .u64 0, .slice none 0 0]) (t := 35) ?hr ?_); (case hd => rfl); (case hg => rfl); (case hr => first | (go_simp; done) | (go_simp; rfl)); intro g9 hg w5 hbox hb; have S5 := S4.below hb; have B9 := Aside0.mk hbox; have G9 := Aside0.mk (by rw [hg]; exact S4.bel.size : w.heap.size ≤ g9); have N69 : g6 ≠ g9 := (by rw [hg]; exact Nat.ne_of_lt (blk_lt B6b.out)); have N96 := Ne.symm N69; have B6c := Aside0.mk (blk_below B6b.out hb); have R3c := Aside0.mk (OR.below R3b.out hb); have R4b := Aside0.mk (OR.below R4.out hb); have hc0 : w5.cell? ⟨g9, 0, none⟩ = some (.int .u8 0) := (blk_cell B9.out 0).trans rfl; have hc1 : w5.cell? ⟨g9, 1, none⟩ = some (.int .u64 0) := (blk_cell B9.out 1).trans rfl; have hc2 : w5.cell? ⟨g9, 2, none⟩ = some (.slice none 0 0) := (blk_cell B9.out 2).trans rfl; have hf0 := blk_frozen B9.out 0; have hf1 := blk_frozen B9.out 1; have hf2 := blk_frozen B9.out 2; have hd0 : w5.cell? ⟨g6, 0, none⟩ = some (.int .u8 kind) := (blk_cell B6c.out 0).trans rfl; have hd1 : w5.cell? ⟨g6, 1, none⟩ = some (.int .u64 gen) := (blk_cell B6c.out 1).trans rfl; have hd2 : w5.cell? ⟨g6, 2, none⟩ = some (.slice A2 body.length c2) := (blk_cell B6c.out 2).trans rfl; have hd3 : w5.cell? ⟨g6, 3, none⟩ = some (.int .i64 size) := (blk_cell B6c.out 3).trans rfl; clear hbox hb hg S4 B6b R3b R4) | (go_at_call 30; go_must (have PT := Aside0.mk (putS35 B9.out S5.bel G9.out (.int .u8 ob) (.int .u64 og) (.slice A4 n4 c4)); have S6 := S5.far B9.out (by decide) (by decide) PT.out.2.2 PT.out.2.1; have R3d := Aside0.mk (OR.far R3c.out B9.out PT.out.2.2); have R4c := Aside0.mk (OR.far R4b.out B9.out PT.out.2.2); have B6d := Aside0.mk (blk_grown B6c.out PT.out.2.2 (fun e => N69 (Option.some.inj e))); clear hc0 hc1 hc2 hf0 hf1 hf2 hd0 hd1 hd2 hd3 B9 S5 R3c R4b B6c; generalize (((w5.setCell ⟨g9, 0, none⟩ (.int .u8 ob)).setCell ⟨g9, 1, none⟩ (.int .u64 og)).setCell ⟨g9, 2, none⟩ (.slice A4 n4 c4)) = w6 at *; have hrd := HRD.out.below S6.bel; refine (spare A2 c2 body w6 hrd.cc hrd.le HIO.out.l).mono ?_; rintro e w7 ⟨gs, cs7, rfl, hr, _, _, hb⟩; have R7 := Aside0.mk (take_row hr); have S7 := S6.below hb; have R3e := Aside0.mk (OR.below R3d.out hb); have R4d := Aside0.mk (OR.below R4c.out hb); have B6e := Aside0.mk (blk_below B6d.out hb); have B9b := Aside0.mk (blk_below PT.out.1 hb); have hd0 : w7.cell? ⟨g6, 0, none⟩ = some (.int .u8 kind) := (blk_cell B6e.out 0).trans rfl; have hd1 : w7.cell? ⟨g6, 1, none⟩ = some (.int .u64 gen) := (blk_cell B6e.out 1).trans rfl; have hd2 : w7.cell? ⟨g6, 2, none⟩ = some (.slice A2 body.length c2) := (blk_cell B6e.out 2).trans rfl; have hd3 : w7.cell? ⟨g6, 3, none⟩ = some (.int .i64 size) := (blk_cell B6e.out 3).trans rfl; clear hr hb hrd PT S6 R3d R4c B6d)) | (go_at_call 20; go_must (have hq := c_seal R7.out HIO.out.b kind gen size HIO.out.k; rw [HSL.out] at hq; refine hq.mono ?_; rintro e w8 ⟨A7, n7, c7, rfl, hr, hb⟩; have NA := Aside0.mk (fun p hp => fresh (S7.ls.rows p hp) hr : ∀ p ∈ vs, ∀ k, p.1.ownBlock = some k → (Value.slice A7 n7 c7).ownBlock ≠ some k); have RB := Aside0.mk (OR.lower hr S7.bel.size); have S8 := S7.below hb; have R3f := Aside0.mk (OR.below R3e.out hb); have R4e := Aside0.mk (OR.below R4d.out hb); have B9c := Aside0.mk (blk_below B9b.out hb); clear hr hb hq hd0 hd1 hd2 hd3 S7 R7 R3e R4d B6e B9b)) | (go_at_call 23; go_must (have hq := c_open RB.out.rd HSB.out; rw [HOP.out] at hq; refine hq.mono ?_; rintro e w9 ⟨A8, n8, c8, rfl, hr, hb⟩; have NO := Aside0.mk (fun p hp => fresh (S8.ls.rows p hp) hr : ∀ p ∈ vs, ∀ k, p.1.ownBlock = some k → (Value.slice A8 n8 c8).ownBlock ≠ some k); have NBO := Aside0.mk (fresh RB.out hr : ∀ k, (Value.slice A7 n7 c7).ownBlock = some k → (Value.slice A8 n8 c8).ownBlock ≠ some k); have RO := Aside0.mk (OR.lower hr S8.bel.size); have RBb := Aside0.mk (OR.below RB.out hb); have S9 := S8.below hb; have R3g := Aside0.mk (OR.below R3f.out hb); have R4f := Aside0.mk (OR.below R4e.out hb); have B9d := Aside0.mk (blk_below B9c.out hb); clear hr hb hq S8 RB R3f R4e B9c)) | ((with_reducible refine gate_dst (N := 15) rfl ?_); go_must (refine box_event ?hg (N := 15) ?hd (cs := #[.int .u8 0, .int .u64 0, .slice none 0 0]) (t := 35) ?hr ?_); (case hd => rfl); (case hg => rfl); (case hr => first | (go_simp; done) | (go_simp; rfl)); intro g15 hg w10 hbox hb; have SA := S9.below hb; have BF := Aside0.mk hbox; have GF := Aside0.mk (by rw [hg]; exact S9.bel.size : w.heap.size ≤ g15); have N9F : g9 ≠ g15 := (by rw [hg]; exact Nat.ne_of_lt (blk_lt B9d.out)); have B9e := Aside0.mk (blk_below B9d.out hb); have R3h := Aside0.mk (OR.below R3g.out hb); have R4g := Aside0.mk (OR.below R4f.out hb); have RBc := Aside0.mk (OR.below RBb.out hb); have ROb := Aside0.mk (OR.below RO.out hb); have hc0 : w10.cell? ⟨g15, 0, none⟩ = some (.int .u8 0) := (blk_cell BF.out 0).trans rfl; have hc1 : w10.cell? ⟨g15, 1, none⟩ = some (.int .u64 0) := (blk_cell BF.out 1).trans rfl; have hc2 : w10.cell? ⟨g15, 2, none⟩ = some (.slice none 0 0) := (blk_cell BF.out 2).trans rfl; have hf0 := blk_frozen BF.out 0; have hf1 := blk_frozen BF.out 1; have hf2 := blk_frozen BF.out 2; clear hbox hb hg S9 B9d R3g R4f RBb RO) | ((with_reducible refine gate_builtin (b := .append) (xs := #[.tmp 72, .tmp 76]) rfl ?_); at_builtin; go_must (have PT := Aside0.mk (putS35 BF.out SA.bel GF.out (.int .u8 ob) (.int .u64 og) (.slice A8 n8 c8)); have SB := SA.far BF.out (by decide) (by decide) PT.out.2.2 PT.out.2.1; have R3i := OR.far R3h.out BF.out PT.out.2.2; have R4h := OR.far R4g.out BF.out PT.out.2.2; have RBd := OR.far RBc.out BF.out PT.out.2.2; have ROc := OR.far ROb.out BF.out PT.out.2.2; have B9f := blk_grown B9e.out PT.out.2.2 (fun e => N9F (Option.some.inj e)); have hsz : w10.heap.size = ((((w10.setCell ⟨g15, 0, none⟩ (.int .u8 ob)).setCell ⟨g15, 1, none⟩ (.int .u64 og)).setCell ⟨g15, 2, none⟩ (.slice A8 n8 c8))).heap.size := (by simp [World.setCell]); clear hc0 hc1 hc2 hf0 hf1 hf2 BF SA R3h R4g RBc ROb B9e; generalize (((w10.setCell ⟨g15, 0, none⟩ (.int .u8 ob)).setCell ⟨g15, 1, none⟩ (.int .u64 og)).setCell ⟨g15, 2, none⟩ (.slice A8 n8 c8)) = w11 at *; have hal := below_alloc (Below.refl w11.heap.size w11) (.cells #[.slice A7 n7 c7, .slice A8 n8 c8] 23 (0, 0)); have SC := SB.below hal; refine Kd.R_append_rows (Kd.raw 1) (Rr := fun (x : List Value) cs => cs = x ∧ cs.length = 1 ∧ ∀ u ∈ cs, u.oneCell' = true) (w0 := w) w.heap.size rfl (.tmp 72) (.tmp 76) 29 23 (.slice none 0 0) 24 rfl Try.underlying29 info23 rfl (by decide) (by decide) (.slice Av (2 * i) cv) (vs.map (fun p => [p.1])) [[.slice A7 n7 c7], [.slice A8 n8 c8]] (some ⟨w10.heap.size, 0, none⟩) 2 2 (fun _ => True) (fun _ => False) rfl rfl (Kd.R_mono SC.ls.outer (fun _ _ => trivial)) (by rw [hsz]; exact reads_two w11 _ _ 23 rfl rfl) (fun _ _ h => h) (fun _ h => h.elim) (fun _ _ => trivial) SC.bel SC.bel.size (by rw [hvl.out]; omega) ?_; intro v1 w12 ho hb hg hat; obtain ⟨Av1, cv1, rfl⟩ := Kd.R_slice ho; have S12 := SC.more1 (OR.below RBd hal) (OR.below ROc hal) hg ho hb hat NA.out NO.out NBO.out; have R3j := Aside0.mk (OR.other (OR.below R3i hal) SC.ls.outer hg); have R4i := Aside0.mk (OR.other (OR.below R4h hal) SC.ls.outer hg); have B9g := Aside0.mk (blk_grown (blk_below B9f hal) hg (Kd.R_ne SC.ls.outer (blk_below B9f hal) (by decide))); have hd2 : w12.cell? ⟨g9, 2, none⟩ = some (.slice A4 n4 c4) := (blk_cell B9g.out 2).trans rfl; rw [show (vs.map (fun p => [p.1]) ++ [[Value.slice A7 n7 c7], [Value.slice A8 n8 c8]]).length = 2 * (i + 1) from (by rw [List.length_append, hvl.out]; rfl)] at S12 ⊢; clear hsz ho hb hg hat hal SC SB R3i R4h RBd ROc B9f NA NO NBO PT)) | ((with_reducible refine gate_builtin (b := .append) (xs := #[.tmp 78, .tmp 82]) rfl ?_); at_builtin; go_must (have hal := below_alloc (Below.refl w12.heap.size w12) (.cells #[.slice A3 n3 c3, .slice A4 n4 c4] 23 (0, 0)); have SC := S12.below hal; refine Kd.R_append_rows (Kd.raw 1) (Rr := fun (x : List Value) cs => cs = x ∧ cs.length = 1 ∧ ∀ u ∈ cs, u.oneCell' = true) (w0 := w) w.heap.size rfl (.tmp 78) (.tmp 82) 29 23 (.slice none 0 0) 24 rfl Try.underlying29 info23 rfl (by decide) (by decide) (.slice Aw (2 * i) cw) (ws.map (fun p => [p.1])) [[.slice A3 n3 c3], [.slice A4 n4 c4]] (some ⟨w12.heap.size, 0, none⟩) 2 2 (fun _ => True) (fun _ => False) rfl rfl (Kd.R_mono SC.want.outer (fun _ _ => trivial)) (reads_two w12 _ _ 23 rfl rfl) (fun _ _ h => h) (fun _ h => h.elim) (fun _ _ => trivial) SC.bel SC.bel.size (by rw [hwl.out]; omega) ?_; intro v1 w13 ho hb hg hat; obtain ⟨Aw1, cw1, rfl⟩ := Kd.R_slice ho; have S13 := SC.more2 (OR.below R3j.out hal) (OR.below R4i.out hal) hg ho hb hat; rw [show (ws.map (fun p => [p.1]) ++ [[Value.slice A3 n3 c3], [Value.slice A4 n4 c4]]).length = 2 * (i + 1) from (by rw [List.length_append, hwl.out]; rfl)] at S13 ⊢; clear ho hb hg hat hal SC S12 R3j R4i B9g hd2)))
      go_roundg (2 * n - i)
      case measure => have := HIK.out; have := HI2.out; omega
      case rel => exact ⟨i + 1, _, _, by go_num, ⟨by have := HI2.out; omega⟩, ⟨by have := HI2.out; omega⟩, ⟨by rw [List.length_append, HVL.out]; rfl⟩, ⟨by rw [List.length_append, HWL.out]; rfl⟩, ⟨by rw [List.map_append, List.map_append, HEQ.out]; rfl⟩, ⟨short_more HSH.out HSN.out HON.out⟩, S13⟩
    · have hi1 : i = 2 * n := by have := HI.out; omega
      subst hi1
      have hi3 : decide (2 * (n : Int) < 2 * (n : Int)) = false := decide_eq_false (by omega)
      have hi4 : decide (((2 * n : Nat) : Int) < 2 * (n : Int)) = false := decide_eq_false (by omega)
      clear hi HI HIK
      obtain ⟨N, hN⟩ : ∃ N, N = 2 * (2 * n) := ⟨_, rfl⟩
      rw [← hN] at HVL HWL
      have hN4 : N ≤ 4194304 := by omega
      have HN := Aside0.mk hN
      clear hN
      obtain ⟨Av, cv, ev⟩ := Kd.R_slice ST.ls.outer
      obtain ⟨Aw, cw, ew⟩ := Kd.R_slice ST.want.outer
      rw [List.length_map, HVL.out] at ev
      rw [List.length_map, HWL.out] at ew
      subst ev
      subst ew
      go_wp2
      go_loopg [17] (N + 1) (fun kq v17 w' => ∃ (j : Nat), v17 = .int .i64 (j : Int) ∧ Aside0 (j ≤ N) ∧ Aside0 (j + kq = N + 1) ∧ CS w (.slice Av N cv) (.slice Aw N cw) vs ws w')
      case atStart => exact ⟨0, rfl, ⟨by omega⟩, ⟨by omega⟩, ST⟩
      case round =>
        obtain ⟨j, rfl, HJ, HJK, S0⟩ := hrel
        clear ST
        by_cases hj : j < N
        · have hj2 : (j : Int) < (N : Int) := by omega
          have hj3 : decide ((j : Int) < (N : Int)) = true := decide_eq_true hj2
          have HJ2 := Aside0.mk hj
          obtain ⟨ga, cva, e1⟩ := S0.ls.form HVL.out (by omega)
          obtain ⟨gb, cvb, e2⟩ := S0.want.form HWL.out (by omega)
          injection e1 with e1 _ e3
          injection e2 with e2 _ e4
          subst e1
          subst e2
          obtain ⟨Aa, na, ca, la, hva, hla, hra, hca⟩ := S0.ls.el j (by rw [HVL.out]; exact hj)
          obtain ⟨Ab, nb, cb, lb, hvb, hlb, hrb, hcb⟩ := S0.want.el j (by rw [HWL.out]; exact hj)
          have hlab : la = lb := by
            have h1 := congrArg (fun l => l[j]?) HEQ.out
            simpa [List.getElem?_map, hva, hvb] using h1
          subst hlab
          obtain rfl : na = nb := hla.symm.trans hlb
          have LA : Aside0 (na ≤ 8192) := ⟨by rw [← hla]; exact HSH.out _ (List.mem_of_getElem? hva)⟩
          have RA := Aside0.mk hra
          have RB := Aside0.mk hrb
          have q1 : wr.drew.cell? ⟨ga, j, none⟩ = some (.slice Aa na ca) := hca
          have q2 : wr.drew.cell? ⟨gb, j, none⟩ = some (.slice Ab na cb) := hcb
          have S1 := S0.below (drew_below _)
          clear hva hvb hlb hla hra hrb e3 e4 hj S0
          go_wp2
          refine start_ (n := 10) (S := fun w' => w'.cell? ⟨ga, j, none⟩ = some (.slice Aa na ca) ∧ w'.cell? ⟨gb, j, none⟩ = some (.slice Ab na cb)) (ds := []) #[false, false, false, false, false, false, false, false, false, false] (by kernel_rfl) rfl rfl ⟨q1, q2⟩ (fun hHeld => ?_); refine with_tabW calm17.tab calm17.bits (fun HT_ HW_ => ?_)
          refine pure_ (i := 0) (N := some 90) (v := ?_) (a' := ?_) #[true, false, false, false, false, false, false, false, false, false] rfl rfl (any_of HT_.out (by kernel_rfl)) (fun _ _ _ h => h) (Or.inl ⟨by rfl, ?_⟩) ?_ ?_
          rotate_left
          · intro w'
            go_simp
            with_reducible rfl
          rotate_left
          · simp only [Act.put, List.setIfInBounds_toArray, List.set_cons_zero, List.set_cons_succ, i64_w, i32_w]
            rfl
          refine pure_ (i := 1) (N := some 91) (v := ?_) (a' := ?_) #[true, true, false, false, false, false, false, false, false, false] rfl rfl (any_of HT_.out (by kernel_rfl)) (fun _ _ _ h => h) (Or.inl ⟨by rfl, ?_⟩) ?_ ?_
          rotate_left
          · intro w'
            go_simp
            with_reducible rfl
          rotate_left
          · simp only [Act.put, List.setIfInBounds_toArray, List.set_cons_zero, List.set_cons_succ, i64_w, i32_w]
            rfl
          refine pure_ (i := 2) (N := some 92) (v := ?_) (a' := ?_) #[true, true, true, false, false, false, false, false, false, false] rfl rfl (any_of HT_.out (by kernel_rfl)) (fun _ _ _ h => h) (Or.inl ⟨by rfl, ?_⟩) ?_ ?_
          rotate_left
          · intro w'
            go_simp
            with_reducible rfl
          rotate_left
          · simp only [Act.put, List.setIfInBounds_toArray, List.set_cons_zero, List.set_cons_succ, i64_w, i32_w]
            rfl
          refine pure_ (i := 4) (N := some 94) (v := ?_) (a' := ?_) #[true, true, true, false, true, false, false, false, false, false] rfl rfl (any_of HT_.out (by kernel_rfl)) (fun _ _ _ h => h) (Or.inl ⟨by rfl, ?_⟩) ?_ ?_
          rotate_left
          · intro w'
            go_simp
            with_reducible rfl
          rotate_left
          · simp only [Act.put, List.setIfInBounds_toArray, List.set_cons_zero, List.set_cons_succ, i64_w, i32_w]
            rfl
          refine pure_ (i := 5) (N := some 95) (v := ?_) (a' := ?_) #[true, true, true, false, true, true, false, false, false, false] rfl rfl (any_of HT_.out (by kernel_rfl)) (fun _ _ _ h => h) (Or.inl ⟨by rfl, ?_⟩) ?_ ?_
          rotate_left
          · intro w'
            go_simp
            with_reducible rfl
          rotate_left
          · simp only [Act.put, List.setIfInBounds_toArray, List.set_cons_zero, List.set_cons_succ, i64_w, i32_w]
            rfl
          refine pure_ (i := 6) (N := some 96) (v := ?_) (a' := ?_) #[true, true, true, false, true, true, true, false, false, false] rfl rfl (any_of HT_.out (by kernel_rfl)) (fun _ _ _ h => h) (Or.inl ⟨by rfl, ?_⟩) ?_ ?_
          rotate_left
          · intro w'
            go_simp
            with_reducible rfl
          rotate_left
          · simp only [Act.put, List.setIfInBounds_toArray, List.set_cons_zero, List.set_cons_succ, i64_w, i32_w]
            rfl
          refine take_ (i := 3) (N := some 93) (v := ?_) (a' := ?_) #[true, true, true, true, true, true, true, false, false, false] rfl rfl (take_ofW HT_.out HW_.out (by kernel_rfl)) (fun _ _ _ h => h) (Or.inl ⟨by rfl, ?_⟩) hHeld ?_ ?_
          rotate_left
          · rintro w' ⟨s0, s1⟩
            go_simp
            with_reducible rfl
          rotate_left
          · simp only [Act.put, List.setIfInBounds_toArray, List.set_cons_zero, List.set_cons_succ, i64_w, i32_w]
            rfl
          refine take_ (i := 7) (N := some 97) (v := ?_) (a' := ?_) #[true, true, true, true, true, true, true, true, false, false] rfl rfl (take_ofW HT_.out HW_.out (by kernel_rfl)) (fun _ _ _ h => h) (Or.inl ⟨by rfl, ?_⟩) hHeld ?_ ?_
          rotate_left
          · rintro w' ⟨s0, s1⟩
            go_simp
            with_reducible rfl
          rotate_left
          · simp only [Act.put, List.setIfInBounds_toArray, List.set_cons_zero, List.set_cons_succ, i64_w, i32_w]
            rfl
          refine one_ (i := 8) (N := some 98) #[true, true, true, true, true, true, true, true, true, false] rfl rfl (one_of HT_.out (by kernel_rfl)) (by decide) (fun K hK => ?_)
          refine goes_ Try.func22 (by kernel_rfl) rfl #[.slice Aa na ca, .slice Ab na cb] (by rfl) rfl rfl (by (try simp only [List.map_toArray, List.map_cons, List.map_nil]); first | done | rfl | (simp only [List.length_drop, List.length_take]; rfl)) ?_
          refine (c_same (RA.out.below (drew_below _)) (RB.out.below (drew_below _)) (by have := LA.out; omega)).mono ?_
          rintro e w2 ⟨rfl, hd⟩
          refine ⟨_, rfl, ?_⟩
          have S2 := S1.below (drawn_below hd)
          have k1 := (((drawn_below hd).cell (World.block_lt_of_cell? _ _ q1)).trans q1)
          have k2 := (((drawn_below hd).cell (World.block_lt_of_cell? _ _ q2)).trans q2)
          clear hd S1
          refine hK.out _ _ ⟨k1, k2⟩ (fun hHeld => ?_)
          clear hK K
          refine norm_ (a' := ?_) ?_ ?_
          rotate_left
          · show Act.put _ (some 98) _ = _
            simp only [Act.put, List.setIfInBounds_toArray, List.set_cons_zero, List.set_cons_succ, i64_w, i32_w]
            rfl
          refine pure_ (i := 9) (N := some 99) (v := ?_) (a' := ?_) #[true, true, true, true, true, true, true, true, true, true] rfl rfl (any_of HT_.out (by kernel_rfl)) (fun _ _ _ h => h) (Or.inl ⟨by rfl, ?_⟩) ?_ ?_
          rotate_left
          · intro w'
            go_simp
            with_reducible rfl
          rotate_left
          · simp only [Act.put, List.setIfInBounds_toArray, List.set_cons_zero, List.set_cons_succ, i64_w, i32_w]
            rfl
          refine done_ (done_of HT_.out (by kernel_rfl)) ?_
          go_wp2
          go_roundg (N - j)
          case measure => have := HJK.out; have := HJ2.out; omega
          case rel => exact ⟨j + 1, by go_num, ⟨by have := HJ2.out; omega⟩, ⟨by have := HJ2.out; omega⟩, S2⟩
        · have hi1 : j = N := by have := HJ.out; omega
          subst hi1
          have hj3 : decide ((j : Int) < (j : Int)) = false := decide_eq_false (by omega)
          clear hj HJ HJK
          have S1 := S0.drop
          clear S0
          go_wp2
          go_loopg [18] (j + 1) (fun kq v18 w' => ∃ (m : Nat) (us : List (Value × List Int)), v18 = .int .i64 (m : Int) ∧ Aside0 (m ≤ j) ∧ Aside0 (m + kq = j + 1) ∧ Aside0 (us.length = j) ∧ Aside0 (∀ q p, q < m → us[q]? = some p → p.2 = List.replicate p.2.length (((q % 251 : Nat) : Int))) ∧ Aside0 (∀ p ∈ us, p.2.length ≤ 8192) ∧ CS w (.slice Av j cv) (.slice none 0 0) us [] w')
          case atStart => exact ⟨0, vs, rfl, ⟨by omega⟩, ⟨by omega⟩, HVL, ⟨fun q p hq => by omega⟩, HSH, S1⟩
          case round =>
            obtain ⟨m, us, rfl, HM, HMK, HUL, HUM, HUS, S2⟩ := hrel
            clear S1
            by_cases hm : m < j
            · have hm2 : (m : Int) < (j : Int) := by omega
              have hm3 : decide ((m : Int) < (j : Int)) = true := decide_eq_true hm2
              have HM2 := Aside0.mk hm
              obtain ⟨ga, cva, e1⟩ := S2.ls.form HUL.out (by omega)
              injection e1 with e1 _ e3
              subst e1
              obtain ⟨Aa, na, ca, la, hva, hla, hra, hca⟩ := S2.ls.el m (by rw [HUL.out]; exact hm)
              have LA : Aside0 (na ≤ 8192) := ⟨by rw [← hla]; exact HUS.out _ (List.mem_of_getElem? hva)⟩
              have HVA := Aside0.mk hva
              have HLA := Aside0.mk hla
              have RO := Aside0.mk (S2.ls.rows _ (List.mem_of_getElem? hva))
              clear hva hla hra e3 hm
              go_wp2_with (go_at_call 34; go_must (refine (fill (fun k => some k = (Value.slice Aa na ca).ownBlock) (.slice Aa na ca) la _ w _ S2.bel RO.out (by have := LA.out; have := HLA.out; omega)).mono ?_; rintro e w2 ⟨rfl, hr, hk, hb⟩; have S3 := S2.set HVA.out hr hk hb; clear hr hk hb S2 RO))
              go_roundg (j - m)
              case measure => have := HMK.out; have := HM2.out; omega
              case rel => exact ⟨m + 1, _, by go_num, ⟨by have := HM2.out; omega⟩, ⟨by have := HM2.out; omega⟩, ⟨by rw [List.length_set]; exact HUL.out⟩, ⟨marks_more (by rw [HUL.out]; exact HM2.out) HUM.out⟩, ⟨short_set HUS.out (by rw [HLA.out]; exact LA.out)⟩, S3⟩
            · have hi1 : m = j := by have := HM.out; omega
              subst hi1
              have hm3 : decide ((m : Int) < (m : Int)) = false := decide_eq_false (by omega)
              clear hm HM HMK
              go_wp2
              go_loopg [19] (m + 1) (fun kq v19 w' => ∃ (a : Nat), v19 = .int .i64 (a : Int) ∧ Aside0 (a ≤ m) ∧ Aside0 (a + kq = m + 1) ∧ CS w (.slice Av m cv) (.slice none 0 0) us [] w')
              case atStart => exact ⟨0, rfl, ⟨by omega⟩, ⟨by omega⟩, S2⟩
              case round =>
                obtain ⟨a, rfl, HA, HAK, S3⟩ := hrel
                clear S2
                by_cases ha : a < m
                · have ha2 : (a : Int) < (m : Int) := by omega
                  have ha3 : decide ((a : Int) < (m : Int)) = true := decide_eq_true ha2
                  have HA2 := Aside0.mk ha
                  obtain ⟨ga, cva, e1⟩ := S3.ls.form HUL.out (by omega)
                  injection e1 with e1 _ e3
                  subst e1
                  obtain ⟨Aa, na, ca, la, hva, hla, hra, hca⟩ := S3.ls.el a (by rw [HUL.out]; exact ha)
                  have hl8 : na ≤ 8192 := by rw [← hla]; exact HUS.out _ (List.mem_of_getElem? hva)
                  have hrep := HUM.out a _ ha hva
                  have HREP : Aside0 (la = List.replicate na ((a : Int) % 251)) := ⟨by simp only [] at hrep; rw [hla] at hrep; exact hrep⟩
                  have RA := Aside0.mk hra
                  have HCA := Aside0.mk hca
                  clear hva hla hra hca hrep e3 ha
                  go_wp2
                  go_loopg [20] (na + 1) (fun kq v20 w' => ∃ (b : Nat), v20 = .int .i64 (b : Int) ∧ Aside0 (b ≤ na) ∧ Aside0 (b + kq = na + 1) ∧ Aside0 (RD w' Aa na ca la) ∧ Aside0 (w'.cell? ⟨ga, a, none⟩ = some (.slice Aa na ca)) ∧ CS w (.slice (some ⟨ga, 0, none⟩) m cv) (.slice none 0 0) us [] w')
                  case atStart => exact ⟨0, rfl, ⟨by omega⟩, ⟨by omega⟩, RA, HCA, S3⟩
                  case round =>
                    obtain ⟨b, rfl, HBI, HBK, RA2, HCA2, S4⟩ := hrel
                    clear S3 RA HCA
                    have hca := HCA2.out
                    by_cases hb : b < na
                    · have hb2 : (b : Int) < (na : Int) := by omega
                      have hb3 : decide ((b : Int) < (na : Int)) = true := decide_eq_true hb2
                      have HB2 := Aside0.mk hb
                      obtain ⟨ad, e, hcell⟩ := Kd.at_int RA2.out.cc (b : Int) (Int.natCast_nonneg _) (by omega)
                      subst e
                      rw [HREP.out, rd_rep hb, Int.toNat_natCast] at hcell
                      clear hb
                      go_wp2
                      go_roundg (na - b)
                      case measure => have := HBK.out; have := HB2.out; omega
                      case rel => exact ⟨b + 1, by go_num, ⟨by have := HB2.out; omega⟩, ⟨by have := HB2.out; omega⟩, RA2, HCA2, S4⟩
                    · have hi1 : b = na := by have := HBI.out; omega
                      subst hi1
                      have hb3 : decide ((b : Int) < (b : Int)) = false := decide_eq_false (by omega)
                      clear hb HBI HBK
                      go_wp2
                      go_roundg (m - a)
                      case measure => have := HAK.out; have := HA2.out; omega
                      case rel => exact ⟨a + 1, by go_num, ⟨by have := HA2.out; omega⟩, ⟨by have := HA2.out; omega⟩, S4⟩
                · have hi1 : a = m := by have := HA.out; omega
                  subst hi1
                  have ha3 : decide ((a : Int) < (a : Int)) = false := decide_eq_false (by omega)
                  clear ha HA HAK
                  go_wp2
                  go_ret
                  exact ⟨rfl, S3.bel⟩
end Go.Proofs.Ythggjlfiliggjaa.Own
