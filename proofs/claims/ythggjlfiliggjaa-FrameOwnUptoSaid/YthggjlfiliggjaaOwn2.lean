/- By hand: hold (a list written full, with 64 more bytes laid behind it). -/
import Derived.Test.YthggjlfiliggjaaOwn1
import Derived.Deep.DeepAppendRoom
namespace Go.Proofs.Ythggjlfiliggjaa.Own
open Go.RowKit Go.Proofs.Ythggjlfiliggjaa.QFr Go.Proofs.YthggjlfiliggjaaW.PrintWords Go.Proofs.YthggjlfiliggjaaW.PrintLast Go.Proofs.YthggjlfiliggjaaW.PrintMore Go.Proofs.Ythggjlfiliggjaa.Crc Go.Proofs.Ythggjlfiliggjaa.QFrExt Go.Proofs.Ythggjlfiliggjaa.FrPure Go.Proofs.Ythggjlfiliggjaa.FrLaws
set_option linter.unusedVariables false
set_option linter.unusedSimpArgs false

theorem u8_one {ys : List Int} : ∀ u ∈ (encs (Value.int .u8) ys), u.oneCell' = true := by
  intro u hu
  simp only [encs, List.mem_map] at hu
  obtain ⟨q, _, rfl⟩ := hu
  rfl
theorem run_keep {W : World} (ty : TypeId) (base : Nat) {v : Value} {xs ys : List Int} {ad : Addr} {m c : Nat} {ok : Nat → Prop} (HO : Kd.R (Kd.int .u8) 5 W base ok v xs) (HR : Kd.C (Kd.int .u8) W (some ad) m ys) (hm : 0 < m) (hbase : base ≤ W.heap.size) (hl : xs.length + m ≤ 70368744177664) (hfresh : ∀ k, W.heap.size ≤ k → ok k) :
    ∃ v1 w1, (Builtin.append_ #[23, 23] ty #[v, .slice (some ad) m c]).run Try.prog W = .ok v1 w1 ∧ Kd.R (Kd.int .u8) 5 w1 base ok v1 (xs ++ ys) ∧ Kd.R (Kd.int .u8) 5 w1 base ok v xs ∧ W.grownBy w1 v.ownBlock ∧ (v1.ownBlock = v.ownBlock ∨ v1.ownBlock = some W.heap.size) := by
  obtain ⟨i0, hi, hzz⟩ := Option.map_eq_some_iff.1 info5
  simp only [Prod.mk.injEq] at hzz
  obtain ⟨hz0, hz1, hz2⟩ := hzz
  have hyl : ys.length = m := Kd.C_len HR
  have hcs : ∀ j u, (encs (Value.int .u8) ys)[j]? = some u → W.cell? (ad.add j) = some u := by
    obtain ⟨ad', e, h⟩ := src_cells (l := ys) (by rw [hyl]; exact HR) (by rw [nums_len]; omega)
    injection e with e
    subst e
    intro j u hj
    exact h j u hj
  have hnl : (encs (Value.int .u8) ys).length = m * 1 := by rw [encs_length, hyl, Nat.mul_one]
  have hown := Kd.own_of_R HO
  have hok := HO.1
  have enc_app : encs (Value.int .u8) xs ++ encs (Value.int .u8) ys = encs (Value.int .u8) (xs ++ ys) := by simp [encs]
  have hlen : xs.length + m = (xs ++ ys).length := by rw [List.length_append, hyl]
  obtain ⟨v1, w1, hrun, h2, hg, _, hat⟩ := run_append_own_at (P := Try.prog) W base 23 ty 5 i0 _ 1 1 Try.underlying23 hi hz0 hz1 hz2 rfl (by decide) v xs.length _ hown ad m c _ hnl hcs u8_one (by simp only [maxLen]; omega) (by omega) hbase
  have hok1 : ∀ k, v1.ownBlock = some k → ok k := by
    intro k hk
    rcases hat with hat | hat
    · exact hok k (hat ▸ hk)
    · rw [hat] at hk
      injection hk with hk
      exact hfresh k (by omega)
  have hR1 : Kd.R (Kd.int .u8) 5 w1 base ok v1 (xs ++ ys) := Kd.R_of_own (by rw [enc_app, hlen] at h2; exact h2) hok1
  refine ⟨v1, w1, hrun, hR1, ?_, hg, hat⟩
  rcases hown.2 with ⟨rfl, hn⟩ | ⟨g, cap, cur, rfl, hgb, hgc, hnc, hcm, hcl, hct⟩
  · obtain rfl : xs = [] := List.eq_nil_of_length_eq_zero hn
    exact Kd.R_nil _ _ _ _ _
  · by_cases hroom : xs.length + m ≤ cap
    · obtain ⟨w2, hrun2, _, _⟩ := run_append_own_spare (P := Try.prog) W base 23 ty 5 i0 1 Try.underlying23 hi hz1 g xs.length cap _ hown ad m c _ hnl hcs u8_one hroom
      have e := hrun.symm.trans hrun2
      injection e with e1 e2
      subst e1
      have := Kd.R_take hR1 (m := xs.length) (by rw [List.length_append]; omega)
      rwa [List.take_left'] at this
      rfl
    · have hp : Builtin.nextslicecap (xs.length + m) cap * i0.bytes ≤ 281474976710656 := growslice_fits (by omega) (by rw [hz2]; omega)
      · have hrun2 := run_append_grow (P := Try.prog) W 23 ty 5 i0 _ Try.underlying23 hi hz0 ⟨g, 0, none⟩ xs.length cap (encs (Value.int .u8) xs) (by rw [hz1]; exact hown.1) (hown.cells (g := g) rfl) ad m c (encs (Value.int .u8) ys) (by rw [hz1]; exact hnl) hcs (by omega) (by omega) hp
        have e := hrun.symm.trans hrun2
        injection e with e1 e2
        rw [e2]
        exact Kd.R_alloc (Kd.R_drew HO) _
theorem append_keep {ops : Array Oper} {rest : List Oper} {o : Oper} {a : Act} {Q : Exit → Act → World → Prop} {w0 W : World} (base : Nat) (hgd : o.guard = none) (s x : Operand) (ho : o.op = .call { callee := .builtin .append, args := #[s, x], argTypes := #[23, 23] })
    (v : Value) (xs ys : List Int) (ad : Addr) (m c : Nat) (ok : Nat → Prop) (hs : a.eval s = v) (hx : a.eval x = .slice (some ad) m c) (HO : Kd.R (Kd.int .u8) 5 W base ok v xs) (HR : Kd.C (Kd.int .u8) W (some ad) m ys) (hm : 0 < m)
    (HB : Below base w0 W) (hbase : base ≤ W.heap.size) (hl : xs.length + m ≤ 70368744177664) (hfresh : ∀ k, W.heap.size ≤ k → ok k)
    (h : ∀ v1 w1, Kd.R (Kd.int .u8) 5 w1 base ok v1 (xs ++ ys) → Kd.R (Kd.int .u8) 5 w1 base ok v xs → Below base w0 w1 → W.grownBy w1 v.ownBlock → (v1.ownBlock = v.ownBlock ∨ v1.ownBlock = some W.heap.size) → wpList Try.prog ops Q rest (a.put o.dst v1) w1) :
    wpList Try.prog ops Q (o :: rest) a W := by
  obtain ⟨v1, w1, hr, h1, h2, hg, hat⟩ := run_keep o.type base HO HR hm hbase hl hfresh
  refine wpList_plain hgd fun K hK => ?_
  unfold Oper.wp execOp
  simp only [ho, resolve, invoke, builtin, Sem.run_bind, Sem.run_pure, Result.andThen_ok, List.map_toArray, List.map_cons, List.map_nil, hs, hx]
  erw [hr]
  exact hK _ _ (h v1 w1 h1 h2 (HB.grown hg hbase (own_base (Kd.own_of_R HO))) hg hat)

theorem row_farT {W W1 : World} {base gr t : Nat} {cs : Array Value} {v : Value} {xs : List Int} {ok : Nat → Prop} (h : Kd.R (Kd.int .u8) 5 W base ok v xs) (blk : W.heap[gr]? = some (.cells cs t (0, 0))) (ht : 5 ≠ t) (hg : W.grownBy W1 (some gr)) : Kd.R (Kd.int .u8) 5 W1 base ok v xs :=
  Kd.R_mono (Kd.R_grown (Kd.R_types h blk (by intro q hq; have : q = 5 := (by simpa [Kd.int, Kd.scalar] using hq); rw [this]; exact ht)) hg (fun k_ hk_ e_ => hk_.2 (Option.some.inj e_))) (fun k hk => hk.1)
/-- hold's world: the list's row, its result's box. -/
structure HS1 (w0 w : World) (v : Value) (xs : List Int) (gz : Nat) (W : World) : Prop where
  row : Kd.R (Kd.int .u8) 5 W w0.heap.size (fun k => some k = v.ownBlock) v xs
  bel : Below w0.heap.size w0 W
  kept : Kept w W (fun k => some k = v.ownBlock)
  bz : W.heap[gz]? = some (.cells #[.slice none 0 0, .slice none 0 0, .slice none 0 0] 60 (0, 0))
  gzle : w.heap.size ≤ gz
  lt : ∀ k, v.ownBlock = some k → k < w.heap.size
  le0 : w0.heap.size ≤ w.heap.size
theorem HS1.below {w0 w : World} {v : Value} {xs : List Int} {gz : Nat} {W W1 : World} (h : HS1 w0 w v xs gz W) (hb : Below W.heap.size W W1) : HS1 w0 w v xs gz W1 :=
  ⟨Kd.R_below h.row hb, below_then h.bel h.bel.size hb, h.kept.below hb, blk_below h.bz hb, h.gzle, h.lt, h.le0⟩
theorem HS1.put {w0 w : World} {n c g i : Nat} {xs : List Int} {gz : Nat} {W : World} {m : Int} (h : HS1 w0 w (.slice (some ⟨g, 0, none⟩) n c) xs gz W) (hg : w0.heap.size ≤ g) : HS1 w0 w (.slice (some ⟨g, 0, none⟩) n c) (xs.set i m) gz (W.setCell ⟨g, i, none⟩ (.int .u8 m)) := by
  have hp := Kd.R_putg h.row (i : Int) m
  rw [Int.toNat_natCast] at hp
  exact ⟨hp.1, below_set h.bel hg, tight_kept h.kept hp.2, blk_grown h.bz hp.2 (fun e => by injection e with e; have := h.gzle; have := h.lt g rfl; omega), h.gzle, h.lt, h.le0⟩
theorem HS1.grown {w0 w : World} {v : Value} {xs : List Int} {gz : Nat} {W W1 : World} {row : Option Nat} (h : HS1 w0 w v xs gz W) (hb : Below w0.heap.size w0 W1) (hg : W.grownBy W1 row) (hr : ∀ k, row = some k → w.heap.size ≤ k) (hz : row ≠ some gz) : HS1 w0 w v xs gz W1 :=
  ⟨Kd.R_grown h.row hg (fun k hk e => by have := h.lt k hk.symm; have := hr k e.symm; omega), hb, Kept.of_grown hg h.kept (fun k hk => .inr (hr k hk)), blk_grown h.bz hg (fun e => hz e.symm), h.gzle, h.lt, h.le0⟩
theorem HS1.far {w0 w : World} {v : Value} {xs : List Int} {gz gb : Nat} {W : World} {cs : Array Value} (h : HS1 w0 w v xs gz W) (hb : W.heap[gb]? = some (.cells cs 60 (0, 0))) (hne : gb ≠ gz) (hle : w.heap.size ≤ gb) (j : Nat) (u : Value) : HS1 w0 w v xs gz (W.setCell ⟨gb, j, none⟩ u) :=
  ⟨row_farT h.row hb (by decide) (grown_set _ _ _ _), below_set h.bel (Nat.le_trans h.le0 hle), h.kept.setCell (.inr hle) u, blk_far h.bz (Ne.symm hne) u, h.gzle, h.lt, h.le0⟩
structure HS2 (w0 w : World) (v : Value) (xs : List Int) (gz gb : Nat) (vw vr : Value) (ws : List Int) (W : World) : Prop where
  one : HS1 w0 w v xs gz W
  bb : W.heap[gb]? = some (.cells #[v, vw, vr] 60 (0, 0))
  gble : w.heap.size ≤ gb
  ne : gb ≠ gz
  wr : Kd.R (Kd.int .u8) 5 W w0.heap.size (fun k => some k = vw.ownBlock) vw ws
  wlt : ∀ k, vw.ownBlock = some k → w.heap.size ≤ k
theorem HS2.below {w0 w : World} {v : Value} {xs : List Int} {gz gb : Nat} {vw vr : Value} {ws : List Int} {W W1 : World} (h : HS2 w0 w v xs gz gb vw vr ws W) (hb : Below W.heap.size W W1) : HS2 w0 w v xs gz gb vw vr ws W1 :=
  ⟨h.one.below hb, blk_below h.bb hb, h.gble, h.ne, Kd.R_below h.wr hb, h.wlt⟩
/-- Some row (bytes) that is neither of the boxes nor the list nor want has grown. -/
theorem HS2.grown {w0 w : World} {v : Value} {xs : List Int} {gz gb : Nat} {vw vr : Value} {ws : List Int} {W W1 : World} {u : Value} {us : List Int} {ok : Nat → Prop} (h : HS2 w0 w v xs gz gb vw vr ws W) (hu : Kd.R (Kd.int .u8) 5 W w0.heap.size ok u us) (hb : Below w0.heap.size w0 W1) (hg : W.grownBy W1 u.ownBlock) (hr : ∀ k, u.ownBlock = some k → w.heap.size ≤ k) (hw : ∀ k, u.ownBlock = some k → some k ≠ vw.ownBlock) : HS2 w0 w v xs gz gb vw vr ws W1 :=
  ⟨h.one.grown hb hg hr (fun e => Kd.R_ne hu h.one.bz (by decide) e.symm), blk_grown h.bb hg (Kd.R_ne hu h.bb (by decide)), h.gble, h.ne, Kd.R_grown h.wr hg (fun k hk e => hw k e.symm hk), h.wlt⟩
/-- want has grown. -/
theorem HS2.want {w0 w : World} {v : Value} {xs : List Int} {gz gb : Nat} {vw vr : Value} {ws : List Int} {W W1 : World} (h : HS2 w0 w v xs gz gb vw vr ws W) {v1 : Value} {ws1 : List Int} {ok : Nat → Prop} (hb : Below w0.heap.size w0 W1) (hg : W.grownBy W1 vw.ownBlock) (h1 : Kd.R (Kd.int .u8) 5 W1 w0.heap.size ok v1 ws1) (hat : v1.ownBlock = vw.ownBlock ∨ ∃ b, v1.ownBlock = some b ∧ W.heap.size ≤ b) :
    HS2 w0 w v xs gz gb v1 vr ws1 (W1.setCell ⟨gb, 1, none⟩ v1) := by
  have hone := h.one.grown hb hg h.wlt (fun e => Kd.R_ne h.wr h.one.bz (by decide) e.symm)
  have hbb := blk_grown h.bb hg (Kd.R_ne h.wr h.bb (by decide))
  refine ⟨hone.far hbb h.ne h.gble 1 v1, blk_put hbb 1 v1 rfl, h.gble, h.ne, row_farT (Kd.R_tight rfl h1) hbb (by decide) (grown_set _ _ _ _), ?_⟩
  intro k hk
  rcases hat with hat | ⟨b, hb1, hle⟩
  · exact h.wlt k (hat ▸ hk)
  · rw [hb1] at hk
    injection hk with hk
    have := h.one.kept.1
    omega

theorem HS1.start {w0 w : World} {v : Value} {xs : List Int} {gz gb : Nat} {W : World} {a b c : Value} (h : HS1 w0 w v xs gz W) (hb : W.heap[gb]? = some (.cells #[a, b, c] 60 (0, 0))) (hne : gb ≠ gz) (hle : w.heap.size ≤ gb) :
    HS2 w0 w v xs gz gb (.slice none 0 0) (.slice none 0 0) [] (((W.setCell ⟨gb, 0, none⟩ v).setCell ⟨gb, 1, none⟩ (.slice none 0 0)).setCell ⟨gb, 2, none⟩ (.slice none 0 0)) := by
  have b1 := blk_put hb 0 v rfl
  have b2 := blk_put b1 1 (.slice none 0 0) rfl
  exact ⟨((h.far hb hne hle 0 v).far b1 hne hle 1 (.slice none 0 0)).far b2 hne hle 2 (.slice none 0 0), blk_put b2 2 (.slice none 0 0) rfl, hle, hne, Kd.R_nil _ _ _ _ _, fun k hk => by simp [Value.ownBlock] at hk⟩
theorem newer {w0 w : World} {v : Value} {xs : List Int} {gz gb : Nat} {vw vr : Value} {ws : List Int} {W : World} (h : HS2 w0 w v xs gz gb vw vr ws W) {gm n cm : Nat} (hnew : ∃ b, (Value.slice (some ⟨gm, 0, none⟩) n cm).ownBlock = some b ∧ W.heap.size ≤ b) : w.heap.size ≤ gm ∧ some gm ≠ vw.ownBlock := by
  obtain ⟨b, hb, hle⟩ := hnew
  have : gm = b := by simpa [Value.ownBlock] using hb
  subst this
  refine ⟨Nat.le_trans h.one.kept.1 hle, fun e => ?_⟩
  have := Kd.R_lt h.wr gm e.symm
  omega
theorem more_put {w0 w : World} {v : Value} {xs : List Int} {gz gb : Nat} {vw vr : Value} {ws : List Int} {W : World} (h : HS2 w0 w v xs gz gb vw vr ws W) {gm n cm : Nat} (hm : w.heap.size ≤ gm ∧ some gm ≠ vw.ownBlock) {ys : List Int} (hR : Kd.R (Kd.int .u8) 5 W w0.heap.size (fun _ => True) (.slice (some ⟨gm, 0, none⟩) n cm) ys) (q : Nat) (y : Int) :
    HS2 w0 w v xs gz gb vw vr ws (W.setCell ⟨gm, q, none⟩ (.int .u8 y)) ∧ Kd.R (Kd.int .u8) 5 (W.setCell ⟨gm, q, none⟩ (.int .u8 y)) w0.heap.size (fun _ => True) (.slice (some ⟨gm, 0, none⟩) n cm) (ys.set q y) := by
  have hp := Kd.R_putg hR (q : Int) y
  rw [Int.toNat_natCast] at hp
  refine ⟨h.grown hR (below_set h.one.bel (Nat.le_trans h.one.le0 hm.1)) hp.2 (fun k hk => ?_) (fun k hk => ?_), hp.1⟩
  · have : gm = k := by simpa [Value.ownBlock] using hk
    rw [← this]; exact hm.1
  · have : gm = k := by simpa [Value.ownBlock] using hk
    rw [← this]; exact hm.2
theorem HS2.room {w0 w : World} {v : Value} {xs : List Int} {gz gb : Nat} {vw vr0 : Value} {ws : List Int} {W W1 : World} (h : HS2 w0 w v xs gz gb vw vr0 ws W) {vr : Value} {rs : List Int} {ok ok2 : Nat → Prop} (hb : Below w0.heap.size w0 W1) (hg : W.grownBy W1 v.ownBlock) (h1 : Kd.R (Kd.int .u8) 5 W1 w0.heap.size ok vr rs) (h2 : Kd.R (Kd.int .u8) 5 W1 w0.heap.size ok2 v xs) (hat : vr.ownBlock = v.ownBlock ∨ vr.ownBlock = some W.heap.size) :
    HS2 w0 w v xs gz gb vw vr ws (W1.setCell ⟨gb, 2, none⟩ vr) ∧ Kd.R (Kd.int .u8) 5 (W1.setCell ⟨gb, 2, none⟩ vr) w0.heap.size (fun k => some k = vr.ownBlock) vr rs ∧ (∀ k, vr.ownBlock = some k → vw.ownBlock ≠ some k ∧ (some k = v.ownBlock ∨ w.heap.size ≤ k)) := by
  have hbb := blk_grown h.bb hg (Kd.R_ne h.one.row h.bb (by decide))
  have hone : HS1 w0 w v xs gz W1 := ⟨Kd.R_tight rfl h2, hb, Kept.of_grown hg h.one.kept (fun k hk => .inl hk.symm), blk_grown h.one.bz hg (Kd.R_ne h.one.row h.one.bz (by decide)), h.one.gzle, h.one.lt, h.one.le0⟩
  have hw1 := Kd.R_grown h.wr hg (fun k hk e => by have := h.one.lt k e.symm; have := h.wlt k hk.symm; omega)
  refine ⟨⟨hone.far hbb h.ne h.gble 2 vr, blk_put hbb 2 vr rfl, h.gble, h.ne, row_farT hw1 hbb (by decide) (grown_set _ _ _ _), h.wlt⟩, row_farT (Kd.R_tight rfl h1) hbb (by decide) (grown_set _ _ _ _), fun k hk => ?_⟩
  rcases hat with hat | hat
  · rw [hat] at hk
    exact ⟨fun e => by have := h.one.lt k hk; have := h.wlt k e; omega, .inl hk.symm⟩
  · rw [hat] at hk
    injection hk with hk
    exact ⟨fun e => by have := Kd.R_lt h.wr k e; omega, .inr (by have := h.one.kept.1; omega)⟩
/-- Another row, while one grows and a box is written. -/
theorem HS2.other {w0 w : World} {v : Value} {xs : List Int} {gz gb : Nat} {vw vr : Value} {ws : List Int} {W W1 : World} (h : HS2 w0 w v xs gz gb vw vr ws W) {u z : Value} {us zs : List Int} {okz : Nat → Prop} (hu : Kd.R (Kd.int .u8) 5 W w0.heap.size (fun k => some k = u.ownBlock) u us) (hz : Kd.R (Kd.int .u8) 5 W w0.heap.size okz z zs) (hg : W.grownBy W1 z.ownBlock) (hne : ∀ k, u.ownBlock = some k → z.ownBlock ≠ some k) (j : Nat) (x : Value) :
    Kd.R (Kd.int .u8) 5 (W1.setCell ⟨gb, j, none⟩ x) w0.heap.size (fun k => some k = u.ownBlock) u us :=
  row_farT (Kd.R_grown hu hg (fun k hk e => hne k hk.symm e.symm)) (blk_grown h.bb hg (Kd.R_ne hz h.bb (by decide))) (by decide) (grown_set _ _ _ _)
theorem HS2.done {w0 w : World} {v : Value} {xs : List Int} {gz gb : Nat} {vw vr : Value} {ws rs : List Int} {W : World} (h : HS2 w0 w v xs gz gb vw vr ws W) (hr : Kd.R (Kd.int .u8) 5 W w0.heap.size (fun k => some k = vr.ownBlock) vr rs) (hrk : ∀ k, vr.ownBlock = some k → some k = v.ownBlock ∨ w.heap.size ≤ k) :
    (((W.setCell ⟨gz, 0, none⟩ v).setCell ⟨gz, 1, none⟩ vw).setCell ⟨gz, 2, none⟩ vr).heap[gz]? = some (.cells #[v, vw, vr] 60 (0, 0)) ∧
    Kd.R (Kd.int .u8) 5 (((W.setCell ⟨gz, 0, none⟩ v).setCell ⟨gz, 1, none⟩ vw).setCell ⟨gz, 2, none⟩ vr) w0.heap.size (fun k => some k = v.ownBlock ∨ w.heap.size ≤ k) v xs ∧
    Kd.R (Kd.int .u8) 5 (((W.setCell ⟨gz, 0, none⟩ v).setCell ⟨gz, 1, none⟩ vw).setCell ⟨gz, 2, none⟩ vr) w0.heap.size (fun k => some k = v.ownBlock ∨ w.heap.size ≤ k) vw ws ∧
    Kd.R (Kd.int .u8) 5 (((W.setCell ⟨gz, 0, none⟩ v).setCell ⟨gz, 1, none⟩ vw).setCell ⟨gz, 2, none⟩ vr) w0.heap.size (fun k => some k = v.ownBlock ∨ w.heap.size ≤ k) vr rs ∧
    Below w0.heap.size w0 (((W.setCell ⟨gz, 0, none⟩ v).setCell ⟨gz, 1, none⟩ vw).setCell ⟨gz, 2, none⟩ vr) ∧ Kept w (((W.setCell ⟨gz, 0, none⟩ v).setCell ⟨gz, 1, none⟩ vw).setCell ⟨gz, 2, none⟩ vr) (fun k => some k = v.ownBlock) := by
  have b1 := blk_put h.one.bz 0 v rfl
  have b2 := blk_put b1 1 vw rfl
  have hle := Nat.le_trans h.one.le0 h.one.gzle
  have hg := World.grownBy.trans (World.grownBy.trans (grown_set W gz 0 v) (grown_set (W.setCell ⟨gz, 0, none⟩ v) gz 1 vw)) (grown_set ((W.setCell ⟨gz, 0, none⟩ v).setCell ⟨gz, 1, none⟩ vw) gz 2 vr)
  refine ⟨blk_put b2 2 vr rfl, ?_, ?_, ?_, below_set (below_set (below_set h.one.bel hle) hle) hle, ((h.one.kept.setCell (.inr h.one.gzle) _).setCell (.inr h.one.gzle) _).setCell (.inr h.one.gzle) _⟩
  · exact Kd.R_mono (row_farT h.one.row h.one.bz (by decide) hg) (fun k hk => .inl hk)
  · exact Kd.R_mono (row_farT h.wr h.one.bz (by decide) hg) (fun k hk => .inr (h.wlt k hk.symm))
  · exact Kd.R_mono (row_farT hr h.one.bz (by decide) hg) (fun k hk => hrk k hk.symm)
theorem results_c1 {P : Program} {fn : Func} {p : Tmp} {ty : TypeId} (h : fn.results = #[.cell p ty]) (tmps : Array Value) (w : World) (g : Nat) (t : TypeId) (cs : Array Value) (fr : Nat × Nat) (d : TypeDesc)
    (hp : tmps.getD p undef = .pointer (some ⟨g, 0, none⟩)) (hg : w.heap[g]? = some (.cells cs t fr))
    (hu : P.underlying ty = some d) (hd : (match d with | .struct _ | .array _ _ => true | _ => false) = true) (hi : (P.info? ty).map (·.size) = some cs.size) :
    (results fn tmps).run P w = .ok (.agg cs) w := by
  have hp' : tmps[p]?.getD undef = .pointer (some ⟨g, 0, none⟩) := by simpa using hp
  simp [results, h, hp', asAddr, run_loadVar_row w g t ty cs fr d hg hu hd hi]
set_option maxHeartbeats 8000000 in
set_option maxRecDepth 100000 in
theorem hold (v : Value) (xs0 : List Int) (m : Int) (w0 w : World) (hB : Below w0.heap.size w0 w) (hR : Kd.R (Kd.int .u8) 5 w w0.heap.size (fun k => some k = v.ownBlock) v xs0) (hm : 0 ≤ m ∧ m < 256) (hl : xs0.length ≤ 4194304) :
    Calls Try.prog 33 #[v, .int .u8 m] w fun e w' => ∃ (v1 v2 : Value) (mo : List Int), e = .returned (.agg #[v, v1, v2]) ∧ mo.length = 64 ∧ Kd.R (Kd.int .u8) 5 w' w0.heap.size (fun k => some k = v.ownBlock ∨ w.heap.size ≤ k) v (List.replicate xs0.length m) ∧
      Kd.R (Kd.int .u8) 5 w' w0.heap.size (fun k => some k = v.ownBlock ∨ w.heap.size ≤ k) v1 (List.replicate xs0.length m ++ mo) ∧ Kd.R (Kd.int .u8) 5 w' w0.heap.size (fun k => some k = v.ownBlock ∨ w.heap.size ≤ k) v2 (List.replicate xs0.length m ++ mo) ∧
      Below w0.heap.size w0 w' ∧ Kept w w' (fun k => some k = v.ownBlock) := by
  have hu60 := Try.underlying60
  obtain ⟨A, c, rfl⟩ := Kd.R_slice hR
  obtain ⟨n, hn⟩ : ∃ n, n = xs0.length := ⟨_, rfl⟩
  rw [← hn] at hR hl ⊢
  have HN := Aside0.mk hn.symm
  have HO := Aside0.mk hR
  have HB := Aside0.mk hB
  have HM := Aside0.mk hm
  clear hn hR hB hm
  go_enter Try.func33, Try.ntmps33
  go_wp2_with ((with_reducible refine gate_dst (N := 4) rfl ?_); go_must (refine box_event ?hg (N := 4) ?hd (cs := #[.slice none 0 0, .slice none 0 0, .slice none 0 0]) (t := 60) ?hr ?_); (case hd => rfl); (case hg => rfl); (case hr => first | (go_simp; done) | (go_simp; rfl)); intro gz hg w4 hbox hb; have ST : HS1 w0 w (.slice A n c) xs0 gz w4 := ⟨Kd.R_below HO.out hb, below_then HB.out HB.out.size hb, Kept.of_below hb _, hbox, by rw [hg]; exact Nat.le_refl _, Kd.R_lt HO.out, HB.out.size⟩; clear hbox hb hg HO HB)
  go_loopg [5] (n + 1) (fun kq v5 w' => ∃ (i : Nat) (xs : List Int), v5 = .int .i64 (i : Int) ∧ Aside0 (i ≤ n) ∧ Aside0 (i + kq = n + 1) ∧ Aside0 (xs.length = n) ∧ Aside0 (xs.take i = List.replicate i m) ∧ HS1 w0 w (.slice A n c) xs gz w')
  case atStart => exact ⟨0, xs0, rfl, ⟨by omega⟩, ⟨by omega⟩, HN, ⟨rfl⟩, ST⟩
  case round =>
    obtain ⟨i, xs, rfl, HI, HIK, HXL, HXM, ST1⟩ := hrel
    clear ST
    by_cases hi : i < n
    · have hi2 : (i : Int) < (n : Int) := by omega
      have hi3 : decide ((i : Int) < (n : Int)) = true := decide_eq_true hi2
      have hi4 : decide (i < n) = true := decide_eq_true hi
      have HI2 := Aside0.mk hi
      obtain ⟨g, cap, e, hgb, _, _⟩ := Kd.R_form ST1.row (by have := HXL.out; omega)
      injection e with e1 e2 e3
      subst e1
      subst e3
      have HG := Aside0.mk hgb
      clear hgb e2
      obtain ⟨hx0, hf0⟩ := Kd.R_celln 0 ST1.row (i : Int) (Int.natCast_nonneg _) (by omega)
      have ST2 := ST1.put (i := i) (m := m) HG.out
      rw [Int.toNat_natCast] at hx0 hf0
      go_wp2_with ((with_reducible refine gate_store (t := 5) (p := 19) rfl ?_); go_must (refine store_event (t := 5) (p := 19) (v := ?vo_w12) (w1 := (wr.setCell ⟨g, i, none⟩ (.int .u8 m))) ?hg ?ho ?hn ?hr ?_); (case ho => rfl); (case hg => rfl); (case hn => rfl); (case hr => first | (go_simp; done) | (go_simp; rfl)); intro w12 hw; rw [← hw] at ST2; clear hw ST1 hx0 hf0)
      go_roundg (n - i)
      case measure => have := HIK.out; have := HI2.out; omega
      case rel => exact ⟨i + 1, _, by go_num, ⟨by have := HI2.out; omega⟩, ⟨by have := HI2.out; omega⟩, ⟨by rw [List.length_set]; exact HXL.out⟩, ⟨set_marks xs i n m HXL.out HI2.out HXM.out⟩, ST2⟩
    · have hi1 : i = n := by have := HI.out; omega
      subst hi1
      have hi3 : decide ((i : Int) < (i : Int)) = false := decide_eq_false (by omega)
      clear hi HI HIK
      obtain rfl := set_all xs m i HXL.out HXM.out
      go_wp2_with ((with_reducible refine gate_dst (N := 6) rfl ?_); go_must (refine box_event ?hg (N := 6) ?hd (cs := #[.slice none 0 0, .slice none 0 0, .slice none 0 0]) (t := 60) ?hr ?_); (case hd => rfl); (case hg => rfl); (case hr => first | (go_simp; done) | (go_simp; rfl)); intro gb hg w6 hbox hb; have ST3 := ST1.below hb; have BX := Aside0.mk hbox; have NE : gb ≠ gz := (by rw [hg]; exact Ne.symm (Nat.ne_of_lt (blk_lt ST1.bz))); have GE := Aside0.mk (by rw [hg]; exact ST1.kept.1 : w.heap.size ≤ gb); have hc0 : w6.cell? ⟨gb, 0, none⟩ = some (.slice none 0 0) := (blk_cell BX.out 0).trans rfl; have hc1 : w6.cell? ⟨gb, 1, none⟩ = some (.slice none 0 0) := (blk_cell BX.out 1).trans rfl; have hc2 : w6.cell? ⟨gb, 2, none⟩ = some (.slice none 0 0) := (blk_cell BX.out 2).trans rfl; have hf0 := blk_frozen BX.out 0; have hf1 := blk_frozen BX.out 1; have hf2 := blk_frozen BX.out 2; clear hbox hb hg ST1)
      have ST4 := ST3.start BX.out NE GE.out
      clear hc0 hc1 hc2 hf0 hf1 hf2 ST3 BX NE GE
      generalize ((w6.setCell ⟨gb, 0, none⟩ (.slice A i c)).setCell ⟨gb, 1, none⟩ (.slice none 0 0)).setCell ⟨gb, 2, none⟩ (.slice none 0 0) = w7 at *
      go_loopg [7] (i + 1) (fun kq v7 w' => ∃ (j : Nat) (vw : Value), v7 = .int .i64 (j : Int) ∧ Aside0 (j ≤ i) ∧ Aside0 (j + kq = i + 1) ∧ HS2 w0 w (.slice A i c) (List.replicate i m) gz gb vw (.slice none 0 0) (List.replicate j m) w')
      case atStart => exact ⟨0, .slice none 0 0, rfl, ⟨by omega⟩, ⟨by omega⟩, ST4⟩
      case round =>
        obtain ⟨j, vw, rfl, HJ, HJK, ST5⟩ := hrel
        clear ST4
        by_cases hj : j < i
        · have hi2 : (j : Int) < (i : Int) := by omega
          have hi3 : decide ((j : Int) < (i : Int)) = true := decide_eq_true hi2
          have hi4 : decide (j < i) = true := decide_eq_true hj
          have HJ2 := Aside0.mk hj
          have hc1 := (blk_cell ST5.bb 1).trans rfl
          have hlr := List.length_replicate (n := j) (a := m)
          go_wp2_with ((with_reducible refine gate_builtin (b := .append) (xs := #[.tmp 29, .tmp 31]) rfl ?_); at_builtin; go_must (refine Kd.R_append (Kd.int .u8) (w0 := w0) w0.heap.size rfl (.tmp 29) (.tmp 31) 23 5 (.int .u8 0) 1 rfl Try.underlying23 info5 rfl (by decide) (by omega) vw (List.replicate j m) m [.int .u8 m] (fun _ => True) (fun _ => False) rfl rfl ?aP (fun _ hk => hk.elim) ?aF ?aO ?aB ?aS ?aL ?_; (case aP => exact rfl); (case aB => exact ST5.one.bel); (case aF => exact (fun _ _ => trivial)); (case aO => exact Kd.R_mono ST5.wr (fun _ _ => trivial)); (case aS => exact ST5.one.bel.size); (case aL => rw [hlr]; omega); intro v1 w8 ho hb hg hat; obtain ⟨A1, c1, rfl⟩ := Kd.R_slice ho; have ST6 := ST5.want hb hg ho hat; rw [show (List.replicate j m ++ [m]).length = j + 1 from by simp] at ST6; have B8 := Aside0.mk (blk_grown ST5.bb hg (Kd.R_ne ST5.wr ST5.bb (by decide))); have hd1 : w8.cell? ⟨gb, 1, none⟩ = some vw := (blk_cell B8.out 1).trans rfl; have hd1f := blk_frozen B8.out 1; clear ho hb hg hat ST5 hc1 B8))
          go_roundg (i - j)
          case measure => have := HJK.out; have := HJ2.out; omega
          case rel => exact ⟨j + 1, _, by go_num, ⟨by have := HJ2.out; omega⟩, ⟨by have := HJ2.out; omega⟩, by rw [List.replicate_succ']; exact ST6⟩
        · have hi1 : j = i := by have := HJ.out; omega
          subst hi1
          have hi3 : decide ((j : Int) < (j : Int)) = false := decide_eq_false (by omega)
          clear hj HJ HJK
          go_wp2_with ((with_reducible refine gate_dst (N := 34) rfl ?_); go_must (refine Kd.R_make (Kd.int .u8) w0.heap.size 5 ?hg (N := 34) ?hd 23 (.const (.int .i64 64)) (.const (.int .i64 64)) ?ho 64 ?hx ?hy Try.underlying23 (.int .u8 0) 1 info5 rfl (by decide) (by decide) 0 (ok := fun _ => True) (okp := fun _ => True) rfl (fun _ hk => hk) trivial (by decide) (by decide) (w0 := w0) ST5.one.bel ST5.one.bel.size ?_); (case hg => rfl); (case hd => rfl); (case ho => rfl); (case hx => rfl); (case hy => rfl); intro v1 w9 ho hb hg hnew; rw [show (64 : Int).toNat = 64 from rfl] at ho; obtain ⟨gm, cm, rfl, HG, hcap, HGC⟩ := row_form ho (List.length_replicate ..) (by omega); have ST6 := ST5.grown (u := .slice none 0 0) (us := []) (ok := fun _ => True) (Kd.R_nil _ _ _ _ _) hb hg (fun k hk => by simp [Value.ownBlock] at hk) (fun k hk => by simp [Value.ownBlock] at hk); have HMN : Aside0 (w.heap.size ≤ gm ∧ some gm ≠ vw.ownBlock) := ⟨newer ST5 hnew⟩; have HMO := Aside0.mk ho; clear ho hb hg hnew HG HGC ST5)
          go_loopg [9] 65 (fun kq v9 w' => ∃ (q : Nat) (ys : List Int), v9 = .int .i64 (q : Int) ∧ Aside0 (q ≤ 64) ∧ Aside0 (q + kq = 65) ∧ Aside0 (ys.length = 64) ∧ HS2 w0 w (.slice A j c) (List.replicate j m) gz gb vw (.slice none 0 0) (List.replicate j m) w' ∧ Aside0 (Kd.R (Kd.int .u8) 5 w' w0.heap.size (fun _ => True) (.slice (some ⟨gm, 0, none⟩) 64 cm) ys))
          case atStart => exact ⟨0, _, rfl, ⟨by omega⟩, ⟨by omega⟩, ⟨List.length_replicate ..⟩, ST6, HMO⟩
          case round =>
            obtain ⟨q, ys, rfl, HQ, HQK, HYL, ST7, HMX⟩ := hrel
            clear ST6 HMO
            by_cases hq : q < 64
            · have hi2 : (q : Int) < 64 := by omega
              have hi3 : decide ((q : Int) < 64) = true := decide_eq_true hi2
              have hi4 : decide (q < 64) = true := decide_eq_true hq
              have HQ2 := Aside0.mk hq
              obtain ⟨hx0, hf0⟩ := Kd.R_celln 0 HMX.out (q : Int) (Int.natCast_nonneg _) (by omega)
              have HP := Aside0.mk (fun y => more_put ST7 HMN.out HMX.out q y)
              rw [Int.toNat_natCast] at hx0 hf0
              clear ST7 HMX
              go_wp2
              go_roundg (64 - q)
              case measure => have := HQK.out; have := HQ2.out; omega
              case rel => exact ⟨q + 1, _, by go_num, ⟨by have := HQ2.out; omega⟩, ⟨by have := HQ2.out; omega⟩, ⟨by rw [List.length_set]; exact HYL.out⟩, (HP.out _).1, ⟨(HP.out _).2⟩⟩
            · have hi1 : q = 64 := by have := HQ.out; omega
              subst hi1
              clear hq HQ HQK
              have hyl := HYL.out
              have hlr := List.length_replicate (n := j) (a := m)
              have HMC := Aside0.mk (Kd.R_reads' HMX.out)
              obtain ⟨Aw, cw, ew⟩ := Kd.R_slice ST7.wr
              rw [hlr] at ew
              subst ew
              have hmt := Kd.R_tight rfl HMX.out
              have HMT := Aside0.mk hmt
              have hmv : ∀ k, (Value.slice (some ⟨gm, 0, none⟩) 64 cm).ownBlock = some k → (Value.slice A j c).ownBlock ≠ some k := fun k hk e => by have e1 : gm = k := (by simpa [Value.ownBlock] using hk); have := ST7.one.lt k e; have := HMN.out.1; omega
              have HMV := Aside0.mk hmv
              clear hmt hmv HMX
              go_wp2_with (first | ((with_reducible refine gate_builtin (b := .append) (xs := #[.tmp 50, .tmp 51]) rfl ?_); at_builtin; go_must (refine append_keep (w0 := w0) w0.heap.size rfl (.tmp 50) (.tmp 51) rfl (.slice A j c) (List.replicate j m) ys ⟨gm, 0, none⟩ 64 cm (fun k => some k = (Value.slice A j c).ownBlock ∨ w.heap.size ≤ k) rfl rfl (Kd.R_mono ST7.one.row (fun k hk => .inl hk)) (by have h_ := HMC.out.2.2; rw [hyl] at h_; exact h_) (by decide) ST7.one.bel ST7.one.bel.size (by rw [hlr]; omega) (fun k hk => .inr (Nat.le_trans ST7.one.kept.1 hk)) ?_; intro vr W1 hr1 hr2 hb hg hat; obtain ⟨Ar, cr, rfl⟩ := Kd.R_slice hr1; have ST8 := ST7.room hb hg hr1 hr2 hat; have HM8 := Aside0.mk (ST7.other HMT.out ST7.one.row hg HMV.out 2 (.slice Ar (List.replicate j m ++ ys).length cr)); have B8 := Aside0.mk (blk_grown ST7.bb hg (Kd.R_ne ST7.one.row ST7.bb (by decide))); have hd1 : W1.cell? ⟨gb, 1, none⟩ = some (.slice Aw j cw) := (blk_cell B8.out 1).trans rfl; have hd2 : W1.cell? ⟨gb, 2, none⟩ = some (.slice none 0 0) := (blk_cell B8.out 2).trans rfl; have hd1f := blk_frozen B8.out 1; have hd2f := blk_frozen B8.out 2; rw [show (List.replicate j m ++ ys).length = j + 64 from (by rw [List.length_append, hlr, hyl])] at ST8 HM8 ⊢; clear hr1 hr2 hb hg hat ST7 HMT B8)) | ((with_reducible refine gate_builtin (b := .append) (xs := #[.tmp 55, .tmp 56]) rfl ?_); at_builtin; go_must (generalize hW : W1.setCell ⟨gb, 2, none⟩ (.slice Ar (j + 64) cr) = W2 at *; have HMC2 := Kd.R_reads' HM8.out; refine append_keep (w0 := w0) w0.heap.size rfl (.tmp 55) (.tmp 56) rfl (.slice Aw j cw) (List.replicate j m) ys ⟨gm, 0, none⟩ 64 cm (fun _ => True) rfl rfl (Kd.R_mono ST8.1.wr (fun _ _ => trivial)) (by have h_ := HMC2.2.2; rw [hyl] at h_; exact h_) (by decide) ST8.1.one.bel ST8.1.one.bel.size (by rw [hlr]; omega) (fun _ _ => trivial) ?_; intro v1 W3 hr1 hr2 hb hg hat; obtain ⟨A1, c1, rfl⟩ := Kd.R_slice hr1; have ST9 := ST8.1.want hb hg hr1 (hat.elim .inl (fun e => .inr ⟨_, e, Nat.le_refl _⟩)); have HR9 := Aside0.mk (ST8.1.other ST8.2.1 ST8.1.wr hg (fun k hk => (ST8.2.2 k hk).1) 1 (.slice A1 (List.replicate j m ++ ys).length c1)); have HRK := Aside0.mk (fun k hk => (ST8.2.2 k hk).2); have B9 := Aside0.mk (blk_grown ST8.1.bb hg (Kd.R_ne ST8.1.wr ST8.1.bb (by decide))); have Z9 := Aside0.mk (blk_grown ST8.1.one.bz hg (Kd.R_ne ST8.1.wr ST8.1.one.bz (by decide))); have hd0 : W3.cell? ⟨gb, 0, none⟩ = some (.slice A j c) := (blk_cell B9.out 0).trans rfl; have hd1 : W3.cell? ⟨gb, 1, none⟩ = some (.slice Aw j cw) := (blk_cell B9.out 1).trans rfl; have hd2 : W3.cell? ⟨gb, 2, none⟩ = some (.slice Ar (j + 64) cr) := (blk_cell B9.out 2).trans rfl; have hd0f := blk_frozen B9.out 0; have hd1f := blk_frozen B9.out 1; have hd2f := blk_frozen B9.out 2; have hz0 : W3.cell? ⟨gz, 0, none⟩ = some (.slice none 0 0) := (blk_cell Z9.out 0).trans rfl; have hz1 : W3.cell? ⟨gz, 1, none⟩ = some (.slice none 0 0) := (blk_cell Z9.out 1).trans rfl; have hz2 : W3.cell? ⟨gz, 2, none⟩ = some (.slice none 0 0) := (blk_cell Z9.out 2).trans rfl; have hz0f := blk_frozen Z9.out 0; have hz1f := blk_frozen Z9.out 1; have hz2f := blk_frozen Z9.out 2; have NE := ST8.1.ne; have NE2 := Ne.symm NE; rw [show (List.replicate j m ++ ys).length = j + 64 from (by rw [List.length_append, hlr, hyl])] at ST9 HR9 ⊢; clear hr1 hr2 hb hg hat ST8 HM8 HMC2 B9 Z9)))
              have D := ST9.done HR9.out HRK.out
              exact bodyPost_ret (results_c1 rfl _ _ gz 60 #[.slice A j c, .slice A1 (j + 64) c1, .slice Ar (j + 64) cr] (0, 0) _ rfl D.1 Try.underlying60 rfl (by kernel_rfl)) rfl ⟨_, _, ys, rfl, hyl, D.2.1, D.2.2.1, D.2.2.2.1, D.2.2.2.2.1, D.2.2.2.2.2⟩
end Go.Proofs.Ythggjlfiliggjaa.Own
