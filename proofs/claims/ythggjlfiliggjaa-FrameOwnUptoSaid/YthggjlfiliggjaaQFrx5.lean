-- written by a program of this session (myprint) out of the translation
import Derived.Test.YthggjlfiliggjaaQFrx0
import Derived.Test.YthggjlfiliggjaaQFrx1
import Derived.Test.YthggjlfiliggjaaQFrx2
import Derived.Test.YthggjlfiliggjaaQFrx4
namespace Go.Proofs.Ythggjlfiliggjaa.QFr
open Go.RowKit Go.Proofs.YthggjlfiliggjaaW.PrintWords Go.Proofs.YthggjlfiliggjaaW.PrintLast Go.Proofs.YthggjlfiliggjaaW.PrintMore
attribute [local go_sem] max2_int min2_int max_two min_two max_three min_three max_four min_four   -- for this text's walks alone
open Go.Proofs.YthggjlfiliggjaaX
attribute [local go_sem] unary_xor_u32 unary_xor_u64 max_u32
set_option linter.unusedVariables false
set_option linter.unusedSimpArgs false

-- rounds
set_option maxRecDepth 100000 in
theorem frame_get.still (k : Nat) (A0 : Option Addr) (c0 : Nat) (l0 : List Int) (a1 : Int) (r : Int) (w : World) (hr0 : Kd.C (Kd.int .u8) w A0 l0.length l0) (hc0 : l0.length ≤ c0) (h : frame_get.f k l0 a1 = some r) :
    Calls Try.prog 39 #[.slice A0 l0.length c0, .int .i64 a1] w fun e w' => e = .returned (.int .u64 r) ∧ Same0 w w' := by
  have HR0 := Aside0.mk hr0
  have HC0 := Aside0.mk hc0
  clear hr0 hc0
  have H : (frame_get.l0 k l0 0 a1 0) = some r := h
  clear h
  have H' := Aside0.mk H
  clear H
  go_enter Try.func39, Try.ntmps39
  go_wp2
  go_loopg [5, 8] k (fun kq v5 v8 w' => ∃ (x5_1 : Int) (x8_1 : Int), v5 = .int .u64 x5_1 ∧ v8 = .int .i64 x8_1 ∧ Aside0 (frame_get.l0 kq l0 x5_1 a1 x8_1 = some r) ∧ Aside0 (kq ≤ k) ∧ Same0 w w')
  case atStart => exact ⟨(0), (0), (by first | rfl | (simp; done) | (simp [*]; done)), (by first | rfl | (simp; done) | (simp [*]; done)), H', ⟨Nat.le_refl _⟩, ⟨rfl⟩⟩
  case round =>
    clear H'
    try clear p2
    obtain ⟨x5_1, x8_1, rfl, rfl, HA, HK1, ⟨rfl⟩⟩ := hrel
    cases gk with
    | zero => exact absurd HA.out (by simp [frame_get.l0])
    | succ k1 =>
      have H := HA.out
      clear HA
      simp only [frame_get.l0] at H
      by_cases c3 : x8_1 < a1
      · rw [if_pos c3] at H
        have c3b0 : decide (x8_1 < a1) = true := decide_eq_true c3
        clear c3
        by_cases c4 : 0 ≤ x8_1
        · rw [if_pos c4] at H
          have c4b0 : decide (0 ≤ x8_1) = true := decide_eq_true c4
          clear c4
          by_cases c5 : x8_1 < (l0.length : Int)
          · rw [if_pos c5] at H
            have c5b0 : decide (x8_1 < (l0.length : Int)) = true := decide_eq_true c5
            clear c5
            obtain ⟨ji6, hji6⟩ : ∃ j_ : Int, (wrap64 (8 * x8_1)) = j_ := ⟨_, rfl⟩
            replace H : (if 0 ≤ (ji6) then (frame_get.l0 k1 l0 (Go.bits .or .u64 x5_1 (shl .u64 (IntKind.u64.wrap (rd l0 x8_1)) (ji6))) a1 (wrap64 (x8_1 + 1))) else (none)) = some r := by first | (rw [hji6] at H; exact H) | (simp only [hji6] at H ⊢; exact H)
            have hji6w : (IntKind.i64.wrap (8 * x8_1)) = ji6 := (i64_w _).trans hji6
            by_cases c7 : 0 ≤ (ji6)
            · rw [if_pos c7] at H
              have c7b0 := eq_true c7
              have c7b1 : decide (0 ≤ (ji6)) = true := decide_eq_true c7
              clear c7
              obtain ⟨ji8, hji8⟩ : ∃ j_ : Int, (shl .u64 (IntKind.u64.wrap (rd l0 x8_1)) (ji6)) = j_ := ⟨_, rfl⟩
              replace H : (frame_get.l0 k1 l0 (Go.bits .or .u64 x5_1 (ji8)) a1 (wrap64 (x8_1 + 1))) = some r := by first | (rw [hji8] at H; exact H) | (simp only [hji8] at H ⊢; exact H)
              have hji8_ : (IntKind.u64.wrap ((IntKind.u64.wrap (rd l0 x8_1)) * 2 ^ min (ji6).toNat 64)) = ji8 := hji8
              have hji8z : (ji6) ≤ 64 → (IntKind.u64.wrap ((IntKind.u64.wrap (rd l0 x8_1)) * 2 ^ (ji6).toNat)) = ji8 := shl_small hji8
              have H' := Aside0.mk H
              clear H
              have p161 : 0 ≤ (x8_1 : Int) := of_decide_eq_true (by first | (with_reducible assumption) | assumption)
              have q161 : x8_1 < (l0.length : Int) := of_decide_eq_true (by first | (with_reducible assumption) | assumption)
              obtain ⟨ad161, e161, hx161_0⟩ := Kd.at_int HR0.out x8_1 p161 q161
              cases e161
              replace p161 := eq_true p161
              replace q161 := eq_true q161
              go_wp2
              go_roundg k1
              case measure => have := HK1.out; omega
              case rel => exact ⟨(Go.bits .or .u64 x5_1 (ji8)), (wrap64 (x8_1 + 1)), (by first | rfl | (simp; done) | (simp only [← hji8] <;> (first | rfl | simp)) | (simp [*]; done)), (by first | rfl | (simp; done) | (simp [*]; done)), H', ⟨by have := HK1.out; omega⟩, ⟨rfl⟩⟩
            · rw [if_neg c7] at H
              exact absurd H (by simp)
          · rw [if_neg c5] at H
            exact absurd H (by simp)
        · rw [if_neg c4] at H
          exact absurd H (by simp)
      · rw [if_neg c3] at H
        have c3b0 : decide (x8_1 < a1) = false := decide_eq_false c3
        clear c3
        obtain rfl := Option.some.inj H
        go_wp2
        go_ret
        exact ⟨by first | rfl | (simp; done) | (simp [*]; done), ⟨rfl⟩⟩

/-! ### frame_Open: function 23 (by hand) -/
def frame_Open.f (k : Nat) (l0 : List Int) : Option (Int × Int × List Int × Int) :=
  if (l0.length : Int) < 15 then some (0, 0, [], 20) else (if (l0.length : Int) > 8192 then some (0, 0, [], 20) else
    ((frame_Sum.f k (l0.take (l0.length - 4))).bind fun s =>
      ((frame_get.f k (l0.drop (l0.length - 4)) 4).bind fun g => (if IntKind.u64.wrap s = g then
        ((frame_get.f k (l0.drop 1) 2).bind fun n => (if wrap64 n > (l0.length : Int) - 15 then some (0, 0, [], 20) else
          (if 0 ≤ wrap64 n then
            (if ((l0.take (l0.length - 4)).drop (11 + (wrap64 n).toNat)).all (fun x => x == 0) = true then
              ((frame_get.f k (l0.drop 3) 8).bind fun gen => some (rd l0 0, gen, (l0.drop 11).take (wrap64 n).toNat, 0))
            else some (0, 0, [], 20)) else none))) else some (0, 0, [], 20)))))
set_option maxHeartbeats 8000000 in
set_option maxRecDepth 100000 in
theorem frame_Open.size (A0 : Option Addr) (c0 : Nat) (l0 : List Int) (w : World) (h : (l0.length : Int) < 15 ∨ 8192 < (l0.length : Int)) :
    Calls Try.prog 23 #[.slice A0 l0.length c0] w fun e w' => e = .returned (.tuple #[.agg #[.int .u8 0, .int .u64 0, .slice none 0 0], .int .i64 20]) ∧ Below w.heap.size w w' := by
  have hu35 := Try.underlying35
  obtain ⟨n, hn⟩ : ∃ n, n = l0.length := ⟨_, rfl⟩
  rw [← hn] at h ⊢
  clear hn
  by_cases h1 : (n : Int) < 15
  · have t1 : decide ((n : Int) < 15) = true := decide_eq_true h1
    have t1b : decide (n < 15) = true := decide_eq_true (by omega)
    clear h h1
    go_enter Try.func23, Try.ntmps23
    go_wp2
    exact bodyPost_ret (v := .tuple #[.agg #[.int .u8 0, .int .u64 0, .slice none 0 0], .int .i64 20]) (by simp [results, Try.results23, go_sem]) rfl ⟨rfl, by repeat (first | exact Below.refl _ _ | apply below_alloc)⟩
  · have t1 : decide ((n : Int) < 15) = false := decide_eq_false h1
    have t2 : decide ((8192 : Int) < (n : Int)) = true := decide_eq_true (by omega)
    have t2b : decide (8192 < n) = true := decide_eq_true (by omega)
    clear h h1
    go_enter Try.func23, Try.ntmps23
    go_wp2
    exact bodyPost_ret (v := .tuple #[.agg #[.int .u8 0, .int .u64 0, .slice none 0 0], .int .i64 20]) (by simp [results, Try.results23, go_sem]) rfl ⟨rfl, by repeat (first | exact Below.refl _ _ | apply below_alloc)⟩
theorem grown_set (W : World) (b i : Nat) (v : Value) : W.grownBy (W.setCell ⟨b, i, none⟩ v) (some b) :=
  ⟨rfl, rfl, rfl, by simp [World.setCell], fun k _ hk => Below.heap_setCell _ _ _ k (fun e => hk (by rw [e]))⟩
theorem all_of {z : List Int} (h : ∀ i, i < z.length → rd z (i : Int) = 0) : z.all (fun x => x == 0) = true := by
  rw [List.all_eq_true]
  intro x hx
  obtain ⟨i, hi, rfl⟩ := List.getElem_of_mem hx
  have := h i hi
  simp [rd, List.getD_eq_getElem?_getD, List.getElem?_eq_getElem hi] at this
  simp [this]
theorem not_all {z : List Int} {j : Nat} (hj : j < z.length) (h : ¬ rd z (j : Int) = 0) : ¬ z.all (fun x => x == 0) = true := by
  intro ha
  have := List.all_eq_true.1 ha z[j] (List.getElem_mem hj)
  apply h
  simp [rd, List.getD_eq_getElem?_getD, List.getElem?_eq_getElem hj]
  simpa using this
theorem row_own {w : World} {base : Nat} {ok : Nat → Prop} {v : Value} {xs : List Int} {b : Nat} (h : Kd.R (Kd.int .u8) 5 w base ok v xs) (hv : v.ownBlock = some b) : ∃ cap, v = .slice (some ⟨b, 0, none⟩) xs.length cap := by
  obtain ⟨h0, inner, ho, hr⟩ := h
  rcases ho.2 with ⟨rfl, _⟩ | ⟨g', cap', cur, rfl, _⟩
  · simp [Value.ownBlock] at hv
  · have : g' = b := by simpa [Value.ownBlock] using hv
    subst this
    exact ⟨cap', rfl⟩
structure OpenSt (w : World) (gr : Nat) (A0 : Option Addr) (l0 : List Int) (W : World) : Prop where mk ::
  rd_ : Kd.C (Kd.int .u8) W A0 l0.length l0
  blk : W.heap[gr]? = some (.cells #[.int .u8 0, .int .u64 0, .slice none 0 0] 35 (0, 0))
  bel : Below w.heap.size w W
  le : w.heap.size ≤ gr
theorem OpenSt.drewN {w : World} {gr : Nat} {A0 : Option Addr} {l0 : List Int} {W : World} (h : OpenSt w gr A0 l0 W) (n : Nat) : OpenSt w gr A0 l0 (W.drewN n) :=
  ⟨Kd.C_drewN h.rd_ n, blk_drewN h.blk n, pw_below_drewN h.bel n, h.le⟩
theorem OpenSt.put {w : World} {gr : Nat} {A0 : Option Addr} {l0 : List Int} {W : World} (h : OpenSt w gr A0 l0 W) (v0 v1 v2 : Value) :
    (((W.setCell ⟨gr, 0, none⟩ v0).setCell ⟨gr, 1, none⟩ v1).setCell ⟨gr, 2, none⟩ v2).heap[gr]? = some (.cells #[v0, v1, v2] 35 (0, 0)) ∧ Below w.heap.size w (((W.setCell ⟨gr, 0, none⟩ v0).setCell ⟨gr, 1, none⟩ v1).setCell ⟨gr, 2, none⟩ v2) ∧ W.grownBy (((W.setCell ⟨gr, 0, none⟩ v0).setCell ⟨gr, 1, none⟩ v1).setCell ⟨gr, 2, none⟩ v2) (some gr) :=
  ⟨blk_put (blk_put (blk_put h.blk 0 v0 rfl) 1 v1 rfl) 2 v2 rfl, below_set (below_set (below_set h.bel h.le) h.le) h.le,
    World.grownBy.trans (World.grownBy.trans (grown_set _ _ _ _) (grown_set _ _ _ _)) (grown_set _ _ _ _)⟩
theorem OpenSt.sum {w : World} {gr : Nat} {A0 : Option Addr} {l0 : List Int} {W : World} (h : OpenSt w gr A0 l0 W) (k c0 n : Nat) (s : Int) (hn : n ≤ l0.length) (hc : l0.length ≤ c0) (hs : frame_Sum.f k (l0.take n) = some s) :
    Calls Try.prog 17 #[.slice A0 n c0] W fun e w'' => e = .returned (.int .u32 s) ∧ w'' = W := by
  have h3 : (l0.take n).length = n := by rw [List.length_take]; omega
  have hc1 : Kd.C (Kd.int .u8) W A0 (l0.take n).length (l0.take n) := by
    rw [h3]
    exact Kd.C_of_reads ((Kd.reads_of_C (d := (0 : Int)) h.rd_).take_ n hn)
  have h4 := frame_Sum.still k A0 c0 (l0.take n) s W hc1 (by omega) hs
  rw [h3] at h4
  exact h4.mono (fun e w' hh => ⟨hh.1, hh.2.out.symm⟩)
/-- 'b[i:]', its address a letter. -/
theorem drop_cut (A0 : Option Addr) (c0 : Nat) (l0 : List Int) (i : Nat) (j : Int) (hj : j = (i : Int)) (hi : i ≤ l0.length) (hc : l0.length ≤ c0) :
    ∃ A1 : Option Addr, (∀ W : World, (Instr.slice 23 (.slice A0 l0.length c0) (some (.int .i64 j)) none none).run Try.prog W = .ok (.slice A1 (l0.length - i) (c0 - i)) W) ∧
      (∀ W : World, Kd.C (Kd.int .u8) W A0 l0.length l0 → Kd.C (Kd.int .u8) W A1 (l0.length - i) (l0.drop i)) := by
  obtain ⟨i0, hi0, hzz⟩ := Option.map_eq_some_iff.1 info5
  simp only [Prod.mk.injEq] at hzz
  obtain ⟨_, hsz, _⟩ := hzz
  obtain ⟨A1, h1, h2, h3⟩ := print_drop_of (P := Try.prog) (Value.int .u8) (0 : Int) 23 5 .i64 Try.underlying23 hi0 hsz A0 c0 l0 j (by omega) (by omega) hc
  have e : j.toNat = i := by omega
  rw [e, List.length_drop] at h1 h2
  exact ⟨A1, h1, fun W hW => Kd.C_of_reads (h2 W (Kd.reads_of_C hW))⟩
theorem OpenSt.get {w : World} {gr : Nat} {A0 A1 : Option Addr} {l0 : List Int} {W : World} (h : OpenSt w gr A0 l0 W) (k c0 i : Nat) (m g : Int) (hi : i ≤ l0.length) (hc : l0.length ≤ c0)
    (hA : ∀ W : World, Kd.C (Kd.int .u8) W A0 l0.length l0 → Kd.C (Kd.int .u8) W A1 (l0.length - i) (l0.drop i)) (hg : frame_get.f k (l0.drop i) m = some g) :
    Calls Try.prog 39 #[.slice A1 (l0.length - i) (c0 - i), .int .i64 m] W fun e w'' => e = .returned (.int .u64 g) ∧ w'' = W := by
  have hl : (l0.drop i).length = l0.length - i := List.length_drop
  have h4 := frame_get.still k A1 (c0 - i) (l0.drop i) m g W (by rw [hl]; exact hA W h.rd_) (by omega) hg
  rw [hl] at h4
  exact h4.mono (fun e w' hh => ⟨hh.1, hh.2.out.symm⟩)
theorem OpenSt.src {w : World} {gr : Nat} {A0 A1 : Option Addr} {l0 : List Int} {W : World} (h : OpenSt w gr A0 l0 W) (i m : Nat) (ys : List Int) (hm : i + m ≤ l0.length) (hys : ys = (l0.drop i).take m)
    (hA : ∀ W : World, Kd.C (Kd.int .u8) W A0 l0.length l0 → Kd.C (Kd.int .u8) W A1 (l0.length - i) (l0.drop i)) (hp : 0 < (nums .u8 ys).length) :
    ∃ ad, A1 = some ad ∧ ∀ j v, (nums .u8 ys)[j]? = some v → W.cell? (ad.add j) = some v := by
  have hyl : ys.length = m := by rw [hys, List.length_take, List.length_drop]; omega
  have hC := hA _ h.rd_
  have key : ∀ jj v, (nums .u8 ys)[jj]? = some v → ∃ ad, A1 = some ad ∧ W.cell? (ad.add jj) = some v := by
    intro jj v hjj
    have hjl : jj < m := by
      have := (List.getElem?_eq_some_iff.1 hjj).1
      rwa [nums_len, hyl] at this
    obtain ⟨ad, e, hc⟩ := Kd.at_int hC (jj : Int) (Int.natCast_nonneg _) (by omega)
    refine ⟨ad, e, ?_⟩
    rw [Int.toNat_natCast] at hc
    rw [hc]
    have hjd : jj < (l0.drop i).length := by rw [List.length_drop]; omega
    have hys2 : ys[jj]? = some (l0.drop i)[jj] := by rw [hys, List.getElem?_take, if_pos hjl, List.getElem?_eq_getElem hjd]
    simp only [nums, List.getElem?_map, hys2, Option.map_some, Option.some.injEq] at hjj
    rw [← hjj, rd, Int.toNat_natCast, List.getD_eq_getElem?_getD, List.getElem?_eq_getElem hjd]
    rfl
  obtain ⟨ad, e, _⟩ := key 0 _ (List.getElem?_eq_getElem hp)
  refine ⟨ad, e, fun jj v hjj => ?_⟩
  obtain ⟨ad', e', hc⟩ := key jj v hjj
  rw [e] at e'
  injection e' with e'
  subst e'
  exact hc
theorem OpenSt.copied {w : World} {gr : Nat} {A0 : Option Addr} {l0 : List Int} {W W' : World} (h : OpenSt w gr A0 l0 W) (hr0 : Kd.C (Kd.int .u8) w A0 l0.length l0) {gb m cap : Nat} {cur : List Value} {ys : List Int} (hyl : ys.length = m)
    (hgb : w.heap.size ≤ gb) (hmc : m ≤ cap) (hcm : cap ≤ maxLen) (hcl : cur.length = cap) (hct : cur.take m = nums .u8 (List.replicate m 0)) (hw : W'.heap[gb]? = some (.cells (splice cur 0 (nums .u8 ys)).toArray 5 (0, 0))) (hb : Below (gr + 1) W W') :
    OpenSt w gr A0 l0 W' ∧ Kd.R (Kd.int .u8) 5 W' w.heap.size (fun _ => True) (.slice (some ⟨gb, 0, none⟩) m cap) ys := by
  have hbel : Below w.heap.size w W' := h.bel.trans (hb.mono (by have := h.le; omega))
  have hsp : splice (List.replicate m (0 : Int)) 0 ys = ys := by
    unfold splice
    rw [List.take_zero, List.nil_append, Nat.zero_add, hyl, List.drop_of_length_le (by simp), List.append_nil]
  refine ⟨⟨Kd.C_below hr0 hbel, (hb.block gr (by omega)).trans h.blk, hbel, h.le⟩, ?_⟩
  have := row_of_cells (xs := splice (List.replicate m (0 : Int)) 0 ys) hw hgb hmc hcm (by rw [length_splice _ _ _ (by rw [nums_len, hyl]; omega)]; exact hcl) (by rw [hsp]; exact hyl) (splice_nums cap m 0 cur _ ys hct (by simp) hcl hmc (by rw [hyl]; omega))
  rwa [hsp] at this
theorem quiet_same {P : Program} {f : FuncId} {args : Array Value} {w : World} {n : Nat} {v : Value}
    (h : Calls P f args (w.drewN n) fun e w' => e = .returned v ∧ w' = w.drewN n) : Calls P f args (w.drewN n) fun e w'' => e = .returned v ∧ ∃ m, w'' = w.drewN m := Calls.quiet_of_same h
theorem quiet_drawn {P : Program} {f : FuncId} {args : Array Value} {w : World} {n : Nat} {v : Value}
    (h : Calls P f args (w.drewN n) fun e w' => e = .returned v ∧ Drawn0 (w.drewN n) w') : Calls P f args (w.drewN n) fun e w'' => e = .returned v ∧ ∃ m, w'' = w.drewN m :=
  Calls.quiet_of (h.mono fun _ _ hh => ⟨hh.1, hh.2.out⟩)
set_option maxHeartbeats 8000000 in
set_option maxRecDepth 100000 in
theorem frame_Open.rest (k : Nat) (A0 : Option Addr) (c0 : Nat) (l0 : List Int) (w : World) (s g : Int) (hr0 : Kd.C (Kd.int .u8) w A0 l0.length l0) (hc0 : l0.length ≤ c0) (h15 : 15 ≤ l0.length) (h8 : l0.length ≤ 8192)
    (hs : frame_Sum.f k (l0.take (l0.length - 4)) = some s) (hg : frame_get.f k (l0.drop (l0.length - 4)) 4 = some g) (r1 r2 : Int) (r3 : List Int) (r4 : Int)
    (h : (if IntKind.u64.wrap s = g then
        ((frame_get.f k (l0.drop 1) 2).bind fun n => (if wrap64 n > (l0.length : Int) - 15 then some (0, 0, [], 20) else
          (if 0 ≤ wrap64 n then
            (if ((l0.take (l0.length - 4)).drop (11 + (wrap64 n).toNat)).all (fun x => x == 0) = true then
              ((frame_get.f k (l0.drop 3) 8).bind fun gen => some (rd l0 0, gen, (l0.drop 11).take (wrap64 n).toNat, 0))
            else some (0, 0, [], 20)) else none))) else some (0, 0, [], 20)) = some (r1, r2, r3, r4)) :
    Calls Try.prog 23 #[.slice A0 l0.length c0] w fun e w' => ∃ v2_ : Value, e = .returned (.tuple #[.agg #[.int .u8 r1, .int .u64 r2, v2_], .int .i64 r4]) ∧ Kd.R (Kd.int .u8) 5 w' w.heap.size (fun _ => True) v2_ r3 ∧ Below w.heap.size w w' := by
  have hu35 := Try.underlying35
  have HB := Aside0.mk (Below.refl w.heap.size w)
  have HR := Aside0.mk hr0
  have HC := Aside0.mk hc0
  have HS := Aside0.mk hs
  have HGG := Aside0.mk hg
  have HH := Aside0.mk h
  obtain ⟨A4, run4, cut4⟩ := drop_cut A0 c0 l0 (l0.length - 4) ((l0.length : Int) - 4) (by omega) (by omega) hc0
  obtain ⟨n, hn⟩ : ∃ n, n = l0.length := ⟨_, rfl⟩
  have t1 : decide ((n : Int) < 15) = false := decide_eq_false (by omega)
  have t1b : decide (n < 15) = false := decide_eq_false (by omega)
  have t2 : decide ((8192 : Int) < (n : Int)) = false := decide_eq_false (by omega)
  have t2b : decide (8192 < n) = false := decide_eq_false (by omega)
  have H15 := Aside0.mk h15
  have H8 := Aside0.mk h8
  have CUT4 := Aside0.mk cut4
  have runT : ∀ W : World, (Instr.slice 23 (.slice A0 n c0) none (some (.int .i64 ((n : Int) - 4))) none).run Try.prog W = .ok (.slice A0 (n - 4) c0) W := by
    intro W
    obtain ⟨i0, hi0, hzz⟩ := Option.map_eq_some_iff.1 info5
    simp only [Prod.mk.injEq] at hzz
    obtain ⟨_, hsz, _⟩ := hzz
    have hp := (print_take_of (P := Try.prog) (Value.int .u8) (0 : Int) 23 5 .i64 Try.underlying23 hi0 hsz A0 c0 l0 ((n : Int) - 4) (by omega) (by omega) hc0).1 W
    have e : (l0.take ((n : Int) - 4).toNat).length = n - 4 := by rw [List.length_take]; omega
    rw [e, ← hn] at hp
    exact hp
  rw [← hn] at run4
  have HN := Aside0.mk hn
  clear hr0 hc0 h15 h8 hs hg h cut4
  rw [← hn]
  have b0 : 15 ≤ n := by have := H15.out; omega
  have b1 : n ≤ 8192 := by have := H8.out; omega
  clear hn
  go_enter Try.func23, Try.ntmps23
  go_wp2_with ((with_reducible refine gate_dst (N := 2) rfl ?_); refine box_event ?hg (N := 2) ?hd (cs := #[.int .u8 0, .int .u64 0, .slice none 0 0]) (t := 35) ?hr ?_; (case hd => rfl); (case hg => rfl); (case hr => first | (go_simp; done) | (go_simp; rfl)); intro gr hg w7 hbox hb; have ST : OpenSt w gr A0 l0 w7 := ⟨Kd.C_below HR.out hb, hbox, hb, by rw [hg]; exact Nat.le_refl _⟩; clear hb hbox hg HB)
  have hl0 : l0.length = n := HN.out.symm
  have c1 : n - 4 ≤ l0.length := by rw [hl0]; omega
  have S4 := fun W (S : OpenSt w gr A0 l0 W) => S.sum k c0 (n - 4) s c1 HC.out (by have := HS.out; rwa [hl0] at this)
  have G4 := fun W (S : OpenSt w gr A0 l0 W) => S.get (A1 := A4) k c0 (n - 4) 4 g c1 HC.out (by rw [← hl0]; exact CUT4.out) (by rw [← hl0]; exact HGG.out)
  rw [hl0] at G4
  have S4' := Aside0.mk S4
  have G4' := Aside0.mk G4
  have L0 := Aside0.mk hl0
  clear S4 G4 hl0 c1
  have HH2 := HH.out
  clear HH
  by_cases hsg : IntKind.u64.wrap s = g
  · rw [if_pos hsg] at HH2
    have tsg : (IntKind.u64.wrap s != g) = false := by simpa using hsg
    clear hsg
    obtain ⟨n1, e1, HH3⟩ := Option.bind_eq_some_iff.1 HH2
    clear HH2
    have hl0 : l0.length = n := L0.out
    obtain ⟨A1, run1, cut1⟩ := drop_cut A0 c0 l0 1 1 rfl (by omega) HC.out
    rw [hl0] at run1
    have CUT1 := Aside0.mk cut1
    have G1 := fun W (S : OpenSt w gr A0 l0 W) => S.get (A1 := A1) k c0 1 2 n1 (by rw [hl0]; omega) HC.out CUT1.out e1
    rw [hl0] at G1 HH3
    have G1' := Aside0.mk G1
    clear cut1 G1 hl0 e1
    go_quiet (first | (go_at_call 17; exact quiet_same (S4'.out _ (ST.drewN _))) | (go_at_call 39; exact quiet_same (G4'.out _ (ST.drewN _))))
    have ST2 := ST.drewN nq
    clear ST
    generalize w7.drewN nq = w8 at *
    obtain ⟨n2, hn2⟩ : ∃ j_ : Int, wrap64 n1 = j_ := ⟨_, rfl⟩
    have hn2w : (IntKind.i64.wrap n1) = n2 := (i64_w _).trans hn2
    rw [hn2] at HH3
    have A5 : Aside0 (frame_Room.f (n : Int) = some ((n : Int) - 15)) := ⟨by
      unfold frame_Room.f
      rw [if_neg (by omega), if_neg (by omega)]
      congr 1
      unfold wrap64
      omega⟩
    by_cases hbig : n2 > (n : Int) - 15
    · rw [if_pos hbig] at HH3
      simp only [Option.some.injEq, Prod.mk.injEq] at HH3
      obtain ⟨rfl, rfl, rfl, rfl⟩ := HH3
      have tbig : decide ((n : Int) - 15 < n2) = true := decide_eq_true hbig
      clear hbig
      go_wp2_with (first | (go_at_call 39; go_must (refine (G1'.out _ ST2).mono ?_; rintro e w9 ⟨rfl, rfl⟩)) | (go_at_call 26; (with_reducible refine (frame_Room.calls (n : Int) ((n : Int) - 15) _ A5.out).mono ?_); rintro e w' ⟨rfl, ⟨nd, rfl⟩⟩; have ST3 := ST2.drewN nd; clear ST2; generalize w9.drewN nd = w10 at *; have hc0 : w10.cell? ⟨gr, 0, none⟩ = some (.int .u8 0) := (blk_cell ST3.blk 0).trans rfl; have hc1 : w10.cell? ⟨gr, 1, none⟩ = some (.int .u64 0) := (blk_cell ST3.blk 1).trans rfl; have hc2 : w10.cell? ⟨gr, 2, none⟩ = some (.slice none 0 0) := (blk_cell ST3.blk 2).trans rfl; have hf0 := blk_frozen ST3.blk 0; have hf1 := blk_frozen ST3.blk 1; have hf2 := blk_frozen ST3.blk 2) | ((with_reducible refine gate_store (t := 35) (p := 2) rfl ?_); go_must (refine store_event (t := 35) (p := 2) (v := ?vo_w12) (w1 := (((w10.setCell ⟨gr, 0, none⟩ (.int .u8 0)).setCell ⟨gr, 1, none⟩ (.int .u64 0)).setCell ⟨gr, 2, none⟩ (.slice none 0 0))) ?hg ?ho ?hn ?hr ?_); (case ho => rfl); (case hg => rfl); (case hn => rfl); (case hr => first | (go_simp; done) | (go_simp; rfl)); intro w11 hw; have HP := Aside0.mk (ST3.put (.int .u8 0) (.int .u64 0) (.slice none 0 0)); rw [← hw] at HP; clear hw hc0 hc1 hc2 hf0 hf1 hf2 ST3))
      exact bodyPost_ret (results_ct rfl _ _ gr 35 #[.int .u8 0, .int .u64 0, .slice none 0 0] (0, 0) _ rfl HP.out.1 Try.underlying35 rfl (by kernel_rfl)) rfl ⟨_, rfl, Kd.R_nil _ _ _ _ _, HP.out.2.1⟩
    rw [if_neg hbig] at HH3
    by_cases hneg : 0 ≤ n2
    case neg => rw [if_neg hneg] at HH3; cases HH3
    rw [if_pos hneg] at HH3
    have tbig : decide ((n : Int) - 15 < n2) = false := decide_eq_false hbig
    obtain ⟨m, rfl⟩ := Int.eq_ofNat_of_zero_le hneg
    have hm15 : m ≤ n - 15 := by omega
    rw [Int.toNat_natCast] at HH3
    have HM := Aside0.mk hm15
    have hmb : m ≤ 8192 := by omega
    have HH4 := Aside0.mk HH3
    obtain ⟨i05, hi05, hzz5⟩ := Option.map_eq_some_iff.1 info5
    simp only [Prod.mk.injEq] at hzz5
    have hl0 : l0.length = n := L0.out
    obtain ⟨AM, runM, cutM, capM⟩ := print_mid_int (P := Try.prog) (k := .u8) 23 5 Try.underlying23 hi05 hzz5.2.1 A0 c0 l0 ((11 : Int) + (m : Int)) ((n : Int) - 4) (by omega) (by omega) (by omega) HC.out
    have e4 : ((n : Int) - 4).toNat = n - 4 := by omega
    have e5 : ((11 : Int) + (m : Int)).toNat = 11 + m := by omega
    rw [e4, e5, hl0] at runM
    rw [e4, e5] at cutM
    obtain ⟨z, hz⟩ : ∃ z, z = (l0.take (n - 4)).drop (11 + m) := ⟨_, rfl⟩
    rw [← hz] at runM cutM HH4
    have hzl : z.length = n - 4 - (11 + m) := by rw [hz, List.length_drop, List.length_take]; omega
    have CUTM := Aside0.mk cutM
    have HZ := Aside0.mk hz
    have HZL := Aside0.mk hzl
    clear HH3 hbig hneg hi05 hzz5 hl0 cutM capM e4 e5 hz hzl hm15
    go_wp2_with (first | (go_at_call 39; go_must (refine (G1'.out _ ST2).mono ?_; rintro e w9 ⟨rfl, rfl⟩)) | (go_at_call 26; (with_reducible refine (frame_Room.calls (n : Int) ((n : Int) - 15) _ A5.out).mono ?_); rintro e w' ⟨rfl, ⟨nd, rfl⟩⟩; have ST3 := ST2.drewN nd; clear ST2; generalize w9.drewN nd = w10 at *))
    have ST4 := ST3
    clear ST3
    go_loopg [48] (z.length + 1) (fun kq v48 w' => ∃ (j : Nat), v48 = .int .i64 (j : Int) ∧ Aside0 (j ≤ z.length) ∧ Aside0 (j + kq = z.length + 1) ∧ Aside0 (∀ i, i < j → rd z (i : Int) = 0) ∧ Aside0 (w' = w10))
    case atStart => exact ⟨0, rfl, ⟨Nat.zero_le _⟩, ⟨by omega⟩, ⟨fun i hi => by omega⟩, ⟨rfl⟩⟩
    case round =>
      obtain ⟨j, rfl, HJ, HK, HA, HW⟩ := hrel
      obtain rfl := HW.out
      clear HW
      by_cases hj : j < z.length
      · have tj : decide ((j : Int) < (z.length : Int)) = true := decide_eq_true (by omega)
        have tjb : decide (j < z.length) = true := decide_eq_true hj
        have HJ2 := Aside0.mk hj
        have jb : j ≤ 8192 := by have := HZL.out; omega
        have hzC : Kd.C (Kd.int .u8) wr AM z.length z := Kd.C_of_reads (CUTM.out _ (Kd.reads_of_C (ST4.rd_)))
        obtain ⟨adz, ez, hcz⟩ := Kd.at_int hzC (j : Int) (Int.natCast_nonneg _) (by omega)
        subst ez
        rw [Int.toNat_natCast] at hcz
        clear hzC
        by_cases hz0 : rd z (j : Int) = 0
        · have tz : (rd z (j : Int) != 0) = false := by simpa using hz0
          have HZ0 := Aside0.mk hz0
          clear hz0
          obtain ⟨zz, hzz⟩ : ∃ zz, zz = rd z (j : Int) := ⟨_, rfl⟩
          rw [← hzz] at hcz tz
          clear hzz
          go_wp2
          go_roundg (z.length - j)
          case measure => have := HK.out; have := HJ2.out; omega
          case rel => exact ⟨j + 1, by go_num, ⟨by have := HJ2.out; omega⟩, ⟨by have := HJ2.out; omega⟩, ⟨fun i hi => by
            by_cases hij : i = j
            · subst hij; exact HZ0.out
            · exact HA.out i (by omega)⟩, ⟨rfl⟩⟩
        · have HH5 := HH4.out
          rw [if_neg (not_all hj hz0)] at HH5
          simp only [Option.some.injEq, Prod.mk.injEq] at HH5
          obtain ⟨rfl, rfl, rfl, rfl⟩ := HH5
          have tz : (rd z (j : Int) != 0) = true := by simpa using hz0
          clear hz0
          obtain ⟨zz, hzz⟩ : ∃ zz, zz = rd z (j : Int) := ⟨_, rfl⟩
          rw [← hzz] at hcz tz
          clear hzz
          have hc0 : wr.cell? ⟨gr, 0, none⟩ = some (.int .u8 0) := (blk_cell ST4.blk 0).trans rfl
          have hc1 : wr.cell? ⟨gr, 1, none⟩ = some (.int .u64 0) := (blk_cell ST4.blk 1).trans rfl
          have hc2 : wr.cell? ⟨gr, 2, none⟩ = some (.slice none 0 0) := (blk_cell ST4.blk 2).trans rfl
          have hf0 := blk_frozen ST4.blk 0
          have hf1 := blk_frozen ST4.blk 1
          have hf2 := blk_frozen ST4.blk 2
          go_wp2
          have HP := ST4.put (.int .u8 0) (.int .u64 0) (.slice none 0 0)
          exact bodyPost_ret (results_ct rfl _ _ gr 35 #[.int .u8 0, .int .u64 0, .slice none 0 0] (0, 0) _ rfl HP.1 Try.underlying35 rfl (by kernel_rfl)) rfl ⟨_, rfl, Kd.R_nil _ _ _ _ _, HP.2.1⟩
      · have HH5 := HH4.out
        rw [if_pos (all_of (fun i hi => HA.out i (by have := HJ.out; omega)))] at HH5
        obtain ⟨gen, e8, HH6⟩ := Option.bind_eq_some_iff.1 HH5
        simp only [Option.some.injEq, Prod.mk.injEq] at HH6
        obtain ⟨rfl, rfl, rfl, rfl⟩ := HH6
        have tj : decide ((j : Int) < (z.length : Int)) = false := decide_eq_false (by omega)
        have tjb : decide (j < z.length) = false := decide_eq_false hj
        have hl0 : l0.length = n := L0.out
        obtain ⟨A3, run3, cut3⟩ := drop_cut A0 c0 l0 3 3 rfl (by omega) HC.out
        obtain ⟨A11, run11, cut11⟩ := drop_cut A0 c0 l0 11 11 rfl (by omega) HC.out
        rw [hl0] at run3 run11
        have CUT11 := Aside0.mk cut11
        have G3 := fun W (S : OpenSt w gr A0 l0 W) => S.get (A1 := A3) k c0 3 8 gen (by rw [hl0]; omega) HC.out cut3 e8
        rw [hl0] at G3
        have G3' := Aside0.mk G3
        have L2 := Aside0.mk hl0
        clear HH5 HH4 HA HJ HK hj cut3 cut11 G3 hl0 e8
        have hm0 : (0 : Int) ≤ (m : Int) := Int.natCast_nonneg _
        have hml : ((m : Int)).toNat * 1 ≤ 281474976710656 := by have := HM.out; omega
        have HBE := Aside0.mk ST4.bel
        obtain ⟨ys, hys⟩ : ∃ ys, ys = (l0.drop 11).take m := ⟨_, rfl⟩
        have hyl : ys.length = m := by rw [hys, List.length_take, List.length_drop, L2.out]; have := HM.out; omega
        have HYS := Aside0.mk hys
        have HYL := Aside0.mk hyl
        clear hys hyl
        go_wp2_with (first | ((with_reducible refine gate_dst (N := 57) rfl ?_); go_must (refine Kd.R_make (Kd.int .u8) w.heap.size 5 ?hg (N := 57) ?hd 23 (.tmp 56) (.tmp 56) ?ho (m : Int) ?hx ?hy Try.underlying23 (.int .u8 0) 1 info5 rfl (by decide) (by decide) 0 (ok := fun _ => True) (okp := fun _ => True) rfl (fun _ hk => hk) trivial hm0 hml (w0 := w) HBE.out (below_size HBE.out) ?_); (case hg => rfl); (case hd => rfl); (case ho => rfl); (case hx => rfl); (case hy => rfl); go_must (intro v1 w12 ho hb hg hnew; rw [Int.toNat_natCast] at ho; obtain ⟨gb, hgb, hgl⟩ := hnew; obtain ⟨cap, rfl⟩ := row_own ho hgb; have hlr := List.length_replicate (n := m) (a := (0 : Int)); rw [hlr] at ho; rw [hlr]; clear hlr; have ST5 : OpenSt w gr A0 l0 w12 := ⟨Kd.C_below HR.out hb, blk_grown ST4.blk hg (by simp), hb, ST4.le⟩; have HLT : Aside0 (gr < gb) := ⟨by have := blk_lt ST4.blk; omega⟩; have HO := Aside0.mk ho; clear ho hb hg hgb hgl ST4 HBE)) | ((with_reducible refine gate_dst (N := 61) rfl ?_); go_must (obtain ⟨cur, hcur, hgb, hmc, hcm, hcl, hct⟩ := row_cells HO.out; refine wpList_copy_splice rfl (.tmp 58) (.tmp 60) 23 23 rfl 5 Try.underlying23 size5 (some ⟨gb, 0, none⟩) A11 m cap (n - 11) (c0 - 11) rfl rfl gb 0 cur 5 hcur (nums .u8 ys) (by rw [nums_len, HYL.out]; exact (Nat.min_eq_right (by have := HM.out; omega)).symm) (fun hp => ⟨rfl, ST5.src 11 m ys (by have := HM.out; have := L2.out; omega) HYS.out CUT11.out hp⟩) (by rw [nums_len, HYL.out]; omega) (by intro v hv; simp only [nums, List.mem_map] at hv; obtain ⟨q, _, rfl⟩ := hv; rfl) (gr + 1) w12 (Below.refl _ _) (by have := HLT.out; omega) ?_; intro w16 hw16 hb16; obtain ⟨ST6, ROW⟩ := ST5.copied HR.out HYL.out hgb hmc hcm hcl hct hw16 hb16; clear hcur hgb hmc hcm hcl hct hw16 hb16 ST5 HO)))
        obtain ⟨ad0, ea0, hc00⟩ := Kd.at_int ST6.rd_ 0 (by decide) (by have := L2.out; omega)
        subst ea0
        rw [show Int.toNat 0 = 0 from rfl, show ad0.add 0 = ad0 from by simp [Addr.add]] at hc00
        have hnpos : 0 < n := by omega
        have hnpos2 : decide (0 < n) = true := decide_eq_true hnpos
        have hnpos3 : decide ((0 : Int) < (n : Int)) = true := decide_eq_true (by omega)
        refine wp_region_still_tail 8 (by kernel_rfl) (by kernel_rfl) ?_
        simp only [List.take_succ_cons, List.take_zero, List.drop_succ_cons, List.drop_zero]
        change wpStill _ _ w16.drew _ _ _
        have hc0 : w16.cell? ⟨gr, 0, none⟩ = some (.int .u8 0) := (blk_cell ST6.blk 0).trans rfl
        have hc1 : w16.cell? ⟨gr, 1, none⟩ = some (.int .u64 0) := (blk_cell ST6.blk 1).trans rfl
        have hc2 : w16.cell? ⟨gr, 2, none⟩ = some (.slice none 0 0) := (blk_cell ST6.blk 2).trans rfl
        have hf0 := blk_frozen ST6.blk 0
        have hf1 := blk_frozen ST6.blk 1
        have hf2 := blk_frozen ST6.blk 2
        have ST7 : OpenSt w gr (some ad0) l0 w16.drew := ST6.drewN 1
        have ROW7 := Kd.R_drew ROW
        clear ST6 ROW
        still_step
        still_step
        still_step
        still_step
        still_step
        still_call (G3'.out _ ST7)
        still_step
        still_step
        refine wpStill_nil ?_
        have HP := Aside0.mk (ST7.put (.int .u8 (rd l0 0)) (.int .u64 gen) (.slice (some ⟨gb, 0, none⟩) m cap))
        go_wp2_with ((with_reducible refine gate_store (t := 35) (p := 2) rfl ?_); go_must (refine store_event (t := 35) (p := 2) (v := ?vo_w12) (w1 := (((w16.drew.setCell ⟨gr, 0, none⟩ (.int .u8 (rd l0 0))).setCell ⟨gr, 1, none⟩ (.int .u64 gen)).setCell ⟨gr, 2, none⟩ (.slice (some ⟨gb, 0, none⟩) m cap))) ?hg ?ho ?hn ?hr ?_); (case ho => rfl); (case hg => rfl); (case hn => rfl); (case hr => first | (go_simp; done) | (go_simp; rfl)); intro w18 hw; rw [← hw] at HP; clear hw)
        exact bodyPost_ret (results_ct rfl _ _ gr 35 #[.int .u8 (rd l0 0), .int .u64 gen, .slice (some ⟨gb, 0, none⟩) m cap] (0, 0) _ rfl HP.out.1 Try.underlying35 rfl (by kernel_rfl)) rfl ⟨_, rfl, by rw [← HYS.out]; exact Kd.R_mono (Kd.R_grown (Kd.R_types ROW7 ST7.blk (by intro q hq; have : q = 5 := (by simpa [Kd.int, Kd.scalar] using hq); omega)) HP.out.2.2 (fun k_ hk_ e_ => hk_.2 (Option.some.inj e_))) (fun _ _ => trivial), HP.out.2.1⟩
  · rw [if_neg hsg] at HH2
    simp only [Option.some.injEq, Prod.mk.injEq] at HH2
    obtain ⟨rfl, rfl, rfl, rfl⟩ := HH2
    have tsg : (IntKind.u64.wrap s != g) = true := by simpa using hsg
    clear hsg
    go_quiet (first | (go_at_call 17; exact quiet_same (S4'.out _ (ST.drewN _))) | (go_at_call 39; exact quiet_same (G4'.out _ (ST.drewN _))))
    have ST2 := ST.drewN nq
    clear ST
    generalize w7.drewN nq = w8 at *
    have hc0 : w8.cell? ⟨gr, 0, none⟩ = some (.int .u8 0) := (blk_cell ST2.blk 0).trans rfl
    have hc1 : w8.cell? ⟨gr, 1, none⟩ = some (.int .u64 0) := (blk_cell ST2.blk 1).trans rfl
    have hc2 : w8.cell? ⟨gr, 2, none⟩ = some (.slice none 0 0) := (blk_cell ST2.blk 2).trans rfl
    have hf0 := blk_frozen ST2.blk 0
    have hf1 := blk_frozen ST2.blk 1
    have hf2 := blk_frozen ST2.blk 2
    go_wp2
    have HP := ST2.put (.int .u8 0) (.int .u64 0) (.slice none 0 0)
    exact bodyPost_ret (results_ct rfl _ _ gr 35 #[.int .u8 0, .int .u64 0, .slice none 0 0] (0, 0) _ rfl HP.1 Try.underlying35 rfl (by kernel_rfl)) rfl ⟨_, rfl, Kd.R_nil _ _ _ _ _, HP.2.1⟩
theorem frame_Open.mono : ∀ a0 k, LeO (frame_Open.f k a0) (frame_Open.f (k + 1) a0) := by
  intro a0 k
  unfold frame_Open.f
  refine LeO.ite (LeO.refl _) (LeO.ite (LeO.refl _) ?_)
  refine LeO.bind (frame_Sum.mono _ _) (fun s => ?_)
  refine LeO.bind (frame_get.mono _ _ _) (fun g => ?_)
  refine LeO.ite ?_ (LeO.refl _)
  refine LeO.bind (frame_get.mono _ _ _) (fun n => ?_)
  refine LeO.ite (LeO.refl _) (LeO.ite (LeO.ite ?_ (LeO.refl _)) (LeO.refl _))
  refine LeO.bind (frame_get.mono _ _ _) (fun gen => ?_)
  exact LeO.refl _
theorem frame_Open.calls (k : Nat) (A0 : Option Addr) (c0 : Nat) (l0 : List Int) (r1 : Int) (r2 : Int) (r3 : List Int) (r4 : Int) (w : World) (hr0 : Kd.C (Kd.int .u8) w A0 l0.length l0) (hc0 : l0.length ≤ c0) (h : frame_Open.f k l0 = some (r1, r2, r3, r4)) :
    Calls Try.prog 23 #[.slice A0 l0.length c0] w fun e w' => ∃ v2_ : Value, e = .returned (.tuple #[.agg #[.int .u8 r1, .int .u64 r2, v2_], .int .i64 r4]) ∧ Kd.R (Kd.int .u8) 5 w' w.heap.size (fun _ => True) v2_ r3 ∧ Below w.heap.size w w' := by
  unfold frame_Open.f at h
  by_cases h1 : (l0.length : Int) < 15
  · rw [if_pos h1] at h
    simp only [Option.some.injEq, Prod.mk.injEq] at h
    obtain ⟨rfl, rfl, rfl, rfl⟩ := h
    exact (frame_Open.size A0 c0 l0 w (.inl h1)).mono fun e w' ⟨he, hb⟩ => ⟨_, he, Kd.R_nil _ _ _ _ _, hb⟩
  rw [if_neg h1] at h
  by_cases h2 : (l0.length : Int) > 8192
  · rw [if_pos h2] at h
    simp only [Option.some.injEq, Prod.mk.injEq] at h
    obtain ⟨rfl, rfl, rfl, rfl⟩ := h
    exact (frame_Open.size A0 c0 l0 w (.inr h2)).mono fun e w' ⟨he, hb⟩ => ⟨_, he, Kd.R_nil _ _ _ _ _, hb⟩
  rw [if_neg h2] at h
  obtain ⟨s, es, h⟩ := Option.bind_eq_some_iff.1 h
  obtain ⟨g, eg, h⟩ := Option.bind_eq_some_iff.1 h
  exact frame_Open.rest k A0 c0 l0 w s g hr0 hc0 (by omega) (by omega) es eg r1 r2 r3 r4 h

/-! ### arborref2_Number: function 40 -/
def arborref2_Number.l0 : Nat → List Int → Int → Int → Int → Option (Int)
  | 0, _, _, _, _ => none
  | k + 1, x0, x1, x7, x8 => if x8 ≥ 0 then (if 0 ≤ (wrap64 (x1 + x8)) then (if (wrap64 (x1 + x8)) < (x0.length : Int) then (arborref2_Number.l0 k x0 x1 (IntKind.u64.wrap ((IntKind.u64.wrap (x7 * 256)) + (IntKind.u64.wrap (rd x0 (wrap64 (x1 + x8)))))) (wrap64 (x8 - 1))) else (none)) else (none)) else (some x7)
def arborref2_Number.f (k : Nat) (l0 : List Int) (a1 : Int) (a2 : Int) : Option (Int) := arborref2_Number.l0 k l0 a1 0 (wrap64 (a2 - 1))
theorem arborref2_Number.mono_l : ∀ k, (∀ y0 y1 y2 y3, LeO (arborref2_Number.l0 k y0 y1 y2 y3) (arborref2_Number.l0 (k + 1) y0 y1 y2 y3))
  | 0 => fun _ _ _ _ r h => by simp [arborref2_Number.l0] at h
  | k + 1 => by
    have ih0 := arborref2_Number.mono_l k
    · intro y0 y1 y2 y3
      unfold arborref2_Number.l0
      repeat' first
      | (with_reducible exact ih0 _ _ _ _)
      | (with_reducible exact LeO.refl _)
      | (with_reducible exact LeO.none _)
      | (with_reducible refine LeO.ite ?_ ?_)
      | (with_reducible refine LeO.bind ?_ (fun _ => ?_))
      | exact ih0 _ _ _ _
      | exact LeO.none _
      | refine LeO.ite ?_ ?_
      | refine LeO.bind ?_ (fun _ => ?_)
theorem arborref2_Number.mono : ∀ a0 a1 a2 k, LeO (arborref2_Number.f k a0 a1 a2) (arborref2_Number.f (k + 1) a0 a1 a2) := by
  intro a0 a1 a2 k
  have ih0 := arborref2_Number.mono_l k
  unfold arborref2_Number.f
  repeat' first
      | (with_reducible exact ih0 _ _ _ _)
      | (with_reducible exact LeO.refl _)
      | (with_reducible exact LeO.none _)
      | (with_reducible refine LeO.ite ?_ ?_)
      | (with_reducible refine LeO.bind ?_ (fun _ => ?_))
      | exact ih0 _ _ _ _
      | exact LeO.none _
      | refine LeO.ite ?_ ?_
      | refine LeO.bind ?_ (fun _ => ?_)
set_option maxHeartbeats 8000000 in
set_option maxRecDepth 100000 in
theorem arborref2_Number.calls (k : Nat) (A0 : Option Addr) (c0 : Nat) (l0 : List Int) (a1 : Int) (a2 : Int) (r : Int) (w : World) (hr0 : Kd.C (Kd.int .u8) w A0 l0.length l0) (hc0 : l0.length ≤ c0) (h : arborref2_Number.f k l0 a1 a2 = some r) :
    Calls Try.prog 40 #[.slice A0 l0.length c0, .int .i64 a1, .int .i64 a2] w fun e w' => e = .returned (.int .u64 r) ∧ Drawn0 w w' := by
  have HR0 := Aside0.mk hr0
  have HC0 := Aside0.mk hc0
  clear hr0 hc0
  have H : (arborref2_Number.l0 k l0 a1 0 (wrap64 (a2 - 1))) = some r := h
  clear h
  have H' := Aside0.mk H
  clear H
  go_enter Try.func40, Try.ntmps40
  go_wp2
  go_loopg [7, 8] k (fun kq v7 v8 w' => ∃ (x7_1 : Int) (x8_1 : Int), v7 = .int .u64 x7_1 ∧ v8 = .int .i64 x8_1 ∧ Aside0 (arborref2_Number.l0 kq l0 a1 x7_1 x8_1 = some r) ∧ Aside0 (kq ≤ k) ∧ Drawn0 w w')
  case atStart => exact ⟨(0), (wrap64 (a2 - 1)), (by first | rfl | (simp; done) | (simp [*]; done)), (by first | rfl | (simp; done) | (simp [*]; done)), H', ⟨Nat.le_refl _⟩, by repeat (first | exact Drawn0.refl _ | apply Drawn0.step)⟩
  case round =>
    clear H'
    try clear p2
    obtain ⟨x7_1, x8_1, rfl, rfl, HA, HK1, ⟨m1, rfl⟩⟩ := hrel
    cases gk with
    | zero => exact absurd HA.out (by simp [arborref2_Number.l0])
    | succ k1 =>
      have H := HA.out
      clear HA
      simp only [arborref2_Number.l0] at H
      by_cases c4 : x8_1 ≥ 0
      · rw [if_pos c4] at H
        have c4b0 : decide (0 ≤ x8_1) = true := decide_eq_true c4
        clear c4
        obtain ⟨ji5, hji5⟩ : ∃ j_ : Int, (wrap64 (a1 + x8_1)) = j_ := ⟨_, rfl⟩
        replace H : (if 0 ≤ (ji5) then (if (ji5) < (l0.length : Int) then (arborref2_Number.l0 k1 l0 a1 (IntKind.u64.wrap ((IntKind.u64.wrap (x7_1 * 256)) + (IntKind.u64.wrap (rd l0 (ji5))))) (wrap64 (x8_1 - 1))) else (none)) else (none)) = some r := by first | (rw [hji5] at H; exact H) | (simp only [hji5] at H ⊢; exact H)
        have hji5w : (IntKind.i64.wrap (a1 + x8_1)) = ji5 := (i64_w _).trans hji5
        by_cases c6 : 0 ≤ (ji5)
        · rw [if_pos c6] at H
          have c6b0 : decide (0 ≤ (ji5)) = true := decide_eq_true c6
          clear c6
          by_cases c7 : (ji5) < (l0.length : Int)
          · rw [if_pos c7] at H
            have c7b0 : decide ((ji5) < (l0.length : Int)) = true := decide_eq_true c7
            clear c7
            have H' := Aside0.mk H
            clear H
            have p161 : 0 ≤ ((ji5) : Int) := of_decide_eq_true (by first | (with_reducible assumption) | assumption)
            have q161 : (ji5) < (l0.length : Int) := of_decide_eq_true (by first | (with_reducible assumption) | assumption)
            obtain ⟨ad161, e161, hx161_0⟩ := Kd.at_int HR0.out (ji5) p161 q161
            cases e161
            replace p161 := eq_true p161
            replace q161 := eq_true q161
            go_wp2
            go_roundg k1
            case measure => have := HK1.out; omega
            case rel => exact ⟨(IntKind.u64.wrap ((IntKind.u64.wrap (x7_1 * 256)) + (IntKind.u64.wrap (rd l0 (ji5))))), (wrap64 (x8_1 - 1)), (by first | rfl | (simp; done) | (simp only [← hji5] <;> (first | rfl | simp)) | (simp [*]; done)), (by first | rfl | (simp; done) | (simp [*]; done)), H', ⟨by have := HK1.out; omega⟩, by repeat (first | exact Drawn0.refl _ | apply Drawn0.step)⟩
          · rw [if_neg c7] at H
            exact absurd H (by simp)
        · rw [if_neg c6] at H
          exact absurd H (by simp)
      · rw [if_neg c4] at H
        have c4b0 : decide (0 ≤ x8_1) = false := decide_eq_false c4
        clear c4
        obtain rfl := Option.some.inj H
        go_wp2
        go_ret
        exact ⟨by first | rfl | (simp; done) | (simp [*]; done), by repeat (first | exact Drawn0.refl _ | apply Drawn0.step)⟩

end Go.Proofs.Ythggjlfiliggjaa.QFr
