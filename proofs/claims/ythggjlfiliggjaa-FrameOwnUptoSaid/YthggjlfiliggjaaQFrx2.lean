-- written by a program of this session (myprint) out of the translation
import Derived.Test.YthggjlfiliggjaaQFrx0
import Derived.Test.YthggjlfiliggjaaQFrx1
namespace Go.Proofs.Ythggjlfiliggjaa.QFr
open Go.RowKit Go.Proofs.YthggjlfiliggjaaW.PrintWords Go.Proofs.YthggjlfiliggjaaW.PrintLast Go.Proofs.YthggjlfiliggjaaW.PrintMore
attribute [local go_sem] max2_int min2_int max_two min_two max_three min_three max_four min_four   -- for this text's walks alone
open Go.Proofs.YthggjlfiliggjaaX
attribute [local go_sem] unary_xor_u32 unary_xor_u64 max_u32
set_option linter.unusedVariables false
set_option linter.unusedSimpArgs false

-- rounds
/-! ### frame_put on a cut of a row of the call's own (by hand) -/
set_option maxHeartbeats 8000000 in
set_option maxRecDepth 100000 in
theorem frame_put.cut (k : Nat) (P0_ : Nat → Prop) (g off cap : Nat) (l l0 : List Int) (a1 : Int) (a2 : Int) (r : List Int) (w0 w : World) (h1 : 1 ≤ off) (hl0 : l.length = off) (hB : Below w0.heap.size w0 w) (hg0 : w0.heap.size ≤ g) (hcp : off ≤ cap)
    (ho0 : Kd.R (Kd.int .u8) 5 w w0.heap.size P0_ (.slice (some ⟨g, 0, none⟩) (l ++ l0).length cap) (l ++ l0)) (h : frame_put.f k l0 a1 a2 = some r) :
    Calls Try.prog 37 #[.slice (some ⟨g, off, none⟩) l0.length (cap - off), .int .u64 a1, .int .i64 a2] w fun e w' => e = .returned (.tuple #[]) ∧ Kd.R (Kd.int .u8) 5 w' w0.heap.size (fun k_ => (P0_ k_ ∨ w.heap.size ≤ k_)) (.slice (some ⟨g, 0, none⟩) (l ++ l0).length cap) (l ++ r) ∧ Below w0.heap.size w0 w' ∧ w.grownBy w' (some g) := by
  have HO0 := Aside0.mk (show Kd.R (Kd.int .u8) 5 w w0.heap.size (fun k_ => (P0_ k_ ∨ w.heap.size ≤ k_)) (.slice (some ⟨g, 0, none⟩) (l ++ l0).length cap) (l ++ l0) from Kd.R_mono ho0 (fun k_ hk => (.inl hk)))
  have HK := Aside0.mk (World.grownBy.refl w (some g))
  have HB := Aside0.mk hB
  have HG0 := Aside0.mk hg0
  have HL0 := Aside0.mk hl0
  have HCP := Aside0.mk hcp
  have H1 := Aside0.mk h1
  clear hB hg0 hl0 hcp h1 ho0
  have H : (frame_put.l0 k l0 a1 a2 0) = some r := h
  clear h
  have H' := Aside0.mk H
  clear H
  obtain ⟨n0, hn0⟩ : ∃ n, n = l0.length := ⟨_, rfl⟩
  obtain ⟨nn, hnn⟩ : ∃ n, n = (l ++ l0).length := ⟨_, rfl⟩
  rw [← hnn] at HO0 ⊢
  rw [← hn0]
  have HN0 := Aside0.mk hn0
  have HNN := Aside0.mk hnn
  clear hn0 hnn
  obtain ⟨cp, hcp⟩ : ∃ n, n = cap - off := ⟨_, rfl⟩
  rw [← hcp]
  clear hcp
  go_enter Try.func37, Try.ntmps37
  go_wp2
  go_loopg [8] k (fun kq v8 w' => ∃ (x0_1 : List Int) (x8_1 : Int), v8 = .int .i64 x8_1 ∧ Aside0 (x0_1.length = n0) ∧ Aside0 (frame_put.l0 kq x0_1 a1 a2 x8_1 = some r) ∧ Aside0 (kq ≤ k) ∧ Aside0 (Kd.R (Kd.int .u8) 5 w' w0.heap.size (fun k_ => (P0_ k_ ∨ w.heap.size ≤ k_)) (.slice (some ⟨g, 0, none⟩) nn cap) (l ++ x0_1)) ∧ Aside0 (w.grownBy w' (some g)) ∧ Aside0 (Below w0.heap.size w0 w'))
  case atStart => exact ⟨l0, 0, rfl, ⟨HN0.out.symm⟩, H', ⟨Nat.le_refl _⟩, HO0, HK, HB⟩
  case round =>
    clear H'
    obtain ⟨x0_1, x8_1, rfl, HL, HA, HK1, HO, HK, HB⟩ := hrel
    cases gk with
    | zero => exact absurd HA.out (by simp [frame_put.l0])
    | succ k1 =>
      have H := HA.out
      clear HA
      simp only [frame_put.l0] at H
      by_cases c4 : x8_1 < a2
      · rw [if_pos c4] at H
        have c4b0 : decide (x8_1 < a2) = true := decide_eq_true c4
        clear c4
        obtain ⟨ji5, hji5⟩ : ∃ j_ : Int, (wrap64 (8 * x8_1)) = j_ := ⟨_, rfl⟩
        rw [hji5] at H
        have hji5w : (IntKind.i64.wrap (8 * x8_1)) = ji5 := (i64_w _).trans hji5
        by_cases c6 : 0 ≤ (ji5)
        · rw [if_pos c6] at H
          have c6b0 := eq_true c6
          have c6b1 : decide (0 ≤ (ji5)) = true := decide_eq_true c6
          clear c6
          obtain ⟨ji7, hji7⟩ : ∃ j_ : Int, (shr .u64 a1 (ji5)) = j_ := ⟨_, rfl⟩
          rw [hji7] at H
          have hji7_ : (a1 / 2 ^ min (ji5).toNat 64) = ji7 := hji7
          have hji7z : (ji5) ≤ 64 → (a1 / 2 ^ (ji5).toNat) = ji7 := shr_small hji7
          by_cases c8 : 0 ≤ x8_1
          · rw [if_pos c8] at H
            have c8b0 : decide (0 ≤ x8_1) = true := decide_eq_true c8
            by_cases c9 : x8_1 < (x0_1.length : Int)
            · rw [if_pos c9] at H
              rw [HL.out] at c9
              obtain ⟨m8, rfl⟩ := Int.eq_ofNat_of_zero_le c8
              have c9b0 : decide ((m8 : Int) < (n0 : Int)) = true := decide_eq_true c9
              have c9b1 : decide (m8 < n0) = true := decide_eq_true (by omega)
              have c8b2 : (0 : Int) ≤ (m8 : Int) := c8
              obtain ⟨y157, hy157⟩ : ∃ y_ : List Int, y_ = (x0_1.set ((m8 : Int)).toNat ((ji7) % 256)) := ⟨_, rfl⟩
              rw [← hy157] at H
              have Ny157 := Aside0.mk hy157
              clear hy157
              have H' := Aside0.mk H
              clear H
              have hlen : Aside0 (nn = off + n0) := ⟨by rw [HNN.out, List.length_append, HL0.out, HN0.out]⟩
              have e8 : Aside0 (((off + m8 : Nat) : Int).toNat = off + m8) := ⟨by omega⟩
              obtain ⟨hx10_0, hf10_0⟩ := Kd.R_celln 0 HO.out ((off + m8 : Nat) : Int) (by omega) (by have := hlen.out; omega)
              rw [e8.out] at hx10_0 hf10_0
              have HP11 := Kd.R_putg HO.out ((off + m8 : Nat) : Int) ((ji7) % 256)
              have HS : Aside0 ((l ++ x0_1).set ((off + m8 : Nat) : Int).toNat ((ji7) % 256) = l ++ y157) := ⟨by
                rw [e8.out, Ny157.out, List.set_append_right _ _ (by have := HL0.out; omega), HL0.out]
                congr 2
                omega⟩
              rw [HS.out, e8.out] at HP11
              go_wp2_with (first | ((with_reducible refine gate_store (t := 5) (p := 18) rfl ?_); refine store_event (t := 5) (p := 18) (v := ?vo_w12) (w1 := (wr.setCell ⟨g, off + m8, none⟩ (.int .u8 ((ji7) % 256)))) ?hg ?ho ?hn ?hr ?_; (case ho => rfl); (case hg => rfl); (case hn => rfl); (case hr => first | (go_simp; done) | (go_simp; rfl)); intro w12 hw; have hg : wr.grownBy w12 (some g) := (by rw [hw]; exact HP11.2); have n0_ := Aside0.mk (by rw [hw]; exact HP11.1 : Kd.R (Kd.int .u8) 5 w12 w0.heap.size (fun k_ => (P0_ k_ ∨ w.heap.size ≤ k_)) (.slice (some ⟨g, 0, none⟩) nn cap) (l ++ y157)); have n1_ := Aside0.mk ((by rw [hw]; exact below_set (HB.out) HG0.out : Below w0.heap.size w0 w12)); have n2_ := Aside0.mk (World.grownBy.trans HK.out hg); clear HP11 HO HB HK; have HO := n0_; have HB := n1_; have HK := n2_; clear n0_ n1_ n2_; clear hg hw))
              go_roundg k1
              case measure => have := HK1.out; omega
              case rel => exact ⟨y157, (wrap64 ((m8 : Int) + 1)), (by first | rfl | (simp; done) | (simp [*]; done)), ⟨by rw [Ny157.out, List.length_set]; exact HL.out⟩, H', ⟨by have := HK1.out; omega⟩, HO, HK, HB⟩
            · rw [if_neg c9] at H
              exact absurd H (by simp)
          · rw [if_neg c8] at H
            exact absurd H (by simp)
        · rw [if_neg c6] at H
          exact absurd H (by simp)
      · rw [if_neg c4] at H
        have c4b0 : decide (x8_1 < a2) = false := decide_eq_false c4
        clear c4
        obtain rfl := Option.some.inj H
        go_wp2
        first | go_end0 | ((try simp only [Exit.inBlock, Exit.then]); refine bodyPost_ret (results_none rfl _ _ _) rfl ?_)
        exact ⟨rfl, HO.out, HB.out, HK.out⟩
/-- The world is the same. -/
structure Same0 (w w' : World) : Prop where mk :: (out : w = w')
set_option maxHeartbeats 8000000 in
set_option maxRecDepth 100000 in
theorem frame_Extend.still (k : Nat) (a0 : Int) (A1 : Option Addr) (c1 : Nat) (l1 : List Int) (r : Int) (w : World) (hr1 : Kd.C (Kd.int .u8) w A1 l1.length l1) (hc1 : l1.length ≤ c1) (h : frame_Extend.f k a0 l1 = some r) :
    Calls Try.prog 14 #[.int .u32 a0, .slice A1 l1.length c1] w fun e w' => e = .returned (.int .u32 r) ∧ Same0 w w' := by
  have HR1 := Aside0.mk hr1
  have HC1 := Aside0.mk hc1
  clear hr1 hc1
  have H : (frame_Extend.l0 k (Go.bits .xor .u32 4294967295 a0) l1 (l1.length : Int) 0) = some r := h
  clear h
  have H' := Aside0.mk H
  clear H
  go_enter Try.func14, Try.ntmps14
  go_wp2
  go_loopg [5, 12] k (fun kq v5 v12 w' => ∃ (x5_1 : Int) (x12_1 : Int), v5 = .int .u32 x5_1 ∧ v12 = .int .i64 x12_1 ∧ Aside0 (frame_Extend.l0 kq x5_1 l1 (l1.length : Int) x12_1 = some r) ∧ Aside0 (kq ≤ k) ∧ Same0 w w')
  case atStart => exact ⟨(Go.bits .xor .u32 4294967295 a0), (0), (by first | rfl | (simp; done) | (simp [*]; done)), (by first | rfl | (simp; done) | (simp [*]; done)), H', ⟨Nat.le_refl _⟩, ⟨rfl⟩⟩
  case round =>
    clear H'
    try clear c1
    try clear p2
    obtain ⟨x5_1, x12_1, rfl, rfl, HA, HK1, ⟨rfl⟩⟩ := hrel
    cases gk with
    | zero => exact absurd HA.out (by simp [frame_Extend.l0])
    | succ k1 =>
      have H := HA.out
      clear HA
      simp only [frame_Extend.l0] at H
      by_cases c3 : x12_1 < (l1.length : Int)
      · rw [if_pos c3] at H
        have c3b0 : decide (x12_1 < (l1.length : Int)) = true := decide_eq_true c3
        clear c3
        by_cases c4 : 0 ≤ x12_1
        · rw [if_pos c4] at H
          have c4b0 : decide (0 ≤ x12_1) = true := decide_eq_true c4
          clear c4
          by_cases c5 : x12_1 < (l1.length : Int)
          · rw [if_pos c5] at H
            have c5b0 : decide (x12_1 < (l1.length : Int)) = true := decide_eq_true c5
            clear c5
            have H' := Aside0.mk H
            clear H
            have p104 : 0 ≤ (x12_1 : Int) := of_decide_eq_true (by first | (with_reducible assumption) | assumption)
            have q104 : x12_1 < (l1.length : Int) := of_decide_eq_true (by first | (with_reducible assumption) | assumption)
            obtain ⟨ad104, e104, hx104_0⟩ := Kd.at_int HR1.out x12_1 p104 q104
            cases e104
            replace p104 := eq_true p104
            replace q104 := eq_true q104
            go_wp2
            go_loopg [5, 20] k1 (fun kq v5 v20 w' => ∃ (x5_2 : Int) (x20_2 : Int), v5 = .int .u32 x5_2 ∧ v20 = .int .i64 x20_2 ∧ Aside0 (frame_Extend.l1 kq x5_2 l1 (l1.length : Int) x12_1 x20_2 = some r) ∧ Aside0 (kq ≤ k1) ∧ Same0 w w')
            case atStart => exact ⟨(Go.bits .xor .u32 x5_1 ((rd l1 x12_1) % 4294967296)), (0), (by first | rfl | (simp; done) | (simp [*]; done)), (by first | rfl | (simp; done) | (simp [*]; done)), H', ⟨Nat.le_refl _⟩, ⟨rfl⟩⟩
            case round =>
              clear H'
              try clear c1
              try clear p1
              try clear q1
              try clear hx1
              try clear p2
              try clear c3
              try clear c3b0
              try clear c4
              try clear c4b0
              try clear c5
              try clear c5b0
              try clear hx104_0
              try clear p104
              try clear p2
              try clear q104
              obtain ⟨x5_2, x20_2, rfl, rfl, HA, HK2, ⟨rfl⟩⟩ := hrel
              cases gk with
              | zero => exact absurd HA.out (by simp [frame_Extend.l1])
              | succ k2 =>
                have H := HA.out
                clear HA
                simp only [frame_Extend.l1] at H
                by_cases c6 : x20_2 < 8
                · rw [if_pos c6] at H
                  have c6b0 : decide (x20_2 < 8) = true := decide_eq_true c6
                  clear c6
                  by_cases c7 : (Go.bits .and .u32 x5_2 1) = 1
                  · rw [if_pos c7] at H
                    have c7b0 : ((Go.bits .and .u32 x5_2 1) == 1) = true := beq_iff_eq.mpr c7
                    have c7b1 : ((Go.bits .and .u32 x5_2 1) != 1) = false := bne_eq_false_iff_eq.mpr c7
                    clear c7
                    have H' := Aside0.mk H
                    clear H
                    go_wp2
                    go_roundg k2
                    case measure => have := HK1.out; have := HK2.out; omega
                    case rel => exact ⟨(Go.bits .xor .u32 (x5_2 / 2) 3988292384), (wrap64 (x20_2 + 1)), (by first | rfl | (simp; done) | (simp [*]; done)), (by first | rfl | (simp; done) | (simp [*]; done)), H', ⟨by have := HK1.out; have := HK2.out; omega⟩, ⟨rfl⟩⟩
                  · rw [if_neg c7] at H
                    have c7b0 : ((Go.bits .and .u32 x5_2 1) == 1) = false := beq_eq_false_iff_ne.mpr c7
                    have c7b1 : ((Go.bits .and .u32 x5_2 1) != 1) = true := bne_iff_ne.mpr c7
                    have H' := Aside0.mk H
                    clear H
                    go_wp2
                    go_roundg k2
                    case measure => have := HK1.out; have := HK2.out; omega
                    case rel => exact ⟨(x5_2 / 2), (wrap64 (x20_2 + 1)), (by first | rfl | (simp; done) | (simp [*]; done)), (by first | rfl | (simp; done) | (simp [*]; done)), H', ⟨by have := HK1.out; have := HK2.out; omega⟩, ⟨rfl⟩⟩
                · rw [if_neg c6] at H
                  have c6b0 : decide (x20_2 < 8) = false := decide_eq_false c6
                  clear c6
                  have H' := Aside0.mk H
                  clear H
                  go_wp2
                  go_roundg k2
                  case measure => have := HK1.out; have := HK2.out; omega
                  case rel => exact ⟨(x5_2), (wrap64 (x12_1 + 1)), (by first | rfl | (simp; done) | (simp [*]; done)), (by first | rfl | (simp; done) | (simp [*]; done)), H', ⟨by have := HK1.out; have := HK2.out; omega⟩, ⟨rfl⟩⟩
          · rw [if_neg c5] at H
            exact absurd H (by simp)
        · rw [if_neg c4] at H
          exact absurd H (by simp)
      · rw [if_neg c3] at H
        have c3b0 : decide (x12_1 < (l1.length : Int)) = false := decide_eq_false c3
        clear c3
        obtain rfl := Option.some.inj H
        go_wp2
        go_ret
        exact ⟨by first | rfl | (simp; done) | (simp [*]; done), ⟨rfl⟩⟩

set_option maxHeartbeats 8000000 in
set_option maxRecDepth 100000 in
theorem frame_Sum.still (k : Nat) (A0 : Option Addr) (c0 : Nat) (l0 : List Int) (r : Int) (w : World) (hr0 : Kd.C (Kd.int .u8) w A0 l0.length l0) (hc0 : l0.length ≤ c0) (h : frame_Sum.f k l0 = some r) :
    Calls Try.prog 17 #[.slice A0 l0.length c0] w fun e w' => e = .returned (.int .u32 r) ∧ Same0 w w' := by
  have HR0 := Aside0.mk hr0
  have HC0 := Aside0.mk hc0
  clear hr0 hc0
  have H : ((frame_Extend.f k 0 l0).bind fun t105 => (some t105)) = some r := h
  clear h
  replace H := Option.bind_eq_some_iff.mp H
  obtain ⟨t105, A20, H⟩ := H
  replace H : (some t105) = some r := H
  have A2 := Aside0.mk A20
  clear A20
  obtain rfl := Option.some.inj H
  go_enter Try.func17, Try.ntmps17
  go_wp2_with (first | ((with_reducible refine gate_callee (f := 14) rfl ?_); refine goesL_ (some 4) rfl rfl Try.func14 (by kernel_rfl) rfl #[.int .u32 0, .slice A0 l0.length c0] rfl (by (try simp only [List.map_toArray, List.map_cons, List.map_nil]); first | done | rfl | (simp only [List.length_drop, List.length_take]; rfl)) ?_; (with_reducible refine (frame_Extend.still k 0 _ _ l0 t105 _ ?side1 ?side2 A2.out).mono ?_); (case side1 => repeat (first | exact HR0.out | (with_reducible refine Kd.C_alloc ?_ _) | (with_reducible refine Kd.C_drewN ?_ _) | (with_reducible refine Kd.C_drew ?_))); (case side2 => exact HC0.out); rintro e w' ⟨rfl, ⟨rfl⟩⟩; refine ⟨_, rfl, ?_⟩))
  go_ret
  exact ⟨by first | rfl | (simp; done) | (simp [*]; done), ⟨rfl⟩⟩

/-! ### frame_Seal: function 20 (by hand) -/
theorem cut_run (g n c i : Nat) (j : Int) (hj : j = (i : Int)) (h0 : 0 < i) (hi : i ≤ n) (hc : i < c) (hnc : n ≤ c) :
    ∀ W : World, (Instr.slice 23 (.slice (some ⟨g, 0, none⟩) n c) (some (.int .i64 j)) none none).run Try.prog W = .ok (.slice (some ⟨g, i, none⟩) (n - i) (c - i)) W := by
  subst hj
  intro W
  obtain ⟨i0, hi0, hzz⟩ := Option.map_eq_some_iff.1 info5
  simp only [Prod.mk.injEq] at hzz
  obtain ⟨_, hsz, _⟩ := hzz
  have hel : Try.prog.elem 23 = 5 := by simp [Program.elem, Try.underlying23]
  have hu : Try.prog.underlying 23 = some (.slice (Try.prog.elem 23)) := by rw [hel]; exact Try.underlying23
  rw [run_slice_l W 23 (some ⟨g, 0, none⟩) n c hu .i64 (i : Int) (Int.natCast_nonneg _) (by omega), hel]
  have h1 : ¬ c = i := by omega
  have ha : (⟨g, 0, none⟩ : Addr).add i = ⟨g, i, none⟩ := by unfold Addr.add; split <;> simp_all
  simp [sizeOf, typeInfo, hi0, hsz, sliced, Result.andThen, h1, ha]
theorem take_run (g n c i : Nat) (j : Int) (hj : j = (i : Int)) (hc : i ≤ c) :
    ∀ W : World, (Instr.slice 23 (.slice (some ⟨g, 0, none⟩) n c) none (some (.int .i64 j)) none).run Try.prog W = .ok (.slice (some ⟨g, 0, none⟩) i c) W := by
  subst hj
  intro W
  obtain ⟨i0, hi0, hzz⟩ := Option.map_eq_some_iff.1 info5
  simp only [Prod.mk.injEq] at hzz
  obtain ⟨_, hsz, _⟩ := hzz
  have hel : Try.prog.elem 23 = 5 := by simp [Program.elem, Try.underlying23]
  have hu : Try.prog.underlying 23 = some (.slice (Try.prog.elem 23)) := by rw [hel]; exact Try.underlying23
  rw [run_slice_h W 23 (some ⟨g, 0, none⟩) n c hu .i64 (i : Int) (Int.natCast_nonneg _) (by omega), hel]
  simp [sizeOf, typeInfo, hi0, hsz, sliced, Result.andThen, Addr.add]
theorem row_form {w : World} {base : Nat} {ok : Nat → Prop} {v : Value} {xs : List Int} {n : Nat} (h : Kd.R (Kd.int .u8) 5 w base ok v xs) (hn : xs.length = n) (hp : 0 < n) :
    ∃ g cap, v = .slice (some ⟨g, 0, none⟩) n cap ∧ Aside0 (base ≤ g) ∧ n ≤ cap ∧ Aside0 (∃ cells, w.heap[g]? = some (.cells cells 5 (0, 0))) := by
  subst hn
  obtain ⟨g, cap, rfl, hb, _, hc⟩ := Kd.R_form h hp
  exact ⟨g, cap, rfl, ⟨hb⟩, (Kd.R_reads' h).2.1, ⟨hc⟩⟩
def frame_Seal.f (k : Nat) (a0_0 : Int) (a0_1 : Int) (l0_2 : List Int) (a1 : Int) : Option (List Int × Int) :=
  if a1 < 15 then some ([], 1) else (if a1 > 8192 then some ([], 1) else (if (l0_2.length : Int) > a1 - 15 then some ([], 21) else
    ((frame_put.f k (List.replicate (a1.toNat - 1) 0) (IntKind.u64.wrap (l0_2.length : Int)) 2).bind fun p1 =>
      ((frame_put.f k (([a0_0] ++ p1).drop 3) a0_1 8).bind fun p2 =>
        ((frame_Sum.f k ((splice (([a0_0] ++ p1).take 3 ++ p2) 11 l0_2).take (a1.toNat - 4))).bind fun s =>
          ((frame_put.f k ((splice (([a0_0] ++ p1).take 3 ++ p2) 11 l0_2).drop (a1.toNat - 4)) (IntKind.u64.wrap s) 4).bind fun p4 =>
            some ((splice (([a0_0] ++ p1).take 3 ++ p2) 11 l0_2).take (a1.toNat - 4) ++ p4, 0)))))))
/-- The frame under way: its row at g, the argument's box at gb. -/
structure SealSt (w : World) (g gb m cap : Nat) (a0_0 a0_1 : Int) (bv : Value) (W : World) (xs : List Int) : Prop where mk ::
  row : Kd.R (Kd.int .u8) 5 W w.heap.size (fun _ => True) (.slice (some ⟨g, 0, none⟩) m cap) xs
  blk : W.heap[gb]? = some (.cells #[.int .u8 a0_0, .int .u64 a0_1, bv] 35 (0, 0))
  bel : Below w.heap.size w W
  le : w.heap.size ≤ g
  lt : gb < g
  cap_ : m ≤ cap
theorem SealSt.len {w : World} {g gb m cap : Nat} {a0_0 a0_1 : Int} {bv : Value} {W : World} {xs : List Int} (h : SealSt w g gb m cap a0_0 a0_1 bv W xs) : xs.length = m := (Kd.R_reads' h.row).1.symm
theorem SealSt.drew {w : World} {g gb m cap : Nat} {a0_0 a0_1 : Int} {bv : Value} {W : World} {xs : List Int} (h : SealSt w g gb m cap a0_0 a0_1 bv W xs) : SealSt w g gb m cap a0_0 a0_1 bv W.drew xs :=
  ⟨Kd.R_drew h.row, blk_drew h.blk, below_drew h.bel, h.le, h.lt, h.cap_⟩
theorem SealSt.put {w : World} {g gb m cap : Nat} {a0_0 a0_1 : Int} {bv : Value} {W : World} {xs r : List Int} (h : SealSt w g gb m cap a0_0 a0_1 bv W xs) (k off : Nat) (a1 a2 : Int) (h0 : 1 ≤ off) (hm : off ≤ m) (hf : frame_put.f k (xs.drop off) a1 a2 = some r) :
    Calls Try.prog 37 #[.slice (some ⟨g, off, none⟩) (m - off) (cap - off), .int .u64 a1, .int .i64 a2] W fun e W' => e = .returned (.tuple #[]) ∧ SealSt w g gb m cap a0_0 a0_1 bv W' (xs.take off ++ r) := by
  have hl := h.len
  have hc := h.cap_
  have e1 : xs.take off ++ xs.drop off = xs := List.take_append_drop off xs
  have hr : Kd.R (Kd.int .u8) 5 W w.heap.size (fun _ => True) (.slice (some ⟨g, 0, none⟩) (xs.take off ++ xs.drop off).length cap) (xs.take off ++ xs.drop off) := by rw [e1, hl]; exact h.row
  have hc2 := frame_put.cut k (fun _ => True) g off cap (xs.take off) (xs.drop off) a1 a2 r w W h0 (by rw [List.length_take, hl]; omega) h.bel h.le (by omega) hr hf
  rw [e1, hl, List.length_drop, hl] at hc2
  refine hc2.mono ?_
  rintro e W' ⟨he, hrow, hbel, hg⟩
  exact ⟨he, Kd.R_mono hrow (fun _ _ => trivial), blk_grown h.blk hg (by intro hh; injection hh with hh; have := h.lt; omega), hbel, h.le, h.lt, h.cap_⟩
theorem nums_len (k : IntKind) (xs : List Int) : (nums k xs).length = xs.length := by simp [nums]
/-- An own row's block, and the row again behind a splice. -/
theorem row_cells {w : World} {base : Nat} {ok : Nat → Prop} {g n cap : Nat} {xs : List Int} (h : Kd.R (Kd.int .u8) 5 w base ok (.slice (some ⟨g, 0, none⟩) n cap) xs) :
    ∃ cur : List Value, w.heap[g]? = some (.cells cur.toArray 5 (0, 0)) ∧ base ≤ g ∧ n ≤ cap ∧ cap ≤ maxLen ∧ cur.length = cap ∧ cur.take n = nums .u8 xs := by
  obtain ⟨h0, inner, ho, hr⟩ := h
  rcases ho.2 with ⟨he, _⟩ | ⟨g', cap', cur, he, hb, hh, h1, h2, h3, h4⟩
  · cases he
  · injection he with e1 e2 e3
    injection e1 with e1
    injection e1 with e1
    subst e1; subst e2; subst e3
    refine ⟨cur.toList, by simpa using hh, hb, h1, h2, by simpa [Kd.int, Kd.scalar] using h3, ?_⟩
    have hi : inner = nums .u8 xs := by
      apply List.ext_getElem
      · rw [nums_len, hr.1]
        simp [Kd.int, Kd.scalar]
      · intro i h5 h6
        have h7 : i < xs.length := by rw [nums_len] at h6; exact h6
        have h8 := hr.2 i xs[i] (List.getElem?_eq_getElem h7)
        have h9 : (inner.drop (i * 1)).take 1 = [Value.int .u8 xs[i]] := h8
        have h10 : inner.drop (i * 1) = inner[i] :: inner.drop (i + 1) := by rw [Nat.mul_one]; exact List.drop_eq_getElem_cons h5
        rw [h10] at h9
        simp only [List.take_succ_cons, List.take_zero, List.cons.injEq] at h9
        simp [nums, h9.1]
    rw [← hi, ← h4]
    simp [Kd.int, Kd.scalar]
theorem row_of_cells {w : World} {base : Nat} {g n cap : Nat} {xs : List Int} {cur : List Value} (hh : w.heap[g]? = some (.cells cur.toArray 5 (0, 0))) (hb : base ≤ g) (h1 : n ≤ cap) (h2 : cap ≤ maxLen) (h3 : cur.length = cap) (hl : xs.length = n) (h4 : cur.take n = nums .u8 xs) :
    Kd.R (Kd.int .u8) 5 w base (fun _ => True) (.slice (some ⟨g, 0, none⟩) n cap) xs := by
  refine ⟨fun _ _ => trivial, nums .u8 xs, ⟨?_, .inr ⟨g, cap, cur.toArray, by rw [hl], hb, hh, by omega, h2, ?_, ?_⟩⟩, ?_, ?_⟩
  · rw [nums_len]; simp [Kd.int, Kd.scalar]
  · simp [Kd.int, Kd.scalar, h3]
  · rw [hl, ← h4]; simp [Kd.int, Kd.scalar]
  · rw [nums_len]; simp [Kd.int, Kd.scalar]
  · intro j p hj
    obtain ⟨hj1, hj2⟩ := List.getElem?_eq_some_iff.1 hj
    show (List.drop (j * 1) (nums .u8 xs)).take 1 = [Value.int .u8 p]
    have h5 : j < (nums .u8 xs).length := by rw [nums_len]; exact hj1
    rw [Nat.mul_one, List.drop_eq_getElem_cons h5]
    simp [nums, hj2]
theorem splice_nums (cap n off : Nat) (cur : List Value) (xs ys : List Int) (h : cur.take n = nums .u8 xs) (hl : xs.length = n) (hc : cur.length = cap) (hn : n ≤ cap) (ho : off + ys.length ≤ n) :
    (splice cur off (nums .u8 ys)).take n = nums .u8 (splice xs off ys) := by
  have e : cur = nums .u8 xs ++ cur.drop n := by rw [← h]; exact (List.take_append_drop n cur).symm
  have h2 : (nums .u8 xs).length = n := by rw [nums_len, hl]
  have h3 : splice cur off (nums .u8 ys) = splice (nums .u8 xs) off (nums .u8 ys) ++ cur.drop n := by
    conv => lhs; rw [e]
    unfold splice
    rw [nums_len, List.take_append_of_le_length (by omega), List.drop_append_of_le_length (by omega), List.append_assoc, List.append_assoc]
  have h4 : (splice (nums .u8 xs) off (nums .u8 ys)).length = n := by rw [length_splice _ _ _ (by rw [nums_len]; omega)]; exact h2
  rw [h3, List.take_append_of_le_length (by omega), List.take_of_length_le (by omega)]
  simp [splice, nums, List.map_take, List.map_drop]
theorem SealSt.copied {w : World} {g gb m cap : Nat} {a0_0 a0_1 : Int} {bv : Value} {W W' : World} {xs ys : List Int} {cur : List Value} (h : SealSt w g gb m cap a0_0 a0_1 bv W xs) (off : Nat) (ho : off + ys.length ≤ m)
    (hc : W.heap[g]? = some (.cells cur.toArray 5 (0, 0))) (h1 : cap ≤ maxLen) (h2 : cur.length = cap) (h3 : cur.take m = nums .u8 xs)
    (hw : W'.heap[g]? = some (.cells (splice cur off (nums .u8 ys)).toArray 5 (0, 0))) (hb : Below (gb + 1) W W') (hbs : Below w.heap.size W W' ∨ w.heap.size ≤ gb + 1) : SealSt w g gb m cap a0_0 a0_1 bv W' (splice xs off ys) := by
  have hl := h.len
  have hcap := h.cap_
  refine ⟨row_of_cells hw h.le h.cap_ h1 ?_ ?_ ?_, ?_, ?_, h.le, h.lt, h.cap_⟩
  · rw [length_splice _ _ _ (by rw [nums_len]; omega)]; exact h2
  · rw [length_splice _ _ _ (by omega)]; exact hl
  · exact splice_nums cap m off cur xs ys h3 hl h2 h.cap_ ho
  · exact (hb.block gb (by omega)).trans h.blk
  · rcases hbs with hbs | hbs
    · exact h.bel.trans hbs
    · exact h.bel.trans (hb.mono hbs)
theorem src_cells {w : World} {A : Option Addr} {l : List Int} (h : Kd.C (Kd.int .u8) w A l.length l) (hp : 0 < (nums .u8 l).length) :
    ∃ ad, A = some ad ∧ ∀ j v, (nums .u8 l)[j]? = some v → w.cell? (ad.add j) = some v := by
  rw [nums_len] at hp
  obtain ⟨ad, e, _⟩ := Kd.at_int h 0 (by decide) (by omega)
  refine ⟨ad, e, fun j v hj => ?_⟩
  have hjl : j < l.length := by
    have := (List.getElem?_eq_some_iff.1 hj).1
    rwa [nums_len] at this
  obtain ⟨ad', e', hc⟩ := Kd.at_int h (j : Int) (Int.natCast_nonneg _) (by omega)
  rw [e] at e'
  injection e' with e'
  subst e'
  rw [Int.toNat_natCast] at hc
  rw [hc]
  simp only [nums, List.getElem?_map, List.getElem?_eq_getElem hjl, Option.map_some, Option.some.injEq] at hj
  rw [← hj]
  simp [rd, List.getD_eq_getElem?_getD, List.getElem?_eq_getElem hjl]
theorem SealSt.sum {w : World} {g gb m cap : Nat} {a0_0 a0_1 : Int} {bv : Value} {W : World} {xs : List Int} (h : SealSt w g gb m cap a0_0 a0_1 bv W xs) (k n : Nat) (s : Int) (hn : n ≤ m) (hs : frame_Sum.f k (xs.take n) = some s) :
    Calls Try.prog 17 #[.slice (some ⟨g, 0, none⟩) n cap] W fun e w'' => e = .returned (.int .u32 s) ∧ w'' = W := by
  have hl := h.len
  have hc := (Kd.R_reads' h.row).2.2
  have hc1 : Kd.C (Kd.int .u8) W (some ⟨g, 0, none⟩) (xs.take n).length (xs.take n) := by
    have h1 : ReadsOf (Value.int .u8) (0 : Int) W (some ⟨g, 0, none⟩) m xs := by
      have := Kd.reads_of_C (d := (0 : Int)) hc
      rwa [hl] at this
    have h2 := h1.take_ n hn
    have h3 : (xs.take n).length = n := by rw [List.length_take]; omega
    rw [h3]
    exact Kd.C_of_reads h2
  have h3 : (xs.take n).length = n := by rw [List.length_take]; omega
  have h4 := frame_Sum.still k (some ⟨g, 0, none⟩) cap (xs.take n) s W hc1 (by have := h.cap_; omega) hs
  rw [h3] at h4
  exact h4.mono (fun e w' hh => ⟨hh.1, hh.2.out.symm⟩)
theorem size5 : (Try.prog.info? 5).map (·.size) = some 1 := by kernel_rfl
set_option maxHeartbeats 8000000 in
set_option maxRecDepth 100000 in
theorem frame_Seal.good (k : Nat) (a0_0 : Int) (a0_1 : Int) (A0_2 : Option Addr) (c0_2 : Nat) (l0_2 : List Int) (m : Nat) (w : World) (p1 p2 : List Int) (s : Int) (p4 : List Int) (b2 b3 : List Int) (hr0_2 : Kd.C (Kd.int .u8) w A0_2 l0_2.length l0_2) (hc0_2 : l0_2.length ≤ c0_2)
    (h15 : 15 ≤ m) (h8 : m ≤ 8192) (hlen : l0_2.length ≤ m - 15) (h1 : frame_put.f k (List.replicate (m - 1) 0) (IntKind.u64.wrap (l0_2.length : Int)) 2 = some p1) (h2 : frame_put.f k (([a0_0] ++ p1).drop 3) a0_1 8 = some p2) (hb2 : b2 = ([a0_0] ++ p1).take 3 ++ p2) (hb3 : b3 = splice b2 11 l0_2) (hs : frame_Sum.f k (b3.take (m - 4)) = some s) (h4 : frame_put.f k (b3.drop (m - 4)) (IntKind.u64.wrap s) 4 = some p4) :
    Calls Try.prog 20 #[.agg #[.int .u8 a0_0, .int .u64 a0_1, .slice A0_2 l0_2.length c0_2], .int .i64 (m : Int)] w fun e w' => ∃ v0_ : Value, e = .returned (.tuple #[v0_, .int .i64 0]) ∧ Kd.R (Kd.int .u8) 5 w' w.heap.size (fun _ => True) v0_ (b3.take (m - 4) ++ p4) ∧ Below w.heap.size w w' := by
  have hu35 := Try.underlying35
  have HR0_2 := Aside0.mk hr0_2
  have HC0_2 := Aside0.mk hc0_2
  have H1 := Aside0.mk h1
  have H2 := Aside0.mk h2
  have HB2 := Aside0.mk hb2
  have HB3 := Aside0.mk hb3
  have HS := Aside0.mk hs
  have H4 := Aside0.mk h4
  have HLEN := Aside0.mk hlen
  have h15b := Aside0.mk h15
  have h8b := Aside0.mk h8
  have A5 : Aside0 (frame_Room.f (m : Int) = some ((m : Int) - 15)) := ⟨by
    unfold frame_Room.f
    rw [if_neg (by omega), if_neg (by omega)]
    congr 1
    unfold wrap64
    omega⟩
  clear hr0_2 hc0_2 h1 h2 hb2 hb3 hs h4 hlen
  have HB := Aside0.mk (Below.refl w.heap.size w)
  have t1 : decide ((m : Int) < 15) = false := decide_eq_false (by omega)
  have t1b : decide (m < 15) = false := decide_eq_false (by omega)
  have t2 : decide ((8192 : Int) < (m : Int)) = false := decide_eq_false (by omega)
  have t2b : decide (8192 < m) = false := decide_eq_false (by omega)
  have t3 : decide ((m : Int) - 15 < (l0_2.length : Int)) = false := decide_eq_false (by have := HLEN.out; omega)
  clear h15 h8
  go_enter Try.func20, Try.ntmps20
  go_wp2_with (first | ((with_reducible refine gate_dst (N := 2) rfl ?_); refine box_event ?hg (N := 2) ?hd (cs := #[.int .u8 a0_0, .int .u64 a0_1, .slice A0_2 l0_2.length c0_2]) (t := 35) ?hr ?_; (case hd => rfl); (case hg => rfl); (case hr => first | (go_simp; done) | (go_simp; rfl)); intro gb hg w7 hbox hb; have n0_ := Aside0.mk (below_step HB.out hb); have n1_ := Aside0.mk hbox; have n2_ := Aside0.mk ((by rw [hg]; exact (below_size HB.out) : w.heap.size ≤ gb)); clear HB; have HB := n0_; have BK := n1_; have GW := n2_; clear n0_ n1_ n2_; clear hb hbox hg))
  have hcz0 : w7.cell? ⟨gb, 0, none⟩ = some (.int .u8 a0_0) := (blk_cell BK.out 0).trans rfl
  have hcz1 : w7.cell? ⟨gb, 1, none⟩ = some (.int .u64 a0_1) := (blk_cell BK.out 1).trans rfl
  have hcz2 : w7.cell? ⟨gb, 2, none⟩ = some (.slice A0_2 l0_2.length c0_2) := (blk_cell BK.out 2).trans rfl
  go_quiet ((go_at_call 26; (with_reducible refine (frame_Room.calls (m : Int) ((m : Int) - 15) _ A5.out).mono ?_); rintro e w' ⟨rfl, ⟨nd, rfl⟩⟩; exact ⟨rfl, _, World.drewN_drewN _ _ _⟩))
  have HB := Aside0.mk (pw_below_drewN HB.out nq)
  have BK := Aside0.mk (blk_drewN BK.out nq)
  clear hcz0 hcz1 hcz2
  generalize w7.drewN nq = w8 at *
  have hm0 : (0 : Int) ≤ (m : Int) := Int.natCast_nonneg _
  have hml : ((m : Int)).toNat * 1 ≤ 281474976710656 := by have := h8b.out; omega
  go_wp2_with (first | ((with_reducible refine gate_dst (N := 21) rfl ?_); go_must (refine Kd.R_make (Kd.int .u8) w.heap.size 5 ?hg (N := 21) ?hd 23 (.tmp 20) (.tmp 20) ?ho (m : Int) ?hx ?hy Try.underlying23 (.int .u8 0) 1 info5 rfl (by decide) (by decide) 0 (ok := fun _ => True) (okp := fun _ => True) rfl (fun _ hk => hk) trivial hm0 hml (w0 := w) HB.out (below_size HB.out) ?_); (case hg => rfl); (case hd => rfl); (case ho => rfl); (case hx => rfl); (case hy => rfl); intro v1 w9 ho hb hg hnew; rw [Int.toNat_natCast] at ho; obtain ⟨g, cap, rfl, HG, hcap, HGC⟩ := row_form ho (List.length_replicate ..) (by have := h15b.out; omega); have HLT : Aside0 (gb < g) := ⟨by obtain ⟨b_, e_, l_⟩ := hnew; have e2 : g = b_ := (by simpa [Value.ownBlock] using e_); have := blk_lt BK.out; omega⟩; have HO := Aside0.mk ho; have BK2 := Aside0.mk (blk_grown BK.out hg (by simp)); have n0_ := Aside0.mk hb; clear HB BK; have HB := n0_; have BK := BK2; clear n0_ BK2 ho hb hg hnew; have hcz0 : w9.cell? ⟨gb, 0, none⟩ = some (.int .u8 a0_0) := (blk_cell BK.out 0).trans rfl; have hx := Kd.R_celln 0 HO.out 0 (by decide) (by have := h15b.out; omega); rw [show Int.toNat 0 = 0 from rfl] at hx; obtain ⟨hx0, hf0⟩ := hx; have hm15c : 0 < m := (by have := h15b.out; omega); have hm15 : decide ((0 : Int) < (m : Int)) = true := decide_eq_true (by have := h15b.out; omega); have hm15b : decide (0 < m) = true := decide_eq_true (by have := h15b.out; omega); have HP := Aside0.mk (Kd.R_putg HO.out 0 a0_0)) | ((with_reducible refine gate_store (t := 5) (p := 25) rfl ?_); go_must (refine store_event (t := 5) (p := 25) (v := ?vo_w12) (w1 := (w9.setCell ⟨g, 0, none⟩ (.int .u8 a0_0))) ?hg ?ho ?hn ?hr ?_); (case ho => rfl); (case hg => rfl); (case hn => rfl); (case hr => first | (go_simp; done) | (go_simp; rfl)); intro w10 hw; rw [Int.toNat_zero, ← hw] at HP; have HO2 := Aside0.mk HP.out.1; have HBK := Aside0.mk (blk_grown BK.out HP.out.2 (by rintro h; have := HGC.out; injection h with h; subst h; rw [BK.out] at this; simp at this)); have HB2_ := Aside0.mk (by rw [hw]; exact below_set HB.out HG.out : Below w.heap.size w w10); clear HO HB BK HP hx0 hf0 hcz0 hw HGC; have HO := HO2; have HB := HB2_; have BK := HBK; clear HO2 HB2_ HBK))
  have ST : SealSt w g gb m cap a0_0 a0_1 (.slice A0_2 l0_2.length c0_2) w10 ((List.replicate m 0).set 0 a0_0) := ⟨HO.out, BK.out, HB.out, HG.out, HLT.out, hcap⟩
  have e0 : (List.replicate m 0).set 0 a0_0 = [a0_0] ++ List.replicate (m - 1) 0 := by
    obtain ⟨q, hq⟩ : ∃ q, m = q + 1 := ⟨m - 1, by have := h15b.out; omega⟩
    rw [hq]
    rfl
  rw [e0] at ST
  clear e0 HO BK HB
  have hcz2 : w10.cell? ⟨gb, 2, none⟩ = some (.slice A0_2 l0_2.length c0_2) := (blk_cell ST.blk 2).trans rfl
  have hs1 := cut_run g m cap 1 1 rfl (by omega) (by have := h15b.out; omega) (by have := h15b.out; omega) hcap
  go_still_tail 6, (by kernel_rfl)
  change wpList _ _ _ _ _ w10.drew
  have S1 := ST.drew
  clear hcz2 hs1 ST
  generalize w10.drew = w11 at *
  go_wp2_with (go_at_call 37; go_must ((refine (S1.put k 1 _ _ (by omega) (by have := h15b.out; omega) H1.out).mono ?_); rintro e w12 ⟨rfl, S2⟩; clear S1))
  have e1 : ([a0_0] ++ List.replicate (m - 1) (0 : Int)).take 1 = [a0_0] := rfl
  rw [e1] at S2
  clear e1
  have hcz1 : w12.cell? ⟨gb, 1, none⟩ = some (.int .u64 a0_1) := (blk_cell S2.blk 1).trans rfl
  have hs1 := cut_run g m cap 3 3 rfl (by omega) (by have := h15b.out; omega) (by have := h15b.out; omega) hcap
  go_still_tail 4, (by kernel_rfl)
  change wpList _ _ _ _ _ w12.drew
  have S3 := S2.drew
  clear hcz1 hs1 S2
  generalize w12.drew = w13 at *
  go_wp2_with (go_at_call 37; go_must ((refine (S3.put k 3 _ _ (by omega) (by have := h15b.out; omega) H2.out).mono ?_); rintro e w14 ⟨rfl, S4⟩; clear S3))
  rw [← HB2.out] at S4
  have hcz2 : w14.cell? ⟨gb, 2, none⟩ = some (.slice A0_2 l0_2.length c0_2) := (blk_cell S4.blk 2).trans rfl
  have hs1 := cut_run g m cap 11 11 rfl (by omega) (by have := h15b.out; omega) (by have := h15b.out; omega) hcap
  go_still_tail 4, (by kernel_rfl)
  change wpList _ _ _ _ _ w14.drew
  have S5 := S4.drew
  clear hcz2 hs1 S4
  generalize w14.drew = w15 at *
  obtain ⟨cur, hcur, _, _, hcm, hcl, hct⟩ := row_cells S5.row
  have hsrc := fun hp => src_cells (Kd.C_below HR0_2.out S5.bel) hp
  refine wpList_copy_splice rfl (.tmp 39) (.tmp 41) 23 23 rfl 5 Try.underlying23 size5 (some ⟨g, 11, none⟩) A0_2 (m - 11) (cap - 11) l0_2.length c0_2 rfl rfl g 11 cur 5 hcur (nums .u8 l0_2) (by rw [nums_len]; exact (Nat.min_eq_left (by have := HLEN.out; have := h15b.out; omega)).symm) (fun hp => ⟨rfl, hsrc hp⟩) (by rw [nums_len]; have := HLEN.out; have := h15b.out; omega) (by intro v hv; simp only [nums, List.mem_map] at hv; obtain ⟨q, _, rfl⟩ := hv; rfl) (gb + 1) w15 (Below.refl _ _) (by have := HLT.out; omega) ?_
  intro w16 hw16 hb16
  have S6 := S5.copied 11 (by have := HLEN.out; have := h15b.out; omega) hcur hcm hcl hct hw16 hb16 (.inr (by have := GW.out; omega))
  rw [← HB3.out] at S6
  clear hsrc hcur hcm hcl hct hw16 hb16 S5
  generalize goInt (nums IntKind.u8 l0_2).length = gi
  go_wp2
  have e4 : ((m : Int) - 4) = ((m - 4 : Nat) : Int) := by have := h15b.out; omega
  have hs1 := cut_run g m cap (m - 4) ((m : Int) - 4) e4 (by have := h15b.out; omega) (by omega) (by have := h15b.out; omega) hcap
  have hs2 := take_run g m cap (m - 4) ((m : Int) - 4) e4 (by omega)
  clear e4
  refine wp_region_still_tail 8 (by kernel_rfl) (by kernel_rfl) ?_
  simp only [List.take_succ_cons, List.take_zero, List.drop_succ_cons, List.drop_zero]
  change wpStill _ _ w16.drew _ _ _
  have S7 := S6.drew
  clear S6
  still_step
  still_step
  still_step
  still_step
  still_step
  still_step
  still_call (S7.sum k (m - 4) s (by omega) HS.out)
  still_step
  refine wpStill_nil ?_
  have hm4 : 1 ≤ m - 4 := by have := h15b.out; omega
  go_wp2_with (go_at_call 37; go_must ((refine (S7.put k (m - 4) _ _ hm4 (by omega) H4.out).mono ?_); rintro e w18 ⟨rfl, S8⟩))
  go_ret2
  exact ⟨_, rfl, S8.row, S8.bel⟩
theorem frame_Seal.mono : ∀ a0 a1 a2 a3 k, LeO (frame_Seal.f k a0 a1 a2 a3) (frame_Seal.f (k + 1) a0 a1 a2 a3) := by
  intro a0 a1 a2 a3 k
  unfold frame_Seal.f
  refine LeO.ite (LeO.refl _) (LeO.ite (LeO.refl _) (LeO.ite (LeO.refl _) ?_))
  refine LeO.bind (frame_put.mono _ _ _ _) (fun p1 => ?_)
  refine LeO.bind (frame_put.mono _ _ _ _) (fun p2 => ?_)
  refine LeO.bind (frame_Sum.mono _ _) (fun s => ?_)
  refine LeO.bind (frame_put.mono _ _ _ _) (fun p4 => ?_)
  exact LeO.refl _
set_option maxHeartbeats 8000000 in
set_option maxRecDepth 100000 in
theorem frame_Seal.size (a0_0 : Int) (a0_1 : Int) (A0_2 : Option Addr) (c0_2 : Nat) (l0_2 : List Int) (a1 : Int) (w : World) (h : a1 < 15 ∨ 8192 < a1) :
    Calls Try.prog 20 #[.agg #[.int .u8 a0_0, .int .u64 a0_1, .slice A0_2 l0_2.length c0_2], .int .i64 a1] w fun e w' => e = .returned (.tuple #[.slice none 0 0, .int .i64 1]) ∧ Below w.heap.size w w' := by
  have hu35 := Try.underlying35
  by_cases h1 : a1 < 15
  · have t1 : decide (a1 < 15) = true := decide_eq_true h1
    clear h h1
    go_enter Try.func20, Try.ntmps20
    go_wp2
    go_ret2
    exact ⟨rfl, below_alloc (Below.refl _ _) _⟩
  · have t1 : decide (a1 < 15) = false := decide_eq_false h1
    have t2 : decide (8192 < a1) = true := decide_eq_true (by omega)
    clear h h1
    go_enter Try.func20, Try.ntmps20
    go_wp2
    go_ret2
    exact ⟨rfl, below_alloc (Below.refl _ _) _⟩
set_option maxHeartbeats 8000000 in
set_option maxRecDepth 100000 in
theorem frame_Seal.long (a0_0 : Int) (a0_1 : Int) (A0_2 : Option Addr) (c0_2 : Nat) (l0_2 : List Int) (a1 : Int) (w : World) (h1 : ¬ a1 < 15) (h2 : ¬ 8192 < a1) (h3 : (l0_2.length : Int) > a1 - 15) :
    Calls Try.prog 20 #[.agg #[.int .u8 a0_0, .int .u64 a0_1, .slice A0_2 l0_2.length c0_2], .int .i64 a1] w fun e w' => e = .returned (.tuple #[.slice none 0 0, .int .i64 21]) ∧ Below w.heap.size w w' := by
  have hu35 := Try.underlying35
  have t1 : decide (a1 < 15) = false := decide_eq_false h1
  have t2 : decide (8192 < a1) = false := decide_eq_false h2
  have t3 : decide (a1 - 15 < (l0_2.length : Int)) = true := decide_eq_true h3
  have A5 : Aside0 (frame_Room.f a1 = some (a1 - 15)) := ⟨by
    unfold frame_Room.f
    rw [if_neg (by omega), if_neg (by omega)]
    congr 1
    unfold wrap64
    omega⟩
  clear h1 h2 h3
  have HB := Aside0.mk (Below.refl w.heap.size w)
  go_enter Try.func20, Try.ntmps20
  go_wp2_with (first | ((with_reducible refine gate_dst (N := 2) rfl ?_); refine box_event ?hg (N := 2) ?hd (cs := #[.int .u8 a0_0, .int .u64 a0_1, .slice A0_2 l0_2.length c0_2]) (t := 35) ?hr ?_; (case hd => rfl); (case hg => rfl); (case hr => first | (go_simp; done) | (go_simp; rfl)); intro gb hg w7 hbox hb; have n0_ := Aside0.mk (below_step HB.out hb); have n1_ := Aside0.mk hbox; have n2_ := Aside0.mk ((by rw [hg]; exact (below_size HB.out) : w.heap.size ≤ gb)); clear HB; have HB := n0_; have BK := n1_; have GW := n2_; clear n0_ n1_ n2_; clear hb hbox hg))
  have hcz2 : w7.cell? ⟨gb, 2, none⟩ = some (.slice A0_2 l0_2.length c0_2) := (blk_cell BK.out 2).trans rfl
  go_quiet ((go_at_call 26; (with_reducible refine (frame_Room.calls a1 (a1 - 15) _ A5.out).mono ?_); rintro e w' ⟨rfl, ⟨nd, rfl⟩⟩; exact ⟨rfl, _, World.drewN_drewN _ _ _⟩))
  go_wp2
  go_ret2
  exact ⟨rfl, pw_below_drewN HB.out _⟩
theorem frame_Seal.calls (k : Nat) (a0_0 : Int) (a0_1 : Int) (A0_2 : Option Addr) (c0_2 : Nat) (l0_2 : List Int) (a1 : Int) (r1 : List Int) (r2 : Int) (w : World) (hr0_2 : Kd.C (Kd.int .u8) w A0_2 l0_2.length l0_2) (hc0_2 : l0_2.length ≤ c0_2) (h : frame_Seal.f k a0_0 a0_1 l0_2 a1 = some (r1, r2)) :
    Calls Try.prog 20 #[.agg #[.int .u8 a0_0, .int .u64 a0_1, .slice A0_2 l0_2.length c0_2], .int .i64 a1] w fun e w' => ∃ v0_ : Value, e = .returned (.tuple #[v0_, .int .i64 r2]) ∧ Kd.R (Kd.int .u8) 5 w' w.heap.size (fun _ => True) v0_ r1 ∧ Below w.heap.size w w' := by
  unfold frame_Seal.f at h
  by_cases h1 : a1 < 15
  · rw [if_pos h1] at h
    simp only [Option.some.injEq, Prod.mk.injEq] at h
    obtain ⟨rfl, rfl⟩ := h
    exact (frame_Seal.size _ _ _ _ _ _ w (.inl h1)).mono fun e w' ⟨he, hb⟩ => ⟨_, he, Kd.R_nil _ _ _ _ _, hb⟩
  rw [if_neg h1] at h
  by_cases h2 : a1 > 8192
  · rw [if_pos h2] at h
    simp only [Option.some.injEq, Prod.mk.injEq] at h
    obtain ⟨rfl, rfl⟩ := h
    exact (frame_Seal.size _ _ _ _ _ _ w (.inr h2)).mono fun e w' ⟨he, hb⟩ => ⟨_, he, Kd.R_nil _ _ _ _ _, hb⟩
  rw [if_neg h2] at h
  by_cases h3 : (l0_2.length : Int) > a1 - 15
  · rw [if_pos h3] at h
    simp only [Option.some.injEq, Prod.mk.injEq] at h
    obtain ⟨rfl, rfl⟩ := h
    exact (frame_Seal.long _ _ _ _ _ _ w h1 h2 h3).mono fun e w' ⟨he, hb⟩ => ⟨_, he, Kd.R_nil _ _ _ _ _, hb⟩
  rw [if_neg h3] at h
  obtain ⟨p1, e1, h⟩ := Option.bind_eq_some_iff.1 h
  obtain ⟨p2, e2, h⟩ := Option.bind_eq_some_iff.1 h
  obtain ⟨s, es, h⟩ := Option.bind_eq_some_iff.1 h
  obtain ⟨p4, e4, h⟩ := Option.bind_eq_some_iff.1 h
  simp only [Option.some.injEq, Prod.mk.injEq] at h
  obtain ⟨rfl, rfl⟩ := h
  obtain ⟨m, rfl⟩ := Int.eq_ofNat_of_zero_le (show 0 ≤ a1 by omega)
  rw [Int.toNat_natCast] at *
  exact frame_Seal.good k a0_0 a0_1 A0_2 c0_2 l0_2 m w p1 p2 s p4 _ _ hr0_2 hc0_2 (by omega) (by omega) (by omega) e1 e2 rfl rfl es e4

/-! ### arborref2_turn: function 36 -/
def arborref2_turn.f (a0 : Int) (a1 : Int) : Option (Int) := if (Int.tmod a0 2) = a1 then (some ((Int.tdiv a0 2) % 4294967296)) else (some (Go.bits .xor .u32 ((Int.tdiv a0 2) % 4294967296) 3988292384))
set_option maxHeartbeats 8000000 in
set_option maxRecDepth 100000 in
theorem arborref2_turn.calls (a0 : Int) (a1 : Int) (r : Int) (w : World) (h : arborref2_turn.f a0 a1 = some r) :
    Calls Try.prog 36 #[.int .u32 a0, .int .u32 a1] w fun e w' => e = .returned (.int .u32 r) ∧ Drawn0 w w' := by
  have H : (if (Int.tmod a0 2) = a1 then (some ((Int.tdiv a0 2) % 4294967296)) else (some (Go.bits .xor .u32 ((Int.tdiv a0 2) % 4294967296) 3988292384))) = some r := h
  clear h
  by_cases c3 : (Int.tmod a0 2) = a1
  · rw [if_pos c3] at H
    have c3b0 : ((Int.tmod a0 2) == a1) = true := beq_iff_eq.mpr c3
    have c3b1 : ((Int.tmod a0 2) != a1) = false := bne_eq_false_iff_eq.mpr c3
    clear c3
    obtain rfl := Option.some.inj H
    go_enter Try.func36, Try.ntmps36
    go_wp2
    go_ret
    exact ⟨by first | rfl | (simp; done) | (simp [*]; done), by repeat (first | exact Drawn0.refl _ | apply Drawn0.step)⟩
  · rw [if_neg c3] at H
    have c3b0 : ((Int.tmod a0 2) == a1) = false := beq_eq_false_iff_ne.mpr c3
    have c3b1 : ((Int.tmod a0 2) != a1) = true := bne_iff_ne.mpr c3
    obtain rfl := Option.some.inj H
    go_enter Try.func36, Try.ntmps36
    go_wp2
    go_ret
    exact ⟨by first | rfl | (simp; done) | (simp [*]; done), by repeat (first | exact Drawn0.refl _ | apply Drawn0.step)⟩

/-! ### arborref2_Extend: function 16 -/
mutual
def arborref2_Extend.l0 : Nat → List Int → Int → Int → Option (Int)
  | 0, _, _, _ => none
  | k + 1, x1, x5, x6 => if x6 < (x1.length : Int) then (if 0 ≤ x6 then (arborref2_Extend.l1 k x1 x5 x6 ((rd x1 x6) % 4294967296) 0) else (none)) else (some (Go.bits .xor .u32 4294967295 x5))
def arborref2_Extend.l1 : Nat → List Int → Int → Int → Int → Int → Option (Int)
  | 0, _, _, _, _, _ => none
  | k + 1, x1, x5, x6, x7, x8 => if x8 < 8 then ((arborref2_turn.f x5 (Int.tmod x7 2)).bind fun t108 => (arborref2_Extend.l1 k x1 t108 x6 ((Int.tdiv x7 2) % 4294967296) (wrap64 (x8 + 1)))) else (arborref2_Extend.l0 k x1 x5 (wrap64 (x6 + 1)))
end
def arborref2_Extend.f (k : Nat) (a0 : Int) (l1 : List Int) : Option (Int) := arborref2_Extend.l0 k l1 (Go.bits .xor .u32 4294967295 a0) 0
theorem arborref2_Extend.mono_l : ∀ k, (∀ y0 y1 y2, LeO (arborref2_Extend.l0 k y0 y1 y2) (arborref2_Extend.l0 (k + 1) y0 y1 y2)) ∧ (∀ y0 y1 y2 y3 y4, LeO (arborref2_Extend.l1 k y0 y1 y2 y3 y4) (arborref2_Extend.l1 (k + 1) y0 y1 y2 y3 y4))
  | 0 => ⟨fun _ _ _ r h => by simp [arborref2_Extend.l0] at h, fun _ _ _ _ _ r h => by simp [arborref2_Extend.l1] at h⟩
  | k + 1 => by
    obtain ⟨ih0, ih1⟩ := arborref2_Extend.mono_l k
    refine ⟨?_, ?_⟩
    · intro y0 y1 y2
      unfold arborref2_Extend.l0
      repeat' first
      | (with_reducible exact ih0 _ _ _)
      | (with_reducible exact ih1 _ _ _ _ _)
      | (with_reducible exact LeO.refl _)
      | (with_reducible exact LeO.none _)
      | (with_reducible refine LeO.ite ?_ ?_)
      | (with_reducible refine LeO.bind ?_ (fun _ => ?_))
      | exact ih0 _ _ _
      | exact ih1 _ _ _ _ _
      | exact LeO.none _
      | refine LeO.ite ?_ ?_
      | refine LeO.bind ?_ (fun _ => ?_)
    · intro y0 y1 y2 y3 y4
      unfold arborref2_Extend.l1
      repeat' first
      | (with_reducible exact ih0 _ _ _)
      | (with_reducible exact ih1 _ _ _ _ _)
      | (with_reducible exact LeO.refl _)
      | (with_reducible exact LeO.none _)
      | (with_reducible refine LeO.ite ?_ ?_)
      | (with_reducible refine LeO.bind ?_ (fun _ => ?_))
      | exact ih0 _ _ _
      | exact ih1 _ _ _ _ _
      | exact LeO.none _
      | refine LeO.ite ?_ ?_
      | refine LeO.bind ?_ (fun _ => ?_)
theorem arborref2_Extend.mono : ∀ a0 a1 k, LeO (arborref2_Extend.f k a0 a1) (arborref2_Extend.f (k + 1) a0 a1) := by
  intro a0 a1 k
  obtain ⟨ih0, ih1⟩ := arborref2_Extend.mono_l k
  unfold arborref2_Extend.f
  repeat' first
      | (with_reducible exact ih0 _ _ _)
      | (with_reducible exact ih1 _ _ _ _ _)
      | (with_reducible exact LeO.refl _)
      | (with_reducible exact LeO.none _)
      | (with_reducible refine LeO.ite ?_ ?_)
      | (with_reducible refine LeO.bind ?_ (fun _ => ?_))
      | exact ih0 _ _ _
      | exact ih1 _ _ _ _ _
      | exact LeO.none _
      | refine LeO.ite ?_ ?_
      | refine LeO.bind ?_ (fun _ => ?_)
set_option maxHeartbeats 8000000 in
set_option maxRecDepth 100000 in
theorem arborref2_Extend.calls (k : Nat) (a0 : Int) (A1 : Option Addr) (c1 : Nat) (l1 : List Int) (r : Int) (w : World) (hr1 : Kd.C (Kd.int .u8) w A1 l1.length l1) (hc1 : l1.length ≤ c1) (h : arborref2_Extend.f k a0 l1 = some r) :
    Calls Try.prog 16 #[.int .u32 a0, .slice A1 l1.length c1] w fun e w' => e = .returned (.int .u32 r) ∧ Drawn0 w w' := by
  have HR1 := Aside0.mk hr1
  have HC1 := Aside0.mk hc1
  clear hr1 hc1
  have H : (arborref2_Extend.l0 k l1 (Go.bits .xor .u32 4294967295 a0) 0) = some r := h
  clear h
  have H' := Aside0.mk H
  clear H
  go_enter Try.func16, Try.ntmps16
  go_wp2
  go_loopg [5, 6] k (fun kq v5 v6 w' => ∃ (x5_1 : Int) (x6_1 : Int), v5 = .int .u32 x5_1 ∧ v6 = .int .i64 x6_1 ∧ Aside0 (arborref2_Extend.l0 kq l1 x5_1 x6_1 = some r) ∧ Aside0 (kq ≤ k) ∧ Drawn0 w w')
  case atStart => exact ⟨(Go.bits .xor .u32 4294967295 a0), (0), (by first | rfl | (simp; done) | (simp [*]; done)), (by first | rfl | (simp; done) | (simp [*]; done)), H', ⟨Nat.le_refl _⟩, by repeat (first | exact Drawn0.refl _ | apply Drawn0.step)⟩
  case round =>
    clear H'
    try clear c1
    try clear p2
    obtain ⟨x5_1, x6_1, rfl, rfl, HA, HK1, ⟨m1, rfl⟩⟩ := hrel
    cases gk with
    | zero => exact absurd HA.out (by simp [arborref2_Extend.l0])
    | succ k1 =>
      have H := HA.out
      clear HA
      simp only [arborref2_Extend.l0] at H
      by_cases c3 : x6_1 < (l1.length : Int)
      · rw [if_pos c3] at H
        have c3b0 : decide (x6_1 < (l1.length : Int)) = true := decide_eq_true c3
        clear c3
        by_cases c4 : 0 ≤ x6_1
        · rw [if_pos c4] at H
          have c4b0 : decide (0 ≤ x6_1) = true := decide_eq_true c4
          clear c4
          have H' := Aside0.mk H
          clear H
          have p107 : 0 ≤ (x6_1 : Int) := of_decide_eq_true (by first | (with_reducible assumption) | assumption)
          have q107 : x6_1 < (l1.length : Int) := of_decide_eq_true (by first | (with_reducible assumption) | assumption)
          obtain ⟨ad107, e107, hx107_0⟩ := Kd.at_int HR1.out x6_1 p107 q107
          cases e107
          replace p107 := eq_true p107
          replace q107 := eq_true q107
          go_wp2
          go_loopg [5, 7, 8] k1 (fun kq v5 v7 v8 w' => ∃ (x5_2 : Int) (x7_2 : Int) (x8_2 : Int), v5 = .int .u32 x5_2 ∧ v7 = .int .u32 x7_2 ∧ v8 = .int .i64 x8_2 ∧ Aside0 (arborref2_Extend.l1 kq l1 x5_2 x6_1 x7_2 x8_2 = some r) ∧ Aside0 (kq ≤ k1) ∧ Drawn0 w w')
          case atStart => exact ⟨(x5_1), ((rd l1 x6_1) % 4294967296), (0), (by first | rfl | (simp; done) | (simp [*]; done)), (by first | rfl | (simp; done) | (simp [*]; done)), (by first | rfl | (simp; done) | (simp [*]; done)), H', ⟨Nat.le_refl _⟩, by repeat (first | exact Drawn0.refl _ | apply Drawn0.step)⟩
          case round =>
            clear H'
            try clear c1
            try clear p1
            try clear q1
            try clear hx1
            try clear p2
            try clear c3
            try clear c3b0
            try clear c4
            try clear c4b0
            try clear hx107_0
            try clear p107
            try clear p2
            try clear q107
            obtain ⟨x5_2, x7_2, x8_2, rfl, rfl, rfl, HA, HK2, ⟨m2, rfl⟩⟩ := hrel
            cases gk with
            | zero => exact absurd HA.out (by simp [arborref2_Extend.l1])
            | succ k2 =>
              have H := HA.out
              clear HA
              simp only [arborref2_Extend.l1] at H
              by_cases c5 : x8_2 < 8
              · rw [if_pos c5] at H
                have c5b0 : decide (x8_2 < 8) = true := decide_eq_true c5
                clear c5
                replace H := Option.bind_eq_some_iff.mp H
                obtain ⟨t108, A60, H⟩ := H
                replace H : (arborref2_Extend.l1 k2 l1 t108 x6_1 ((Int.tdiv x7_2 2) % 4294967296) (wrap64 (x8_2 + 1))) = some r := H
                have A6 := Aside0.mk A60
                clear A60
                have H' := Aside0.mk H
                clear H
                go_wp2_with (first | ((with_reducible refine gate_callee (f := 36) rfl ?_); refine goesL_ (some 29) rfl rfl Try.func36 (by kernel_rfl) rfl #[.int .u32 x5_2, .int .u32 (Int.tmod x7_2 2)] rfl (by (try simp only [List.map_toArray, List.map_cons, List.map_nil]); first | done | rfl | (simp only [List.length_drop, List.length_take]; rfl)) ?_; (with_reducible refine (arborref2_turn.calls x5_2 (Int.tmod x7_2 2) t108 _ A6.out).mono ?_); rintro e w' ⟨rfl, ⟨nd, rfl⟩⟩; refine ⟨_, rfl, ?_⟩))
                go_roundg k2
                case measure => have := HK1.out; have := HK2.out; omega
                case rel => exact ⟨(t108), ((Int.tdiv x7_2 2) % 4294967296), (wrap64 (x8_2 + 1)), (by first | rfl | (simp; done) | (simp [*]; done)), (by first | rfl | (simp; done) | (simp [*]; done)), (by first | rfl | (simp; done) | (simp [*]; done)), H', ⟨by have := HK1.out; have := HK2.out; omega⟩, by repeat (first | exact Drawn0.refl _ | apply Drawn0.step)⟩
              · rw [if_neg c5] at H
                have c5b0 : decide (x8_2 < 8) = false := decide_eq_false c5
                clear c5
                have H' := Aside0.mk H
                clear H
                go_wp2
                go_roundg k2
                case measure => have := HK1.out; have := HK2.out; omega
                case rel => exact ⟨(x5_2), (wrap64 (x6_1 + 1)), (by first | rfl | (simp; done) | (simp [*]; done)), (by first | rfl | (simp; done) | (simp [*]; done)), H', ⟨by have := HK1.out; have := HK2.out; omega⟩, by repeat (first | exact Drawn0.refl _ | apply Drawn0.step)⟩
        · rw [if_neg c4] at H
          exact absurd H (by simp)
      · rw [if_neg c3] at H
        have c3b0 : decide (x6_1 < (l1.length : Int)) = false := decide_eq_false c3
        clear c3
        obtain rfl := Option.some.inj H
        go_wp2
        go_ret
        exact ⟨by first | rfl | (simp; done) | (simp [*]; done), by repeat (first | exact Drawn0.refl _ | apply Drawn0.step)⟩

/-! ### arborref2_Sum: function 18 -/
def arborref2_Sum.f (k : Nat) (l0 : List Int) : Option (Int) := (arborref2_Extend.f k 0 l0).bind fun t109 => (some t109)
theorem arborref2_Sum.mono : ∀ a0 k, LeO (arborref2_Sum.f k a0) (arborref2_Sum.f (k + 1) a0) := by
  intro a0 k
  unfold arborref2_Sum.f
  repeat' first
      | (with_reducible exact arborref2_Extend.mono _ _ _)
      | (with_reducible exact LeO.refl _)
      | (with_reducible exact LeO.none _)
      | (with_reducible refine LeO.ite ?_ ?_)
      | (with_reducible refine LeO.bind ?_ (fun _ => ?_))
      | exact arborref2_Extend.mono _ _ _
      | exact LeO.none _
      | refine LeO.ite ?_ ?_
      | refine LeO.bind ?_ (fun _ => ?_)
set_option maxHeartbeats 8000000 in
set_option maxRecDepth 100000 in
theorem arborref2_Sum.calls (k : Nat) (A0 : Option Addr) (c0 : Nat) (l0 : List Int) (r : Int) (w : World) (hr0 : Kd.C (Kd.int .u8) w A0 l0.length l0) (hc0 : l0.length ≤ c0) (h : arborref2_Sum.f k l0 = some r) :
    Calls Try.prog 18 #[.slice A0 l0.length c0] w fun e w' => e = .returned (.int .u32 r) ∧ Drawn0 w w' := by
  have HR0 := Aside0.mk hr0
  have HC0 := Aside0.mk hc0
  clear hr0 hc0
  have H : ((arborref2_Extend.f k 0 l0).bind fun t109 => (some t109)) = some r := h
  clear h
  replace H := Option.bind_eq_some_iff.mp H
  obtain ⟨t109, A20, H⟩ := H
  replace H : (some t109) = some r := H
  have A2 := Aside0.mk A20
  clear A20
  obtain rfl := Option.some.inj H
  go_enter Try.func18, Try.ntmps18
  go_wp2_with (first | ((with_reducible refine gate_callee (f := 16) rfl ?_); refine goesL_ (some 4) rfl rfl Try.func16 (by kernel_rfl) rfl #[.int .u32 0, .slice A0 l0.length c0] rfl (by (try simp only [List.map_toArray, List.map_cons, List.map_nil]); first | done | rfl | (simp only [List.length_drop, List.length_take]; rfl)) ?_; (with_reducible refine (arborref2_Extend.calls k 0 _ _ l0 t109 _ ?side1 ?side2 A2.out).mono ?_); (case side1 => repeat (first | exact HR0.out | (with_reducible refine Kd.C_alloc ?_ _) | (with_reducible refine Kd.C_drewN ?_ _) | (with_reducible refine Kd.C_drew ?_))); (case side2 => exact HC0.out); rintro e w' ⟨rfl, ⟨nd, rfl⟩⟩; refine ⟨_, rfl, ?_⟩))
  go_ret
  exact ⟨by first | rfl | (simp; done) | (simp [*]; done), by repeat (first | exact Drawn0.refl _ | apply Drawn0.step)⟩

/-! ### arborref2_IsSize: function 28 -/
def arborref2_IsSize.f (a0 : Int) : Option (Bool) := if a0 ≥ 15 then (some (decide (a0 ≤ 8192))) else (some false)
set_option maxHeartbeats 8000000 in
set_option maxRecDepth 100000 in
theorem arborref2_IsSize.calls (a0 : Int) (r : Bool) (w : World) (h : arborref2_IsSize.f a0 = some r) :
    Calls Try.prog 28 #[.int .i64 a0] w fun e w' => e = .returned (.bool r) ∧ Drawn0 w w' := by
  have H : (if a0 ≥ 15 then (some (decide (a0 ≤ 8192))) else (some false)) = some r := h
  clear h
  by_cases c2 : a0 ≥ 15
  · rw [if_pos c2] at H
    have c2b0 : decide (15 ≤ a0) = true := decide_eq_true c2
    clear c2
    obtain rfl := Option.some.inj H
    go_enter Try.func28, Try.ntmps28
    go_wp2
    go_ret
    exact ⟨by first | rfl | (simp; done) | (simp [*]; done), by repeat (first | exact Drawn0.refl _ | apply Drawn0.step)⟩
  · rw [if_neg c2] at H
    have c2b0 : decide (15 ≤ a0) = false := decide_eq_false c2
    clear c2
    obtain rfl := Option.some.inj H
    go_enter Try.func28, Try.ntmps28
    go_wp2
    go_ret
    exact ⟨by first | rfl | (simp; done) | (simp [*]; done), by repeat (first | exact Drawn0.refl _ | apply Drawn0.step)⟩

/-! ### arborref2_Room: function 27 -/
def arborref2_Room.f (a0 : Int) : Option (Int) := (arborref2_IsSize.f a0).bind fun t110 => (if t110 = true then (some (wrap64 ((wrap64 (a0 - 11)) - 4))) else (some 0))
set_option maxHeartbeats 8000000 in
set_option maxRecDepth 100000 in
theorem arborref2_Room.calls (a0 : Int) (r : Int) (w : World) (h : arborref2_Room.f a0 = some r) :
    Calls Try.prog 27 #[.int .i64 a0] w fun e w' => e = .returned (.int .i64 r) ∧ Drawn0 w w' := by
  have H : ((arborref2_IsSize.f a0).bind fun t110 => (if t110 = true then (some (wrap64 ((wrap64 (a0 - 11)) - 4))) else (some 0))) = some r := h
  clear h
  replace H := Option.bind_eq_some_iff.mp H
  obtain ⟨t110, A20, H⟩ := H
  replace H : (if t110 = true then (some (wrap64 ((wrap64 (a0 - 11)) - 4))) else (some 0)) = some r := H
  have A2 := Aside0.mk A20
  clear A20
  by_cases c3 : t110 = true
  · subst c3
    have H1 : (some (wrap64 ((wrap64 (a0 - 11)) - 4))) = some r := by rw [if_pos rfl] at H; exact H
    clear H
    have H := H1
    clear H1
    obtain rfl := Option.some.inj H
    go_enter Try.func27, Try.ntmps27
    go_wp2_with (first | ((with_reducible refine gate_callee (f := 28) rfl ?_); refine goesL_ (some 4) rfl rfl Try.func28 (by kernel_rfl) rfl #[.int .i64 a0] rfl (by (try simp only [List.map_toArray, List.map_cons, List.map_nil]); first | done | rfl | (simp only [List.length_drop, List.length_take]; rfl)) ?_; (with_reducible refine (arborref2_IsSize.calls a0 true _ A2.out).mono ?_); rintro e w' ⟨rfl, ⟨nd, rfl⟩⟩; refine ⟨_, rfl, ?_⟩))
    go_ret
    exact ⟨by first | rfl | (simp; done) | (simp [*]; done), by repeat (first | exact Drawn0.refl _ | apply Drawn0.step)⟩
  · replace c3 := Bool.eq_false_iff.mpr c3
    subst c3
    have H1 : (some 0) = some r := by rw [if_neg (show ¬ (false = true) by decide)] at H; exact H
    clear H
    have H := H1
    clear H1
    obtain rfl := Option.some.inj H
    go_enter Try.func27, Try.ntmps27
    go_wp2_with (first | ((with_reducible refine gate_callee (f := 28) rfl ?_); refine goesL_ (some 4) rfl rfl Try.func28 (by kernel_rfl) rfl #[.int .i64 a0] rfl (by (try simp only [List.map_toArray, List.map_cons, List.map_nil]); first | done | rfl | (simp only [List.length_drop, List.length_take]; rfl)) ?_; (with_reducible refine (arborref2_IsSize.calls a0 false _ A2.out).mono ?_); rintro e w' ⟨rfl, ⟨nd, rfl⟩⟩; refine ⟨_, rfl, ?_⟩))
    go_ret
    exact ⟨by first | rfl | (simp; done) | (simp [*]; done), by repeat (first | exact Drawn0.refl _ | apply Drawn0.step)⟩

end Go.Proofs.Ythggjlfiliggjaa.QFr
