/- By hand: spare (a copy with eight marks behind it), fill, hold. -/
import Derived.Test.YthggjlfiliggjaaFrLaws
namespace Go.Proofs.Ythggjlfiliggjaa.Own
open Go.RowKit Go.Proofs.Ythggjlfiliggjaa.QFr Go.Proofs.YthggjlfiliggjaaW.PrintWords Go.Proofs.YthggjlfiliggjaaW.PrintLast Go.Proofs.YthggjlfiliggjaaW.PrintMore Go.Proofs.Ythggjlfiliggjaa.Crc Go.Proofs.Ythggjlfiliggjaa.QFrExt Go.Proofs.Ythggjlfiliggjaa.FrPure Go.Proofs.Ythggjlfiliggjaa.FrLaws
set_option linter.unusedVariables false
set_option linter.unusedSimpArgs false

theorem set_marks (xs : List Int) (i n : Nat) (m : Int) (h : xs.length = n) (hi : i < n) (hx : xs.take i = List.replicate i m) : (xs.set i m).take (i + 1) = List.replicate (i + 1) m := by
  rw [List.take_succ_eq_append_getElem (by rw [List.length_set]; omega), List.take_set_of_le (by omega), hx, List.getElem_set_self, List.replicate_succ']
set_option maxHeartbeats 8000000 in
set_option maxRecDepth 100000 in
theorem spare (A : Option Addr) (c : Nat) (l : List Int) (w : World) (hC : Kd.C (Kd.int .u8) w A l.length l) (hc : l.length ≤ c) (hl : l.length ≤ 4194304) :
    Calls Try.prog 30 #[.slice A l.length c] w fun e w' => ∃ (g cap : Nat), e = .returned (.tuple #[.slice (some ⟨g, 0, none⟩) l.length cap, .slice (some ⟨g, 0, none⟩) (l.length + 8) cap]) ∧
      Kd.R (Kd.int .u8) 5 w' w.heap.size (fun k => k = g) (.slice (some ⟨g, 0, none⟩) (l.length + 8) cap) (l ++ List.replicate 8 165) ∧ l.length + 8 ≤ cap ∧ w.heap.size ≤ g ∧ Below w.heap.size w w' := by
  obtain ⟨n, hn⟩ : ∃ n, n = l.length := ⟨_, rfl⟩
  rw [← hn]
  have HN := Aside0.mk hn
  rw [← hn] at hc hl
  have HC := Aside0.mk hC
  have HB := Aside0.mk (Below.refl w.heap.size w)
  have hml : ((n : Int) + 8).toNat * 1 ≤ 281474976710656 := by omega
  have hm0 : (0 : Int) ≤ (n : Int) + 8 := by omega
  clear hn hC
  go_enter Try.func30, Try.ntmps30
  go_wp2_with ((with_reducible refine gate_dst (N := 9) rfl ?_); go_must (refine Kd.R_make (Kd.int .u8) w.heap.size 5 ?hg (N := 9) ?hd 23 (.tmp 8) (.tmp 8) ?ho ((n : Int) + 8) ?hx ?hy Try.underlying23 (.int .u8 0) 1 info5 rfl (by decide) (by decide) 0 (ok := fun _ => True) (okp := fun _ => True) rfl (fun _ hk => hk) trivial hm0 hml (w0 := w) (by repeat (first | exact HB.out | apply pw_below_drewN)) (by simp) ?_); (case hg => rfl); (case hd => rfl); (case ho => rfl); (case hx => rfl); (case hy => rfl); intro v1 w9 ho hb hg hnew; rw [show ((n : Int) + 8).toNat = n + 8 from by omega] at ho; obtain ⟨g, cap, rfl, HG, hcap, HGC⟩ := row_form ho (List.length_replicate ..) (by omega); have HO := Aside0.mk ho; have HB2 := Aside0.mk hb; clear HB HGC ho hb hg hnew; have HB := HB2; clear HB2)
  go_loopg [5] (n + 9) (fun kq v5 w' => ∃ (i : Nat) (xs : List Int), v5 = .int .i64 (i : Int) ∧ Aside0 (i ≤ n + 8) ∧ Aside0 (i + kq = n + 9) ∧ Aside0 (xs.length = n + 8) ∧ Aside0 (xs.take i = List.replicate i 165) ∧ Aside0 (Kd.R (Kd.int .u8) 5 w' w.heap.size (fun _ => True) (.slice (some ⟨g, 0, none⟩) (n + 8) cap) xs) ∧ Aside0 (Below w.heap.size w w'))
  case atStart => exact ⟨0, List.replicate (n + 8) 0, rfl, ⟨by omega⟩, ⟨by omega⟩, ⟨List.length_replicate ..⟩, ⟨rfl⟩, HO, HB⟩
  case round =>
    obtain ⟨i, xs, rfl, HI, HIK, HXL, HXM, HOX, HBX⟩ := hrel
    clear HO HB
    by_cases hi : i < n + 8
    · have hi2 : (i : Int) < (n : Int) + 8 := by omega
      have hi3 : decide ((i : Int) < ((n + 8 : Nat) : Int)) = true := decide_eq_true (by omega)
      have hi4 : decide (i < n + 8) = true := decide_eq_true hi
      have HI2 := Aside0.mk hi
      obtain ⟨hx0, hf0⟩ := Kd.R_celln 0 HOX.out (i : Int) (Int.natCast_nonneg _) (by omega)
      have HP := Aside0.mk (Kd.R_putg HOX.out (i : Int) 165)
      rw [Int.toNat_natCast] at hx0 hf0 HP
      go_wp2_with ((with_reducible refine gate_store (t := 5) (p := 18) rfl ?_); go_must (refine store_event (t := 5) (p := 18) (v := ?vo_w12) (w1 := (wr.setCell ⟨g, i, none⟩ (.int .u8 165))) ?hg ?ho ?hn ?hr ?_); (case ho => rfl); (case hg => rfl); (case hn => rfl); (case hr => first | (go_simp; done) | (go_simp; rfl)); intro w12 hw; rw [← hw] at HP; have HB3 := Aside0.mk (by rw [hw]; exact below_set HBX.out HG.out : Below w.heap.size w w12); clear hw HOX HBX hx0 hf0)
      go_roundg (n + 8 - i)
      case measure => have := HIK.out; have := HI2.out; omega
      case rel => exact ⟨i + 1, _, by go_num, ⟨by have := HI2.out; omega⟩, ⟨by have := HI2.out; omega⟩, ⟨by rw [List.length_set]; exact HXL.out⟩, ⟨set_marks xs i (n + 8) 165 HXL.out HI2.out HXM.out⟩, ⟨HP.out.1⟩, HB3⟩
    · have hi1 : i = n + 8 := by have := HI.out; omega
      subst hi1
      have hi3 : decide (((n + 8 : Nat) : Int) < ((n + 8 : Nat) : Int)) = false := decide_eq_false (by omega)
      clear hi HI HIK
      obtain rfl : xs = List.replicate (n + 8) 165 := by have h := HXM.out; rwa [List.take_of_length_le (by have := HXL.out; omega)] at h
      have hs1 := take_run g (n + 8) cap n (n : Int) rfl (by omega)
      have hsrc := fun hp => src_cells (Kd.C_below HC.out HBX.out) hp
      have HSRC := Aside0.mk hsrc
      clear hsrc
      go_wp2_with ((with_reducible refine gate_dst (N := 21) rfl ?_); go_must (obtain ⟨cur, hcur, hgb, hmc, hcm, hcl, hct⟩ := row_cells HOX.out; refine wpList_copy_splice rfl (.tmp 19) (.tmp 20) 23 23 rfl 5 Try.underlying23 size5 (some ⟨g, 0, none⟩) A (n + 8) cap n c rfl rfl g 0 cur 5 hcur (nums .u8 l) (by rw [nums_len, ← HN.out]; exact (Nat.min_eq_left (by omega)).symm) (fun hp => ⟨rfl, HSRC.out hp⟩) (by rw [nums_len, ← HN.out]; omega) (by intro v hv; simp only [nums, List.mem_map] at hv; obtain ⟨q, _, rfl⟩ := hv; rfl) w.heap.size w HBX.out HG.out ?_; intro w16 hw16 hb16; have ROW := row_of_cells (xs := splice (List.replicate (n + 8) (165 : Int)) 0 l) hw16 HG.out hcap hcm (by rw [length_splice _ _ _ (by rw [nums_len, ← HN.out]; omega)]; exact hcl) (by rw [length_splice _ _ _ (by rw [List.length_replicate, ← HN.out]; omega), List.length_replicate]) (splice_nums cap (n + 8) 0 cur _ l hct (by simp) hcl hmc (by rw [← HN.out]; omega)); have HROW := Aside0.mk ROW; have HB16 := Aside0.mk hb16; clear hcur hgb hmc hcm hcl hct hw16 hb16 ROW HOX HBX HSRC))
      have hap : splice (List.replicate (n + 8) (165 : Int)) 0 l = l ++ List.replicate 8 165 := by
        unfold splice
        rw [List.take_zero, List.nil_append, Nat.zero_add, List.drop_replicate, ← HN.out, Nat.add_sub_cancel_left]
      go_ret2
      refine ⟨g, cap, rfl, ?_, hcap, HG.out, HB16.out⟩
      rw [← hap]
      exact Kd.R_mono (Kd.R_tight rfl HROW.out) (fun k hk => by simpa [Value.ownBlock] using hk)
theorem set_all (xs : List Int) (m : Int) (n : Nat) (h : xs.length = n) (hx : xs.take n = List.replicate n m) : xs = List.replicate n m := by rwa [List.take_of_length_le (by omega)] at hx
theorem tight_kept {W W1 W2 : World} {g n c : Nat} (HK : Kept W W1 (fun k => some k = (Value.slice (some ⟨g, 0, none⟩) n c).ownBlock)) (hg : W1.grownBy W2 (some g)) : Kept W W2 (fun k => some k = (Value.slice (some ⟨g, 0, none⟩) n c).ownBlock) :=
  Kept.of_grown hg HK (fun k hk => .inl hk.symm)
set_option maxHeartbeats 8000000 in
set_option maxRecDepth 100000 in
theorem fill (P : Nat → Prop) (v : Value) (xs0 : List Int) (m : Int) (w0 w : World) (hB : Below w0.heap.size w0 w) (hR : Kd.R (Kd.int .u8) 5 w w0.heap.size P v xs0) (hl : xs0.length ≤ 8388608) :
    Calls Try.prog 34 #[v, .int .u8 m] w fun e w' => e = .returned (.tuple #[]) ∧ Kd.R (Kd.int .u8) 5 w' w0.heap.size P v (List.replicate xs0.length m) ∧ Kept w w' (fun k => some k = v.ownBlock) ∧ Below w0.heap.size w0 w' := by
  obtain ⟨A, c, rfl⟩ := Kd.R_slice hR
  obtain ⟨n, hn⟩ : ∃ n, n = xs0.length := ⟨_, rfl⟩
  rw [← hn] at hR hl ⊢
  have HN := Aside0.mk hn.symm
  have HO := Aside0.mk hR
  have HB := Aside0.mk hB
  have HK := Aside0.mk (Kept.refl w (fun k => some k = (Value.slice A n c).ownBlock))
  clear hn hR hB
  go_enter Try.func34, Try.ntmps34
  go_wp2
  go_loopg [4] (n + 1) (fun kq v4 w' => ∃ (i : Nat) (xs : List Int), v4 = .int .i64 (i : Int) ∧ Aside0 (i ≤ n) ∧ Aside0 (i + kq = n + 1) ∧ Aside0 (xs.length = n) ∧ Aside0 (xs.take i = List.replicate i m) ∧ Aside0 (Kd.R (Kd.int .u8) 5 w' w0.heap.size P (.slice A n c) xs) ∧ Aside0 (Below w0.heap.size w0 w') ∧ Aside0 (Kept w w' (fun k => some k = (Value.slice A n c).ownBlock)))
  case atStart => exact ⟨0, xs0, rfl, ⟨by omega⟩, ⟨by omega⟩, HN, ⟨rfl⟩, HO, HB, HK⟩
  case round =>
    obtain ⟨i, xs, rfl, HI, HIK, HXL, HXM, HOX, HBX, HKX⟩ := hrel
    clear HO HB HK
    by_cases hi : i < n
    · have hi2 : (i : Int) < (n : Int) := by omega
      have hi3 : decide ((i : Int) < (n : Int)) = true := decide_eq_true hi2
      have hi4 : decide (i < n) = true := decide_eq_true hi
      have HI2 := Aside0.mk hi
      obtain ⟨g, cap, e, hgb, _, _⟩ := Kd.R_form HOX.out (by have := HXL.out; omega)
      injection e with e1 e2 e3
      subst e1
      subst e3
      have HG := Aside0.mk hgb
      clear hgb e2
      obtain ⟨hx0, hf0⟩ := Kd.R_celln 0 HOX.out (i : Int) (Int.natCast_nonneg _) (by omega)
      have HP := Aside0.mk (Kd.R_putg HOX.out (i : Int) m)
      rw [Int.toNat_natCast] at hx0 hf0 HP
      go_wp2_with ((with_reducible refine gate_store (t := 5) (p := 14) rfl ?_); go_must (refine store_event (t := 5) (p := 14) (v := ?vo_w12) (w1 := (wr.setCell ⟨g, i, none⟩ (.int .u8 m))) ?hg ?ho ?hn ?hr ?_); (case ho => rfl); (case hg => rfl); (case hn => rfl); (case hr => first | (go_simp; done) | (go_simp; rfl)); intro w12 hw; rw [← hw] at HP; have HB3 := Aside0.mk (by rw [hw]; exact below_set HBX.out HG.out : Below w0.heap.size w0 w12); have HK3 := Aside0.mk (tight_kept HKX.out HP.out.2); clear hw HOX HBX HKX hx0 hf0)
      go_roundg (n - i)
      case measure => have := HIK.out; have := HI2.out; omega
      case rel => exact ⟨i + 1, _, by go_num, ⟨by have := HI2.out; omega⟩, ⟨by have := HI2.out; omega⟩, ⟨by rw [List.length_set]; exact HXL.out⟩, ⟨set_marks xs i n m HXL.out HI2.out HXM.out⟩, ⟨HP.out.1⟩, HB3, HK3⟩
    · have hi1 : i = n := by have := HI.out; omega
      subst hi1
      have hi3 : decide ((i : Int) < (i : Int)) = false := decide_eq_false (by omega)
      clear hi HI HIK
      obtain rfl := set_all xs m i HXL.out HXM.out
      go_wp2
      first | go_end0 | ((try simp only [Exit.inBlock, Exit.then]); refine bodyPost_ret (results_none rfl _ _ _) rfl ?_)
      exact ⟨rfl, HOX.out, HKX.out, HBX.out⟩
end Go.Proofs.Ythggjlfiliggjaa.Own
