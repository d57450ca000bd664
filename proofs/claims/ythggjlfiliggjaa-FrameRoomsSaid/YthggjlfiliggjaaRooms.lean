/- At every number: the room; just so long a body is sealed and opens, a byte more is ErrLong, no size is ErrArg. -/
import Derived.Test.YthggjlfiliggjaaFrLaws
namespace Go.Proofs.Ythggjlfiliggjaa.Rooms
open Go.RowKit Go.Proofs.Ythggjlfiliggjaa.QFr Go.Proofs.YthggjlfiliggjaaW.PrintWords Go.Proofs.YthggjlfiliggjaaW.PrintLast Go.Proofs.YthggjlfiliggjaaW.PrintMore Go.Proofs.Ythggjlfiliggjaa.Crc Go.Proofs.Ythggjlfiliggjaa.QFrExt Go.Proofs.Ythggjlfiliggjaa.FrPure Go.Proofs.Ythggjlfiliggjaa.FrLaws
set_option linter.unusedVariables false
set_option linter.unusedSimpArgs false

theorem room_is (size : Int) (m : Nat) (h : m = (if 15 ≤ size ∧ size ≤ 8192 then (size - 15).toNat else 0)) : frame_Room.f size = some (m : Int) ∧ arborref2_Room.f size = some (m : Int) := by
  by_cases hs : 15 ≤ size ∧ size ≤ 8192
  · rw [if_pos hs] at h
    constructor
    · unfold frame_Room.f
      rw [if_neg (by omega), if_neg (by omega)]
      congr 1
      unfold wrap64
      omega
    · rw [ref_room size hs]
      congr 1
      omega
  · rw [if_neg hs] at h
    subst h
    constructor
    · unfold frame_Room.f
      by_cases h1 : size < 15
      · rw [if_pos h1]; rfl
      · rw [if_neg h1, if_pos (by omega)]; rfl
    · unfold arborref2_Room.f
      rw [ref_size, decide_eq_false hs]
      rfl
theorem xor_range (a b : Int) (hb : 0 ≤ b ∧ b < 256) : 0 ≤ Go.bits .xor .u8 (a % 256) b ∧ Go.bits .xor .u8 (a % 256) b < 256 :=
  (xor_u8 (a % 256) b (by omega) (by omega) hb.1 hb.2).2
theorem cut_C {W : World} {base g m cap : Nat} {ok : Nat → Prop} {xs : List Int} (h : Kd.R (Kd.int .u8) 5 W base ok (.slice (some ⟨g, 0, none⟩) (m + 1) cap) xs) : Kd.C (Kd.int .u8) W (some ⟨g, 0, none⟩) m (xs.take m) ∧ m ≤ cap := by
  obtain ⟨h1, h2, h3⟩ := Kd.R_reads' h
  exact ⟨Kd.C_of_reads ((Kd.reads_of_C (d := 0) h3).take_ m (by omega)), by omega⟩
theorem seal_fit (kind gen : Int) (ys : List Int) (m : Nat) (hl : ys.length = m) (hk : 0 ≤ kind ∧ kind < 256) (hb : Bytes ys) (h8 : m + 15 ≤ 8192) (A : Option Addr) (cap : Nat) (hc : m ≤ cap) (W : World) (hC : Kd.C (Kd.int .u8) W A m ys) :
    Calls Try.prog 20 #[.agg #[.int .u8 kind, .int .u64 gen, .slice A m cap], .int .i64 ((m : Int) + 15)] W fun e w' => ∃ (A6 : Option Addr) (c6 : Nat), e = .returned (.tuple #[.slice A6 (m + 15) c6, .int .i64 0]) ∧ m + 15 ≤ c6 ∧ Kd.C (Kd.int .u8) w' A6 (m + 15) (framed kind gen ys (m + 15)) ∧ Below W.heap.size W w' := by
  have hf := framed_length kind gen ys (m + 15) (by omega) (by omega)
  have h1 := seal_is kind gen ys (m + 15) hk hb (by omega) h8 (by omega) 81931 (by omega)
  rw [Int.natCast_add] at h1
  have h2 := frame_Seal.calls 81931 kind gen A cap ys ((m : Int) + 15) _ _ W (by rw [hl]; exact hC) (by omega) h1
  rw [hl] at h2
  refine h2.mono ?_
  rintro e w' ⟨v0, rfl, hr, hb⟩
  obtain ⟨A6, c6, rfl, hl6, hC6⟩ := Kd.R_reads hr
  rw [hf] at hl6 hC6 ⊢
  exact ⟨A6, c6, rfl, hl6, hC6, hb⟩
theorem open_fit (kind gen : Int) (ys : List Int) (m : Nat) (hl : ys.length = m) (hk : 0 ≤ kind ∧ kind < 256) (hg : 0 ≤ gen ∧ gen < 18446744073709551616) (hb : Bytes ys) (h8 : m + 15 ≤ 8192) (A : Option Addr) (cap : Nat) (hc : m + 15 ≤ cap) (W : World) (hC : Kd.C (Kd.int .u8) W A (m + 15) (framed kind gen ys (m + 15))) :
    Calls Try.prog 23 #[.slice A (m + 15) cap] W fun e w' => ∃ (A6 : Option Addr) (c6 : Nat), e = .returned (.tuple #[.agg #[.int .u8 kind, .int .u64 gen, .slice A6 m c6], .int .i64 0]) ∧ m ≤ c6 ∧ Kd.R (Kd.int .u8) 5 w' W.heap.size (fun _ => True) (.slice A6 m c6) ys ∧ Below W.heap.size W w' := by
  have hf := framed_length kind gen ys (m + 15) (by omega) (by omega)
  have h1 := open_is (framed kind gen ys (m + 15)) (framed_bytes kind gen ys (m + 15) hk hb) 81931 (by omega)
  rw [opened_framed kind gen ys (m + 15) (by omega) h8 (by omega) hg] at h1
  have h2 := frame_Open.calls 81931 A cap _ _ _ _ _ W (by rw [hf]; exact hC) (by omega) h1
  rw [hf] at h2
  refine h2.mono ?_
  rintro e w' ⟨v0, rfl, hr, hb⟩
  obtain ⟨A6, c6, rfl, hl6, hC6⟩ := Kd.R_reads hr
  rw [hl] at hl6 hr ⊢
  exact ⟨A6, c6, rfl, hl6, hr, hb⟩
theorem same_fit (kind gen : Int) (ys : List Int) (m : Nat) (hl : ys.length = m) (h8 : m + 15 ≤ 8192) (A7 : Option Addr) (c7 : Nat) (A8 : Option Addr) (c8 : Nat) (h7 : m ≤ c7) (h8 : m ≤ c8) (W : World) (hC7 : Kd.C (Kd.int .u8) W A7 m ys) (hC8 : Kd.C (Kd.int .u8) W A8 m ys) :
    Calls Try.prog 25 #[.agg #[.int .u8 kind, .int .u64 gen, .slice A7 m c7], .agg #[.int .u8 kind, .int .u64 gen, .slice A8 m c8]] W fun e w' => e = .returned (.bool true) ∧ Below W.heap.size W w' := by
  have h1 := sameFrame_is kind gen ys kind gen ys (by omega) (ys.length + 1) (by omega)
  rw [decide_eq_true ⟨rfl, rfl, rfl⟩] at h1
  have h2 := arborlaw2_sameFrame.calls _ kind gen A7 c7 ys kind gen A8 c8 ys true W (by rw [hl]; exact hC7) (by omega) (by rw [hl]; exact hC8) (by omega) h1
  rw [hl] at h2
  exact h2
theorem putS {w W : World} {gr : Nat} {a b c : Value} (blk : W.heap[gr]? = some (.cells #[a, b, c] 35 (0, 0))) (bel : Below w.heap.size w W) (le : w.heap.size ≤ gr) (v0 v1 v2 : Value) :
    (((W.setCell ⟨gr, 0, none⟩ v0).setCell ⟨gr, 1, none⟩ v1).setCell ⟨gr, 2, none⟩ v2).heap[gr]? = some (.cells #[v0, v1, v2] 35 (0, 0)) ∧ Below w.heap.size w (((W.setCell ⟨gr, 0, none⟩ v0).setCell ⟨gr, 1, none⟩ v1).setCell ⟨gr, 2, none⟩ v2) ∧ W.grownBy (((W.setCell ⟨gr, 0, none⟩ v0).setCell ⟨gr, 1, none⟩ v1).setCell ⟨gr, 2, none⟩ v2) (some gr) :=
  ⟨blk_put (blk_put (blk_put blk 0 v0 rfl) 1 v1 rfl) 2 v2 rfl, below_set (below_set (below_set bel le) le) le,
    World.grownBy.trans (World.grownBy.trans (grown_set _ _ _ _) (grown_set _ _ _ _)) (grown_set _ _ _ _)⟩
theorem row_far {W W1 : World} {base gr : Nat} {cs : Array Value} {v : Value} {xs : List Int} {ok : Nat → Prop} (h : Kd.R (Kd.int .u8) 5 W base ok v xs) (blk : W.heap[gr]? = some (.cells cs 35 (0, 0))) (hg : W.grownBy W1 (some gr)) : Kd.R (Kd.int .u8) 5 W1 base (fun k => ok k ∧ k ≠ gr) v xs :=
  Kd.R_grown (Kd.R_types h blk (by intro q hq; have : q = 5 := (by simpa [Kd.int, Kd.scalar] using hq); omega)) hg (fun k_ hk_ e_ => hk_.2 (Option.some.inj e_))
set_option maxHeartbeats 8000000 in
set_option maxRecDepth 100000 in
theorem rooms (size kind gen : Int) (w : World) (hk : 0 ≤ kind ∧ kind < 256) (hg : 0 ≤ gen ∧ gen < 18446744073709551616) (hs : -9223372036854775808 ≤ size ∧ size ≤ 9223372036854775807) :
    Calls Try.prog 9 #[.int .i64 size, .int .u8 kind, .int .u64 gen] w fun e w' => e = .returned (.bool true) ∧ Below w.heap.size w w' := by
  have hu35 := Try.underlying35
  obtain ⟨m, hm⟩ : ∃ m : Nat, m = (if 15 ≤ size ∧ size ≤ 8192 then (size - 15).toNat else 0) := ⟨_, rfl⟩
  have RI := Aside0.mk (room_is size m hm)
  have HM := Aside0.mk hm
  have HK := Aside0.mk hk
  have HGN := Aside0.mk hg
  have HS := Aside0.mk hs
  have hm8 : m ≤ 8192 := by
    rw [hm]
    split <;> omega
  clear hk hg hs hm
  have HB := Aside0.mk (Below.refl w.heap.size w)
  have hml : ((m : Int) + 1).toNat * 1 ≤ 281474976710656 := by omega
  have hm0 : (0 : Int) ≤ (m : Int) + 1 := by omega
  go_enter Try.func9, Try.ntmps9
  go_wp2_with (first | (go_at_call 26; (with_reducible refine (frame_Room.calls size (m : Int) _ RI.out.1).mono ?_); rintro e w1 ⟨rfl, ⟨n1, rfl⟩⟩) | (go_at_call 27; (with_reducible refine (arborref2_Room.calls size (m : Int) _ RI.out.2).mono ?_); rintro e w2 ⟨rfl, ⟨n2, rfl⟩⟩) | ((with_reducible refine gate_dst (N := 26) rfl ?_); go_must (refine Kd.R_make (Kd.int .u8) w.heap.size 5 ?hg (N := 26) ?hd 23 (.tmp 25) (.tmp 25) ?ho ((m : Int) + 1) ?hx ?hy Try.underlying23 (.int .u8 0) 1 info5 rfl (by decide) (by decide) 0 (ok := fun _ => True) (okp := fun _ => True) rfl (fun _ hk => hk) trivial hm0 hml (w0 := w) (by repeat (first | exact HB.out | apply pw_below_drewN)) (by simp) ?_); (case hg => rfl); (case hd => rfl); (case ho => rfl); (case hx => rfl); (case hy => rfl); intro v1 w9 ho hb hg hnew; rw [show ((m : Int) + 1).toNat = m + 1 from by omega] at ho; obtain ⟨g, cap, rfl, HG, hcap, HGC⟩ := row_form ho (List.length_replicate ..) (by omega); have HO := Aside0.mk ho; have HB2 := Aside0.mk hb; clear HB HGC ho hb hg hnew; have HB := HB2; clear HB2))
  go_loopg [9] (m + 2) (fun kq v9 w' => ∃ (i : Nat) (xs : List Int), v9 = .int .i64 (i : Int) ∧ Aside0 (i ≤ m + 1) ∧ Aside0 (i + kq = m + 2) ∧ Aside0 (xs.length = m + 1) ∧ Aside0 (Bytes xs) ∧ Aside0 (Kd.R (Kd.int .u8) 5 w' w.heap.size (fun _ => True) (.slice (some ⟨g, 0, none⟩) (m + 1) cap) xs) ∧ Aside0 (Below w.heap.size w w'))
  case atStart => exact ⟨0, List.replicate (m + 1) 0, rfl, ⟨by omega⟩, ⟨by omega⟩, ⟨List.length_replicate ..⟩, ⟨bytes_zeros _⟩, HO, HB⟩
  case round =>
    obtain ⟨i, xs, rfl, HI, HIK, HXL, HXB, HOX, HBX⟩ := hrel
    clear HO HB
    by_cases hi : i < m + 1
    · have hi2 : (i : Int) < (m : Int) + 1 := by omega
      have hi3 : decide ((i : Int) < ((m + 1 : Nat) : Int)) = true := decide_eq_true (by omega)
      have hi4 : decide (i < m + 1) = true := decide_eq_true hi
      have HI2 := Aside0.mk hi
      obtain ⟨hx0, hf0⟩ := Kd.R_celln 0 HOX.out (i : Int) (Int.natCast_nonneg _) (by omega)
      have HP := Aside0.mk (Kd.R_putg HOX.out (i : Int) (Go.bits .xor .u8 ((i : Int) % 256) kind))
      rw [Int.toNat_natCast] at hx0 hf0 HP
      go_wp2_with ((with_reducible refine gate_store (t := 5) (p := 39) rfl ?_); go_must (refine store_event (t := 5) (p := 39) (v := ?vo_w12) (w1 := (wr.setCell ⟨g, i, none⟩ (.int .u8 (Go.bits .xor .u8 ((i : Int) % 256) kind)))) ?hg ?ho ?hn ?hr ?_); (case ho => rfl); (case hg => rfl); (case hn => rfl); (case hr => first | (go_simp; done) | (go_simp; rfl)); intro w12 hw; rw [← hw] at HP; have HB3 := Aside0.mk (by rw [hw]; exact below_set HBX.out HG.out : Below w.heap.size w w12); clear hw HOX HBX hx0 hf0)
      go_roundg (m + 1 - i)
      case measure => have := HIK.out; have := HI2.out; omega
      case rel => exact ⟨i + 1, _, by go_num, ⟨by have := HI2.out; omega⟩, ⟨by have := HI2.out; omega⟩, ⟨by rw [List.length_set]; exact HXL.out⟩, ⟨set_bytes HXB.out _ _ (xor_range _ _ HK.out)⟩, ⟨HP.out.1⟩, HB3⟩
    · have hi1 : i = m + 1 := by have := HI.out; omega
      subst hi1
      have hi3 : decide (((m + 1 : Nat) : Int) < ((m + 1 : Nat) : Int)) = false := decide_eq_false (by omega)
      clear hi HI HIK
      have hxl := HXL.out
      have hC0 := (Kd.R_reads' HOX.out).2.2
      have hcop := arborlaw2_copied.calls (some ⟨g, 0, none⟩) cap xs xs wr hC0 (by omega) (copied_is xs (by omega))
      rw [hxl] at hcop
      have HCOP := Aside0.mk hcop
      clear hxl hC0 hcop
      go_wp2_with (go_at_call 15; go_must (refine HCOP.out.mono ?_; rintro e w1 ⟨v1, rfl, hr1, hb1⟩; obtain ⟨A1, c1, rfl, hlc1, hC1⟩ := Kd.R_reads hr1; have HO1 := Aside0.mk (Kd.R_below HOX.out hb1); have HB1 := Aside0.mk (below_then HBX.out HBX.out.size hb1); have HC1 := Aside0.mk hC1; have HLC1 := Aside0.mk hlc1; obtain ⟨q1, hq1⟩ : ∃ q, q = xs.length := ⟨_, rfl⟩; rw [← hq1]; have HQ1 := Aside0.mk hq1; clear HCOP hr1 hb1 hC1 hlc1 HOX HBX hq1))
      by_cases hsz : 15 ≤ size ∧ size ≤ 8192
      · have hmm : size = (m : Int) + 15 := by have := HM.out; rw [if_pos hsz] at this; omega
        subst hmm
        have hsl := frame_Seal.calls 0 kind gen A1 c1 xs ((m : Int) + 15) [] 21 w1 HC1.out HLC1.out (seal_long kind gen xs _ hsz (by have := HXL.out; omega) 0)
        rw [← HQ1.out] at hsl
        have SL := Aside0.mk hsl
        have SZ : Aside0 (arborref2_IsSize.f ((m : Int) + 15) = some true) := ⟨by rw [ref_size, decide_eq_true hsz]⟩
        have hs1 := take_run g (m + 1) cap m (m : Int) rfl (by omega)
        have h815 : m + 15 ≤ 8192 := by omega
        obtain ⟨ys, hys⟩ : ∃ ys, ys = xs.take m := ⟨_, rfl⟩
        have YL : Aside0 (ys.length = m) := ⟨by rw [hys, List.length_take, HXL.out]; omega⟩
        have YB : Aside0 (Bytes ys) := ⟨by rw [hys]; exact fun x hx => HXB.out x (List.mem_of_mem_take hx)⟩
        have CT : Aside0 (∀ {W : World} {ok : Nat → Prop} (base : Nat), Kd.R (Kd.int .u8) 5 W base ok (.slice (some ⟨g, 0, none⟩) (m + 1) cap) xs → Kd.C (Kd.int .u8) W (some ⟨g, 0, none⟩) m ys) := ⟨fun base h => by rw [hys]; exact (cut_C h).1⟩
        clear hsl hsz hys
        go_wp2_with (first | (go_at_call 20; go_must (first | (have uu := SL; clear uu; go_must (refine SL.out.mono ?_; rintro e w2 ⟨v2, rfl, hr2, hb2⟩; obtain ⟨A2, c2, rfl, _, _⟩ := Kd.R_reads hr2; rw [List.length_nil]; have HO2 := Aside0.mk (Kd.R_below HO1.out hb2); have HB2 := Aside0.mk (below_then HB1.out HB1.out.size hb2); clear SL hr2 hb2 HO1 HB1)) | (have ST := Aside0.mk (putS BK.out HB4.out GW.out (.int .u8 kind) (.int .u64 gen) (.slice (some ⟨g, 0, none⟩) m cap)); have HO5 := Aside0.mk (row_far HO4.out BK.out ST.out.2.2); clear hc0 hc1 hc2 hf0 hf1 hf2 HO4 HB4 BK; generalize ((w4.setCell ⟨gb, 0, none⟩ (.int .u8 kind)).setCell ⟨gb, 1, none⟩ (.int .u64 gen)).setCell ⟨gb, 2, none⟩ (.slice (some ⟨g, 0, none⟩) m cap) = w5 at *; refine (seal_fit kind gen ys m YL.out HK.out YB.out h815 (some ⟨g, 0, none⟩) cap (cut_C HO5.out).2 w5 (CT.out _ HO5.out)).mono ?_; rintro e w6 ⟨A6, c6, rfl, hc6, hC6, hb6⟩; have HO6 := Aside0.mk (Kd.R_below HO5.out hb6); have BK6 := Aside0.mk (blk_below ST.out.1 hb6); have HB6 := Aside0.mk (below_then ST.out.2.1 ST.out.2.1.size hb6); have HC6 := Aside0.mk hC6; have HCC6 := Aside0.mk hc6; clear ST HO5 hc6 hC6 hb6))) | (go_at_call 23; go_must (refine (open_fit kind gen ys m YL.out HK.out HGN.out YB.out h815 A6 c6 HCC6.out w6 HC6.out).mono ?_; rintro e w7 ⟨A7, c7, rfl, hc7, hC7, hb7⟩; have HO7 := Aside0.mk (Kd.R_below HO6.out hb7); have BK7 := Aside0.mk (blk_below BK6.out hb7); have HB7 := Aside0.mk (below_then HB6.out HB6.out.size hb7); have HC7 := Aside0.mk hC7; have HCC7 := Aside0.mk hc7; clear HO6 BK6 HB6 HC6 HCC6 hc7 hC7 hb7)) | ((with_reducible refine gate_dst (N := 15) rfl ?_); go_must (refine box_event ?hg (N := 15) ?hd (cs := #[.int .u8 0, .int .u64 0, .slice none 0 0]) (t := 35) ?hr ?_); (case hd => rfl); (case hg => rfl); (case hr => first | (go_simp; done) | (go_simp; rfl)); intro gc hg w8 hbox hb; have HO8 := Aside0.mk (Kd.R_below HO7.out hb); have HB8 := Aside0.mk (below_then HB7.out HB7.out.size hb); have BK8 := Aside0.mk (blk_below BK7.out hb); have HC8 := Aside0.mk (Kd.R_below HC7.out hb); have BC := Aside0.mk hbox; have GC := Aside0.mk (by rw [hg]; exact HB7.out.size : w.heap.size ≤ gc); have NE : gb ≠ gc := (by rw [hg]; exact Nat.ne_of_lt (blk_lt BK7.out)); have hc0 : w8.cell? ⟨gc, 0, none⟩ = some (.int .u8 0) := (blk_cell BC.out 0).trans rfl; have hc1 : w8.cell? ⟨gc, 1, none⟩ = some (.int .u64 0) := (blk_cell BC.out 1).trans rfl; have hc2 : w8.cell? ⟨gc, 2, none⟩ = some (.slice none 0 0) := (blk_cell BC.out 2).trans rfl; have hf0 := blk_frozen BC.out 0; have hf1 := blk_frozen BC.out 1; have hf2 := blk_frozen BC.out 2; have hd0 : w8.cell? ⟨gb, 0, none⟩ = some (.int .u8 kind) := (blk_cell BK8.out 0).trans rfl; have hd1 : w8.cell? ⟨gb, 1, none⟩ = some (.int .u64 gen) := (blk_cell BK8.out 1).trans rfl; have hd2 : w8.cell? ⟨gb, 2, none⟩ = some (.slice (some ⟨g, 0, none⟩) m cap) := (blk_cell BK8.out 2).trans rfl; have NE2 := Ne.symm NE; clear hbox hb hg HO7 HB7 BK7 HC7) | (go_at_call 25; go_must (have ST := Aside0.mk (putS BC.out HB8.out GC.out (.int .u8 kind) (.int .u64 gen) (.slice A7 m c7)); have HO9 := Aside0.mk (row_far HO8.out BC.out ST.out.2.2); have HC9 := Aside0.mk (row_far HC8.out BC.out ST.out.2.2); clear hc0 hc1 hc2 hf0 hf1 hf2 hd0 hd1 hd2 HO8 HB8 BK8 HC8 BC; generalize ((w8.setCell ⟨gc, 0, none⟩ (.int .u8 kind)).setCell ⟨gc, 1, none⟩ (.int .u64 gen)).setCell ⟨gc, 2, none⟩ (.slice A7 m c7) = w9 at *; refine (same_fit kind gen ys m YL.out h815 A7 c7 (some ⟨g, 0, none⟩) cap HCC7.out (cut_C HO9.out).2 w9 (YL.out ▸ (Kd.R_reads' HC9.out).2.2) (CT.out _ HO9.out)).mono ?_; rintro e wz ⟨rfl, hbz⟩; have HBZ := Aside0.mk (below_then ST.out.2.1 ST.out.2.1.size hbz); clear ST HO9 HC9 hbz)) | (go_at_call 28; go_must (refine (arborref2_IsSize.calls _ true _ SZ.out).mono ?_; rintro e w' ⟨rfl, ⟨n3, rfl⟩⟩; have HO3 := Aside0.mk (Kd.R_drewN HO2.out n3); have HB3 := Aside0.mk (pw_below_drewN HB2.out n3); clear HO2 HB2; generalize w2.drewN n3 = w3 at *)) | ((with_reducible refine gate_dst (N := 12) rfl ?_); go_must (refine box_event ?hg (N := 12) ?hd (cs := #[.int .u8 0, .int .u64 0, .slice none 0 0]) (t := 35) ?hr ?_); (case hd => rfl); (case hg => rfl); (case hr => first | (go_simp; done) | (go_simp; rfl)); intro gb hg w4 hbox hb; have HO4 := Aside0.mk (Kd.R_below HO3.out hb); have HB4 := Aside0.mk (below_then HB3.out HB3.out.size hb); have BK := Aside0.mk hbox; have GW := Aside0.mk (by rw [hg]; exact HB3.out.size : w.heap.size ≤ gb); have hc0 : w4.cell? ⟨gb, 0, none⟩ = some (.int .u8 0) := (blk_cell BK.out 0).trans rfl; have hc1 : w4.cell? ⟨gb, 1, none⟩ = some (.int .u64 0) := (blk_cell BK.out 1).trans rfl; have hc2 : w4.cell? ⟨gb, 2, none⟩ = some (.slice none 0 0) := (blk_cell BK.out 2).trans rfl; have hf0 := blk_frozen BK.out 0; have hf1 := blk_frozen BK.out 1; have hf2 := blk_frozen BK.out 2; clear hbox hb hg HO3 HB3))
        go_ret
        exact ⟨rfl, HBZ.out⟩
      · have hsl := frame_Seal.calls 0 kind gen A1 c1 xs size [] 1 w1 HC1.out HLC1.out (seal_size kind gen xs size hsz 0)
        rw [← HQ1.out] at hsl
        have SL := Aside0.mk hsl
        have SZ : Aside0 (arborref2_IsSize.f size = some false) := ⟨by rw [ref_size, decide_eq_false hsz]⟩
        clear hsl hsz
        go_wp2_with (first | (go_at_call 20; go_must (refine SL.out.mono ?_; rintro e w2 ⟨v2, rfl, hr2, hb2⟩; obtain ⟨A2, c2, rfl, _, _⟩ := Kd.R_reads hr2; rw [List.length_nil]; have HB2 := Aside0.mk (below_then HB1.out HB1.out.size hb2); clear SL hr2 hb2 HO1 HB1)) | (go_at_call 28; go_must (refine (arborref2_IsSize.calls _ false _ SZ.out).mono ?_; rintro e w' ⟨rfl, ⟨n3, rfl⟩⟩; have HB3 := Aside0.mk (pw_below_drewN HB2.out n3); clear HB2; generalize w2.drewN n3 = w3 at *)))
        go_ret
        exact ⟨rfl, HB3.out⟩
end Go.Proofs.Ythggjlfiliggjaa.Rooms
