/- By hand: calm. Its lists of lists: an own row of slices, each a row of its own, no two of one block. -/
import Derived.Test.YthggjlfiliggjaaOwn4
namespace Go.Proofs.Ythggjlfiliggjaa.Own
open Go.RowKit Go.Proofs.Ythggjlfiliggjaa.QFr Go.Proofs.YthggjlfiliggjaaW.PrintWords Go.Proofs.YthggjlfiliggjaaW.PrintLast Go.Proofs.YthggjlfiliggjaaW.PrintMore Go.Proofs.Ythggjlfiliggjaa.Crc Go.Proofs.Ythggjlfiliggjaa.QFrExt Go.Proofs.Ythggjlfiliggjaa.FrPure Go.Proofs.Ythggjlfiliggjaa.FrLaws
set_option linter.unusedVariables false
set_option linter.unusedSimpArgs false

theorem info23 : (Try.prog.info? 23).map (fun i => (i.zero, i.size, i.bytes)) = some (some (.slice none 0 0), 1, 24) := by kernel_rfl
/-! ### the items -/
abbrev kI : Kd ((Int × Int × List Int) × Int) := Kd.pair (Kd.pair (Kd.int .u8) (Kd.pair (Kd.int .u64) (Kd.slice 5 (Kd.int .u8)))) (Kd.int .i64)
theorem kI_open {w : World} {x : (Int × Int × List Int) × Int} {cs : List Value} (h : kI.K w x cs) : ∃ A2 c2, cs = [.int .u8 x.1.1, .int .u64 x.1.2.1, .slice A2 x.1.2.2.length c2, .int .i64 x.2] ∧ x.1.2.2.length ≤ c2 ∧ (Kd.int .u8).C w A2 x.1.2.2.length x.1.2.2 := by
  obtain ⟨_, _, rfl, s0, rfl⟩ := h
  obtain ⟨_, _, rfl, rfl, ⟨_, _, rfl, rfl, ⟨A2, c2, rfl, l2, g2⟩⟩⟩ := s0
  exact ⟨A2, c2, rfl, l2, g2⟩
theorem at_item {w : World} {A : Option Addr} {n : Nat} {xs : List ((Int × Int × List Int) × Int)} (h : Kd.C kI w A n xs) (i : Nat) (hi : i < n) :
    ∃ (ad : Addr) (A2 : Option Addr) (c2 : Nat) (kind gen size : Int) (body : List Int) (nb : Nat), A = some ad ∧ xs[i]? = some ((kind, gen, body), size) ∧ body.length = nb ∧ w.cell? (ad.add (i * 4)) = some (.int .u8 kind) ∧ w.cell? ⟨(ad.add (i * 4)).block, (ad.add (i * 4)).off + 1, none⟩ = some (.int .u64 gen) ∧
      w.cell? ⟨(ad.add (i * 4)).block, (ad.add (i * 4)).off + 2, none⟩ = some (.slice A2 nb c2) ∧ w.cell? ⟨(ad.add (i * 4)).block, (ad.add (i * 4)).off + 3, none⟩ = some (.int .i64 size) ∧ RD w A2 nb c2 body := by
  obtain ⟨ad, c, e, _, hK, hc0⟩ := Kd.C_get h ((0, 0, []), 0) (i : Int) (Int.natCast_nonneg _) (by omega)
  rw [Int.toNat_natCast] at hK hc0
  have hc : ∀ j u, c[j]? = some u → w.cell? (ad.add (i * 4 + j)) = some u := hc0
  obtain ⟨A2, c2, rfl, l2, g2⟩ := kI_open hK
  have hl : i < xs.length := by rw [Kd.C_len h]; exact hi
  refine ⟨ad, A2, c2, _, _, _, _, _, e, ?_, rfl, hc 0 _ rfl, by rw [← add_field _ _ 1 (by omega)]; exact hc 1 _ rfl, by rw [← add_field _ _ 2 (by omega)]; exact hc 2 _ rfl, by rw [← add_field _ _ 3 (by omega)]; exact hc 3 _ rfl, ⟨g2, l2⟩⟩
  rw [List.getD_eq_getElem?_getD, List.getElem?_eq_getElem hl]
  rfl
/-! ### rows of slices -/
theorem two_types {W : World} {base b2 : Nat} {v u : Value} {l : List Int} {xs : List (List Value)} {ok ok2 : Nat → Prop} (h : Kd.R (Kd.int .u8) 5 W base ok v l) (h2 : Kd.R (Kd.raw 1) 23 W b2 ok2 u xs) (k : Nat) (hk : v.ownBlock = some k) : u.ownBlock ≠ some k := by
  intro e
  obtain ⟨c1, h3⟩ := Kd.R_typed h k hk
  obtain ⟨c2, h4⟩ := Kd.R_typed h2 k e
  rw [h3] at h4
  injection h4 with h4
  injection h4 with _ h4
  exact absurd h4 (by decide)
structure LR (W : World) (base : Nat) (v : Value) (vs : List (Value × List Int)) : Prop where
  outer : Kd.R (Kd.raw 1) 23 W base (fun k => some k = v.ownBlock) v (vs.map (fun p => [p.1]))
  rows : ∀ p ∈ vs, OR W base p.1 p.2
theorem LR.nil (W : World) (base : Nat) : LR W base (.slice none 0 0) [] := ⟨Kd.R_nil _ _ _ _ _, fun p hp => by simp at hp⟩
theorem LR.below {W W1 : World} {base : Nat} {v : Value} {vs : List (Value × List Int)} (h : LR W base v vs) (hb : Below W.heap.size W W1) : LR W1 base v vs := ⟨Kd.R_below h.outer hb, fun p hp => OR.below (h.rows p hp) hb⟩
theorem raw_far {W W1 : World} {base gr t : Nat} {cs : Array Value} {v : Value} {xs : List (List Value)} {ok : Nat → Prop} (h : Kd.R (Kd.raw 1) 23 W base ok v xs) (blk : W.heap[gr]? = some (.cells cs t (0, 0))) (ht : 23 ≠ t) (hg : W.grownBy W1 (some gr)) : Kd.R (Kd.raw 1) 23 W1 base ok v xs :=
  Kd.R_mono (Kd.R_grown (Kd.R_types h blk (by intro q hq; have : q = 23 := (by simpa [Kd.raw] using hq); rw [this]; exact ht)) hg (fun k_ hk_ e_ => hk_.2 (Option.some.inj e_))) (fun k hk => hk.1)
theorem LR.far {W W1 : World} {base gr t : Nat} {cs : Array Value} {v : Value} {vs : List (Value × List Int)} (h : LR W base v vs) (blk : W.heap[gr]? = some (.cells cs t (0, 0))) (h5 : 5 ≠ t) (h23 : 23 ≠ t) (hg : W.grownBy W1 (some gr)) : LR W1 base v vs :=
  ⟨raw_far h.outer blk h23 hg, fun p hp => row_farT (h.rows p hp) blk h5 hg⟩
/-- Another row of slices has grown. -/
theorem LR.other {W W1 : World} {base b2 : Nat} {v u : Value} {vs : List (Value × List Int)} {xs : List (List Value)} {ok : Nat → Prop} (h : LR W base v vs) (hu : Kd.R (Kd.raw 1) 23 W b2 ok u xs) (hne : ∀ k, v.ownBlock = some k → u.ownBlock ≠ some k) (hg : W.grownBy W1 u.ownBlock) : LR W1 base v vs :=
  ⟨Kd.R_grown h.outer hg (fun k hk e => hne k hk.symm e.symm), fun p hp => Kd.R_grown (h.rows p hp) hg (fun k hk e => two_types (h.rows p hp) hu k hk.symm e.symm)⟩
theorem OR.other {W W1 : World} {base b2 : Nat} {v u : Value} {l : List Int} {xs : List (List Value)} {ok : Nat → Prop} (h : OR W base v l) (hu : Kd.R (Kd.raw 1) 23 W b2 ok u xs) (hg : W.grownBy W1 u.ownBlock) : OR W1 base v l :=
  Kd.R_grown h hg (fun k hk e => two_types h hu k hk.symm e.symm)
theorem LR.more {W W1 : World} {base : Nat} {v v1 : Value} {vs : List (Value × List Int)} {ok : Nat → Prop} {a b : Value} {xa xb : List Int} (h : LR W base v vs) (ha : OR W base a xa) (hb : OR W base b xb) (hg : W.grownBy W1 v.ownBlock) (h1 : Kd.R (Kd.raw 1) 23 W1 base ok v1 (vs.map (fun p => [p.1]) ++ [[a], [b]])) : LR W1 base v1 (vs ++ [(a, xa), (b, xb)]) := by
  refine ⟨by rw [List.map_append]; exact Kd.R_tight rfl h1, fun p hp => ?_⟩
  rcases List.mem_append.1 hp with hp | hp
  · exact OR.other (h.rows p hp) h.outer hg
  · simp only [List.mem_cons, List.not_mem_nil, or_false] at hp
    rcases hp with rfl | rfl
    · exact OR.other ha h.outer hg
    · exact OR.other hb h.outer hg
theorem fresh {W W1 : World} {base : Nat} {v b : Value} {l xb : List Int} {ok : Nat → Prop} (h : OR W base v l) (hb : Kd.R (Kd.int .u8) 5 W1 W.heap.size ok b xb) (k : Nat) (hk : v.ownBlock = some k) : b.ownBlock ≠ some k := fun e => by
  have h1 := Kd.R_lt h k hk
  have h2 := Kd.R_base hb k e
  omega
theorem raw_cell {W : World} {base g n c : Nat} {ok : Nat → Prop} {xs : List (List Value)} (h : Kd.R (Kd.raw 1) 23 W base ok (.slice (some ⟨g, 0, none⟩) n c) xs) (i : Nat) (u : Value) (hu : xs[i]? = some [u]) : W.cell? ⟨g, i, none⟩ = some u := by
  obtain ⟨hn, _, hC⟩ := Kd.R_reads' h
  have hi : i < xs.length := (List.getElem?_eq_some_iff.1 hu).1
  obtain ⟨ad, cs, e, _, hK, hc⟩ := Kd.C_get hC [] (i : Int) (Int.natCast_nonneg _) (by omega)
  injection e with e
  subst e
  rw [Int.toNat_natCast, List.getD_eq_getElem?_getD, hu] at hK
  have hcs : cs = [u] := hK.1
  subst hcs
  have := hc 0 u rfl
  rw [Int.toNat_natCast] at this
  simp [Addr.add, Kd.raw] at this
  split at this
  · rename_i h0; subst h0; exact this
  · exact this
theorem reads_two (W : World) (a b : Value) (t : Nat) (ha : a.oneCell' = true) (hb : b.oneCell' = true) : ReadsRow (fun (x : List Value) cs => cs = x ∧ cs.length = 1 ∧ ∀ u ∈ cs, u.oneCell' = true) 1 (W.alloc (.cells #[a, b] t (0, 0))) (some ⟨W.heap.size, 0, none⟩) 2 [[a], [b]] := by
  refine ⟨rfl, by decide, fun _ => ⟨_, rfl, fun j p hj => ?_⟩⟩
  have hb0 := blk_new W (.cells #[a, b] t (0, 0))
  match j, hj with
  | 0, hj =>
    obtain rfl : [a] = p := by simpa using hj
    refine ⟨[a], rfl, ⟨rfl, rfl, by simpa using ha⟩, fun i u hi => ?_⟩
    match i, hi with
    | 0, hi =>
      obtain rfl : a = u := by simpa using hi
      exact (blk_cell hb0 0).trans rfl
    | i + 1, hi => simp at hi
  | 1, hj =>
    obtain rfl : [b] = p := by simpa using hj
    refine ⟨[b], rfl, ⟨rfl, rfl, by simpa using hb⟩, fun i u hi => ?_⟩
    match i, hi with
    | 0, hi =>
      obtain rfl : b = u := by simpa using hi
      exact (blk_cell hb0 1).trans rfl
    | i + 1, hi => simp at hi
  | j + 2, hj => simp at hj
end Go.Proofs.Ythggjlfiliggjaa.Own
