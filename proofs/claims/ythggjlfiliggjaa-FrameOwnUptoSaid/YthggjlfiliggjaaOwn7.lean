/- By hand: what FrameOwn holds in a round: the held lists, rows of its own (no two of one block), boxes. -/
import Derived.Test.YthggjlfiliggjaaOwn6
namespace Go.Proofs.Ythggjlfiliggjaa.Own
open Go.RowKit Go.Proofs.Ythggjlfiliggjaa.QFr Go.Proofs.YthggjlfiliggjaaW.PrintWords Go.Proofs.YthggjlfiliggjaaW.PrintLast Go.Proofs.YthggjlfiliggjaaW.PrintMore Go.Proofs.Ythggjlfiliggjaa.Crc Go.Proofs.Ythggjlfiliggjaa.QFrExt Go.Proofs.Ythggjlfiliggjaa.FrPure Go.Proofs.Ythggjlfiliggjaa.FrLaws
set_option linter.unusedVariables false
set_option linter.unusedSimpArgs false

/-- no two of one block -/
abbrev Apart (p q : Value × List Int) : Prop := ∀ k, p.1.ownBlock = some k → q.1.ownBlock ≠ some k
theorem Apart.symm {p q : Value × List Int} (h : Apart p q) : Apart q p := fun k h1 h2 => h k h2 h1
structure RS (w : World) (s0 : Nat) (v3 : Value) (hs : List QOwn.S60) (rows : List (Value × List Int)) (bx : List (Nat × Array Value)) (W : World) : Prop where
  held : Kd.R QOwn.k60 60 W w.heap.size (fun k => k < s0) v3 hs
  row : ∀ p ∈ rows, OR W w.heap.size p.1 p.2
  low : ∀ p ∈ rows, ∀ k, p.1.ownBlock = some k → s0 ≤ k
  apart : rows.Pairwise Apart
  box : ∀ p ∈ bx, W.heap[p.1]? = some (.cells p.2 35 (0, 0)) ∧ s0 ≤ p.1
  bel : Below w.heap.size w W
  le : s0 ≤ W.heap.size
  le0 : w.heap.size ≤ s0
section
variable {w : World} {s0 : Nat} {v3 : Value} {hs : List QOwn.S60} {rows : List (Value × List Int)} {bx : List (Nat × Array Value)} {W W1 : World}
theorem RS.start (h : Kd.R QOwn.k60 60 W w.heap.size (fun _ => True) v3 hs) (hb : Below w.heap.size w W) : RS w W.heap.size v3 hs [] [] W :=
  ⟨Kd.R_mono (Kd.R_bound h) (fun k hk => hk.2.2.1), fun p hp => by simp at hp, fun p hp => by simp at hp, List.Pairwise.nil, fun p hp => by simp at hp, hb, Nat.le_refl _, hb.size⟩
theorem RS.below (h : RS w s0 v3 hs rows bx W) (hb : Below W.heap.size W W1) : RS w s0 v3 hs rows bx W1 :=
  ⟨Kd.R_below h.held hb, fun p hp => OR.below (h.row p hp) hb, h.low, h.apart, fun p hp => ⟨blk_below (h.box p hp).1 hb, (h.box p hp).2⟩, below_then h.bel h.bel.size hb, Nat.le_trans h.le hb.size, h.le0⟩
theorem RS.add (h : RS w s0 v3 hs rows bx W) (hb : Below W.heap.size W W1) {v : Value} {l : List Int} {ok : Nat → Prop} (hr : Kd.R (Kd.int .u8) 5 W1 W.heap.size ok v l) : RS w s0 v3 hs ((v, l) :: rows) bx W1 := by
  have h1 := h.below hb
  refine ⟨h1.held, fun p hp => ?_, fun p hp k hk => ?_, List.pairwise_cons.2 ⟨fun q hq k hk e => ?_, h.apart⟩, h1.box, h1.bel, h1.le, h1.le0⟩
  · rcases List.mem_cons.1 hp with rfl | hp
    · exact Kd.R_lower (Kd.R_tight rfl hr) (Nat.le_trans h.le0 h.le)
    · exact h1.row p hp
  · rcases List.mem_cons.1 hp with rfl | hp
    · exact Nat.le_trans h.le (Kd.R_base hr k hk)
    · exact h.low p hp k hk
  · have h2 := Kd.R_lt (h.row q hq) k e
    have h3 := Kd.R_base hr k hk
    omega
theorem RS.perm {rows' : List (Value × List Int)} (h : RS w s0 v3 hs rows bx W) (hp : rows'.Perm rows) : RS w s0 v3 hs rows' bx W :=
  ⟨h.held, fun p hq => h.row p (hp.subset hq), fun p hq => h.low p (hp.subset hq), (hp.pairwise_iff (fun h => Apart.symm h)).2 h.apart, h.box, h.bel, h.le, h.le0⟩
/-- A box is written. -/
theorem RS.store {g : Nat} {a b c : Value} (h : RS w s0 v3 hs rows bx W) (blk : W.heap[g]? = some (.cells #[a, b, c] 35 (0, 0))) (hg : s0 ≤ g) (hn : ∀ p ∈ bx, p.1 ≠ g) (v0 v1 v2 : Value) :
    RS w s0 v3 hs rows ((g, #[v0, v1, v2]) :: bx) (((W.setCell ⟨g, 0, none⟩ v0).setCell ⟨g, 1, none⟩ v1).setCell ⟨g, 2, none⟩ v2) := by
  obtain ⟨p1, p2, p3⟩ := putS35 blk h.bel (Nat.le_trans h.le0 hg) v0 v1 v2
  refine ⟨Kd.R_grown h.held p3 (fun k hk e => by injection e with e; omega), fun p hp => OR.far (h.row p hp) blk p3, h.low, h.apart, fun p hp => ?_, p2, Nat.le_trans h.le p3.size, h.le0⟩
  rcases List.mem_cons.1 hp with rfl | hp
  · exact ⟨p1, hg⟩
  · exact ⟨blk_grown (h.box p hp).1 p3 (fun e => hn p hp (Option.some.inj e)), (h.box p hp).2⟩
/-- The first row is written (and leaves); all else stays. -/
theorem RS.write {u : Value} {l : List Int} (h : RS w s0 v3 hs ((u, l) :: rows) bx W) (hk : Kept W W1 (fun k => some k = u.ownBlock)) (hb : Below w.heap.size w W1) : RS w s0 v3 hs rows bx W1 := by
  have hu := h.row _ List.mem_cons_self
  have hap := List.pairwise_cons.1 h.apart
  refine ⟨Kd.R_kept h.held hk (fun k h1 h2 => by have := h.low _ List.mem_cons_self k h2.symm; omega), fun p hp => Kd.R_kept (h.row p (List.mem_cons_of_mem _ hp)) hk (fun k h1 h2 => hap.1 p hp k h2.symm h1.symm), fun p hp => h.low p (List.mem_cons_of_mem _ hp), hap.2, fun p hp => ?_, hb, Nat.le_trans h.le hk.1, h.le0⟩
  exact ⟨blk_kept (h.box p hp).1 hk (fun e => Kd.R_ne hu (h.box p hp).1 (by decide) e), (h.box p hp).2⟩
end
end Go.Proofs.Ythggjlfiliggjaa.Own
