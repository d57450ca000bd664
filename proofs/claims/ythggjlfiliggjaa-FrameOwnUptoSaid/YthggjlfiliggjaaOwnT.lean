/- By hand: FrameOwn's round: two lists are held, the rows are filled. -/
import Derived.Test.YthggjlfiliggjaaOwn7
namespace Go.Proofs.Ythggjlfiliggjaa.Own
open Go.RowKit Go.Proofs.Ythggjlfiliggjaa.QFr Go.Proofs.YthggjlfiliggjaaW.PrintWords Go.Proofs.YthggjlfiliggjaaW.PrintLast Go.Proofs.YthggjlfiliggjaaW.PrintMore Go.Proofs.Ythggjlfiliggjaa.Crc Go.Proofs.Ythggjlfiliggjaa.QFrExt Go.Proofs.Ythggjlfiliggjaa.FrPure Go.Proofs.Ythggjlfiliggjaa.FrLaws
set_option linter.unusedVariables false
set_option linter.unusedSimpArgs false

theorem info60 : (Try.prog.info? 60).map (fun i => (i.zero, i.size, i.bytes)) = some (some (.agg #[.slice none 0 0, .slice none 0 0, .slice none 0 0]), 3, 72) := by kernel_rfl
/-- none of the rows' blocks -/
abbrev Away (rows : List (Value × List Int)) : Nat → Prop := fun k => ∀ p ∈ rows, some k ≠ p.1.ownBlock
abbrev Off (rows : List (Value × List Int)) (s0 : Nat) : Nat → Prop := fun k => s0 ≤ k ∧ Away rows k
theorem perm6 {α : Type} (p o g c b a : α) : [b, o, a, g, c, p].Perm [p, o, g, c, b, a] :=
  List.Perm.map (fun i : Fin 6 => [p, o, g, c, b, a].get i) (by decide : ([4, 1, 5, 2, 3, 0] : List (Fin 6)).Perm [0, 1, 2, 3, 4, 5])
section
variable {w : World} {s0 : Nat} {v3 : Value} {hs : List QOwn.S60} {rows : List (Value × List Int)} {bx : List (Nat × Array Value)} {W W1 W2 : World}
theorem RS.hold {v : Value} {l : List Int} {n : Nat} (h : RS w s0 v3 hs ((v, l) :: rows) bx W) (hn : l.length = n) (hl : n ≤ 4194304) (m : Int) (hm : 0 ≤ m ∧ m < 256) :
    Calls Try.prog 33 #[v, .int .u8 m] W fun e W' => ∃ (v1 v2 : Value) (mo : List Int), e = .returned (.agg #[v, v1, v2]) ∧ mo.length = 64 ∧ RS w s0 v3 hs rows bx W' ∧
      QOwn.k60.M W' w.heap.size (Off rows s0) ⟨List.replicate n m, List.replicate n m ++ mo, List.replicate n m ++ mo⟩ [v, v1, v2] ∧ Kept W W' (fun k => some k = v.ownBlock) := by
  subst hn
  refine (Own.hold v l m w W h.bel (h.row _ List.mem_cons_self) hm hl).mono ?_
  rintro e W' ⟨v1, v2, mo, rfl, hmo, r0, r1, r2, hb, hk⟩
  have hoff : ∀ k, (some k = v.ownBlock ∨ W.heap.size ≤ k) → Off rows s0 k := by
    rintro k (hk | hk)
    · exact ⟨h.low _ List.mem_cons_self k hk.symm, fun p hp e => (List.pairwise_cons.1 h.apart).1 p hp k hk.symm e.symm⟩
    · exact ⟨Nat.le_trans h.le hk, fun p hp e => by have := Kd.R_lt (h.row p (List.mem_cons_of_mem _ hp)) k e.symm; omega⟩
  exact ⟨v1, v2, mo, rfl, hmo, h.write hk hb, QOwn.k60_mkM _ _ _ ⟨_, _, _⟩ (Kd.R_mono r0 hoff) (Kd.R_mono r1 hoff) (Kd.R_mono r2 hoff), hk⟩
theorem held_kept {v : Value} {l : List Int} {base : Nat} {x : QOwn.S60} {cs : List Value} (h : QOwn.k60.M W base (Off ((v, l) :: rows) s0) x cs) (hk : Kept W W1 (fun k => some k = v.ownBlock)) : QOwn.k60.M W1 base (Off rows s0) x cs :=
  QOwn.k60.M_mono (fun k hk => ⟨hk.1, fun p hp => hk.2 p (List.mem_cons_of_mem _ hp)⟩) (Kd.M_step h (fun k hk1 hlt => hk.2 k hlt (fun e => hk1.2 _ List.mem_cons_self e)))
theorem RS.held' (h : RS w s0 v3 hs rows bx W) : Kd.R QOwn.k60 60 W w.heap.size (Away rows) v3 hs :=
  Kd.R_mono h.held (fun k hk p hp e => by have := h.low p hp k e.symm; omega)
theorem RS.off (h : RS w s0 v3 hs rows bx W) (k : Nat) (hk : Off rows s0 k) : Away rows k ∧ some k ≠ v3.ownBlock :=
  ⟨hk.2, fun e => by have h1 := hk.1; have h2 : k < s0 := h.held.1 k e.symm; omega⟩
theorem RS.new (h : RS w s0 v3 hs rows bx W) (k : Nat) (hk : W.heap.size ≤ k) : Off rows s0 k :=
  ⟨Nat.le_trans h.le hk, fun p hp e => by have := Kd.R_lt (h.row p hp) k e.symm; omega⟩
theorem RS.quiet (h : RS w s0 v3 hs rows bx W) (hg : W.grownBy W1 none) (hb : Below w.heap.size w W1) : RS w s0 v3 hs rows bx W1 :=
  ⟨Kd.R_grown h.held hg (fun k _ e => by simp at e), fun p hp => Kd.R_grown (h.row p hp) hg (fun k _ e => by simp at e), h.low, h.apart, fun p hp => ⟨blk_grown (h.box p hp).1 hg (by simp), (h.box p hp).2⟩, hb, Nat.le_trans h.le hg.size, h.le0⟩

/-- What FrameOwn holds in a round's second half. -/
structure RT (w : World) (v3 : Value) (hs : List QOwn.S60) (rows : List (Value × List Int)) (W : World) : Prop where
  held : Kd.R QOwn.k60 60 W w.heap.size (Away rows) v3 hs
  row : ∀ p ∈ rows, OR W w.heap.size p.1 p.2
  apart : rows.Pairwise Apart
  bel : Below w.heap.size w W
theorem RS.joined {v4 : Value} {hs' : List QOwn.S60} (h : RS w s0 v3 hs rows bx W) (hg : W.grownBy W1 v3.ownBlock) (hb : Below w.heap.size w W1) (hr : Kd.R QOwn.k60 60 W1 w.heap.size (Away rows) v4 hs') : RT w v4 hs' rows W1 :=
  ⟨hr, fun p hp => Kd.R_grown (h.row p hp) hg (fun k hk e => by have h1 := h.low p hp k hk.symm; have h2 : k < s0 := h.held.1 k e.symm; omega), h.apart, hb⟩
theorem RT.below (h : RT w v3 hs rows W) (hb : Below W.heap.size W W1) : RT w v3 hs rows W1 :=
  ⟨Kd.R_below h.held hb, fun p hp => OR.below (h.row p hp) hb, h.apart, below_then h.bel h.bel.size hb⟩
theorem RT.fill {v : Value} {l : List Int} {n : Nat} (h : RT w v3 hs ((v, l) :: rows) W) (hn : l.length = n) (hl : n ≤ 8388608) (m : Int) :
    Calls Try.prog 34 #[v, .int .u8 m] W fun e W' => e = .returned (.tuple #[]) ∧ RT w v3 hs ((v, List.replicate n m) :: rows) W' := by
  subst hn
  refine (Own.fill (fun k => some k = v.ownBlock) v l m w W h.bel (h.row _ List.mem_cons_self) hl).mono ?_
  rintro e W' ⟨rfl, hr, hk, hb⟩
  have hap := List.pairwise_cons.1 h.apart
  refine ⟨rfl, ?_, fun p hp => ?_, List.pairwise_cons.2 ⟨fun q hq => hap.1 q hq, hap.2⟩, hb⟩
  · refine Kd.R_mono (Kd.R_kept h.held hk (fun k h1 h2 => h1 _ List.mem_cons_self h2)) (fun k hk p hp => ?_)
    rcases List.mem_cons.1 hp with rfl | hp
    · exact hk (v, l) List.mem_cons_self
    · exact hk p (List.mem_cons_of_mem _ hp)
  · rcases List.mem_cons.1 hp with rfl | hp
    · exact hr
    · exact Kd.R_kept (h.row p (List.mem_cons_of_mem _ hp)) hk (fun k h1 h2 => hap.1 p hp k h2.symm h1.symm)
theorem RT.swap {a b : Value × List Int} (h : RT w v3 hs (a :: b :: rows) W) : RT w v3 hs (b :: a :: rows) W :=
  have hp : (b :: a :: rows).Perm (a :: b :: rows) := List.Perm.swap _ _ _
  ⟨Kd.R_mono h.held (fun k hk p hq => hk p (hp.subset hq)), fun p hq => h.row p (hp.subset hq), (hp.pairwise_iff (fun h => Apart.symm h)).2 h.apart, h.bel⟩
theorem RT.of (h : RT w v3 hs rows W) (i : Nat) {A : Option Addr} {n c : Nat} {l : List Int} (hi : rows[i]? = some (.slice A n c, l)) : RD W A n c l := (h.row _ (List.mem_of_getElem? hi)).rd
theorem RT.cut (h : RT w v3 hs rows W) (i : Nat) {g m c n : Nat} {x : Int} (hi : rows[i]? = some (.slice (some ⟨g, 0, none⟩) m c, List.replicate (n + 8) x)) : RD W (some ⟨g, 0, none⟩) n c (List.replicate n x) := by
  have h1 := h.row _ (List.mem_of_getElem? hi)
  rw [← List.replicate_append_replicate] at h1
  have h2 := take_row h1
  rwa [List.length_replicate] at h2
theorem RT.still {Ah : Option Addr} {m ch : Nat} (h : RT w (.slice Ah m ch) hs rows W) (hh : ∀ x ∈ hs, Stays x) (hm : m ≤ 140737488355000) : Calls Try.prog 32 #[.slice Ah m ch] W fun e w' => e = .returned (.bool true) ∧ Below W.heap.size W w' := by
  obtain ⟨h1, h2, h3⟩ := Kd.R_reads' h.held
  rw [← h1] at h3
  exact c_still h3 h2 hh hm
theorem u8_wrap (x : Int) : 0 ≤ Go.IntKind.u8.wrap x ∧ Go.IntKind.u8.wrap x < 256 := by
  have h1 := Int.emod_nonneg x (b := 256) (by decide)
  have h2 := Int.emod_lt_of_pos x (b := 256) (by decide)
  exact ⟨h1, h2⟩
theorem reps_two {α : Type} {R : α → List Value → Prop} {a b : α} {p0 p1 p2 q0 q1 q2 : Value} (ha : R a [p0, p1, p2]) (hb : R b [q0, q1, q2]) : Reps R 3 [a, b] [p0, p1, p2, q0, q1, q2] :=
  (Reps.snoc (Reps.snoc (Reps.none R 3) ha rfl) hb rfl : Reps R 3 ([] ++ [a] ++ [b]) ([] ++ [p0, p1, p2] ++ [q0, q1, q2]))
theorem stays_more {hs : List QOwn.S60} {x y : QOwn.S60} (h : ∀ z ∈ hs, Stays z) (hx : Stays x) (hy : Stays y) : ∀ z ∈ hs ++ [x, y], Stays z := fun z hz => by
  rcases List.mem_append.1 hz with hz | hz
  · exact h z hz
  · simp only [List.mem_cons, List.not_mem_nil, or_false] at hz
    rcases hz with rfl | rfl
    · exact hx
    · exact hy
theorem rep_bytes {n : Nat} {m : Int} (hm : 0 ≤ m ∧ m < 256) : Bytes (List.replicate n m) := fun x hx => by
  obtain ⟨_, rfl⟩ := List.mem_replicate.1 hx
  exact hm
theorem RT.again {gw ga n m cw ca : Nat} {x y : Int} (h : RT w v3 hs ((.slice (some ⟨gw, 0, none⟩) (n + 8) cw, List.replicate (n + 8) x) :: (.slice (some ⟨ga, 0, none⟩) (m + 8) ca, List.replicate (m + 8) y) :: rows) W) (hx : 0 ≤ x ∧ x < 256) (hy : 0 ≤ y ∧ y < 256) (hn : n ≤ 4194304) (hm : m ≤ 4194304) (kind gen size : Int) (body : List Int) (hi : ItemOk ((kind, gen, body), size)) (A2 : Option Addr) (n2 c2 : Nat) :
    Calls Try.prog 35 #[.slice (some ⟨gw, 0, none⟩) n cw, .slice (some ⟨ga, 0, none⟩) m ca, .agg #[.int .u8 kind, .int .u64 gen, .slice A2 n2 c2, .int .i64 size]] W fun e w' => e = .returned (.bool true) ∧ Below W.heap.size W w' := by
  have hin : RD W (some ⟨gw, 0, none⟩) n cw (List.replicate n x) := h.cut 0 rfl
  have hbo : RD W (some ⟨ga, 0, none⟩) m ca (List.replicate m y) := h.cut 1 rfl
  exact anew (l2 := []) hin hbo (rep_bytes hx) (rep_bytes hy) kind gen size hi.k hi.g hn hm
end
end Go.Proofs.Ythggjlfiliggjaa.Own
