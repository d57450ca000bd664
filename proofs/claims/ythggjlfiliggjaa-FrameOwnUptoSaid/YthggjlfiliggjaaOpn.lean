/- How an argument's memory opens: a type's reading as data gives the reading that the printed contracts ask for, what is known of the numbers, and how much it holds. -/
import Derived.Test.YthggjlfiliggjaaRows
import Derived.Test.YthggjlfiliggjaaWMore
import Derived.Deep.Slices
import Derived.WideShapes
import Derived.ChangeArms
import Derived.SizedLaws
namespace Go.Proofs.Ythggjlfiliggjaa.Opn
open Go.RowKit Go.Proofs.YthggjlfiliggjaaW.PrintWords Go.Proofs.YthggjlfiliggjaaW.PrintLast Go.Proofs.YthggjlfiliggjaaW.PrintMore Go.Deep Go.WideShapes
set_option linter.unusedVariables false
set_option linter.unusedSimpArgs false

def Opn (P : Program) (t : TypeId) {α : Type} (d : Kd α) (G : α → Prop) (bulk : α → Nat) : Prop :=
  ∀ {H : Type} (enc : TypeId × Value → H) (w : World) (fuel : Nat) (cs : List Value) (x : DataW H) (ps : List MemPlace),
    DataW.trod enc P w 0 (fun _ => true) true fuel t cs = some (x, ps) →
      ∃ a, d.K w a cs ∧ ((∀ n ∈ x.weights P t, n ≤ reachBytes) → G a) ∧ bulk a ≤ Rows.uptoBulk x

section
variable {P : Program} {t : TypeId}
theorem opn_int {k : IntKind} (hu : P.underlying t = some (.int k)) : Opn P t (Kd.int k) (fun a => (Lit.int k a).wf = true) (fun _ => 1) := by
  intro H enc w fuel cs x ps h
  obtain ⟨n, rfl, hx, hw⟩ := DataW.trod_int hu h
  injection hx with hx _
  subst hx
  exact ⟨n, rfl, fun _ => hw, by simp [Rows.uptoBulk]⟩
theorem opn_bool (hu : P.underlying t = some .bool) : Opn P t Kd.bool (fun _ => True) (fun _ => 1) := by
  intro H enc w fuel cs x ps h
  obtain ⟨b, rfl, hx⟩ := DataW.trod_bool hu h
  injection hx with hx _
  subst hx
  exact ⟨b, rfl, fun _ => trivial, by simp [Rows.uptoBulk]⟩
theorem opn_string (hu : P.underlying t = some .string) : Opn P t Kd.string (fun s => s.size ≤ reachBytes ∧ s.size ≤ maxLen) (fun s => s.size + 1) := by
  intro H enc w fuel cs x ps h
  obtain ⟨s, rfl, hx, hm⟩ := DataW.trod_string hu h
  injection hx with hx _
  subst hx
  have hl : s.data.toList.length = s.size := by rw [Array.length_toList]; rfl
  refine ⟨s, rfl, fun hw => ⟨?_, hm⟩, ?_⟩
  · have := hw s.data.toList.length (by simp [DataW.weights])
    rwa [hl] at this
  · simp only [Rows.uptoBulk, hl]
    exact Nat.le_refl _
theorem mapM_range_some {α : Type} (f : Nat → Option α) : ∀ (n : Nat) (l : List α), (List.range n).mapM f = some l → l.length = n ∧ ∀ i u, l[i]? = some u → f i = some u := by
  intro n
  induction n with
  | zero =>
    intro l h
    have : l = [] := by simpa using h
    subst this
    exact ⟨rfl, fun i u hu => by simp at hu⟩
  | succ n ih =>
    intro l h
    rw [List.range_succ, List.mapM_append] at h
    simp only [Option.bind_eq_bind, Option.bind_eq_some_iff] at h
    obtain ⟨a, ha, b, hb, hl⟩ := h
    obtain ⟨h1, h2⟩ := ih a ha
    simp only [List.mapM_cons, List.mapM_nil, Option.bind_eq_bind, Option.bind_eq_some_iff] at hb
    obtain ⟨c, hc, d, hd, hb⟩ := hb
    have hd' : d = [] := by simpa using hd.symm
    subst hd'
    have hb' : b = [c] := by simpa using hb.symm
    subst hb'
    have hl' : l = a ++ [c] := by simpa using hl.symm
    subst hl'
    refine ⟨by simp [h1], fun i u hu => ?_⟩
    rcases Nat.lt_or_ge i a.length with hi | hi
    · rw [List.getElem?_append_left hi] at hu
      exact h2 i u hu
    · rw [List.getElem?_append_right hi] at hu
      have hi0 : i - a.length = 0 := by
        rcases Nat.eq_zero_or_pos (i - a.length) with h0 | h0
        · exact h0
        · rw [List.getElem?_eq_none (by simp; omega)] at hu; cases hu
      rw [hi0] at hu
      have : c = u := by simpa using hu
      subst this
      have : i = n := by omega
      subst this
      exact hc
theorem cells_at {w : World} {base : Nat} {a : Addr} {n : Nat} {cs : List Value} (h : w.cells? base a n = some cs) : cs.length = n ∧ ∀ i u, cs[i]? = some u → w.cell? (a.add i) = some u := by
  unfold World.cells? at h
  split at h
  · exact mapM_range_some _ n cs h
  · cases h
theorem weightsAll_mem {H : Type} {e : TypeId} : ∀ {l : List (DataW H)} {d : DataW H}, d ∈ l → ∀ n ∈ d.weights P e, n ∈ DataW.weightsAll P e l
  | [], _, h, _, _ => by cases h
  | x :: r, d, h, n, hn => by
    simp only [DataW.weightsAll, List.mem_append]
    rcases List.mem_cons.1 h with rfl | h
    · exact .inl hn
    · exact .inr (weightsAll_mem h n hn)
theorem sum_le {H : Type} {α : Type} (b : α → Nat) (D : Nat → DataW H) (A : Nat → α) : ∀ (n : Nat), (∀ i, i < n → b (A i) ≤ Rows.uptoBulk (D i)) → (((List.range n).map A).map b).sum ≤ Rows.uptoBulkAll ((List.range n).map D) := by
  intro n
  induction n with
  | zero => intro _; simp [Rows.uptoBulkAll]
  | succ n ih =>
    intro h
    have h1 := ih (fun i hi => h i (by omega))
    have h2 := h n (by omega)
    have happ : ∀ (l r : List (DataW H)), Rows.uptoBulkAll (l ++ r) = Rows.uptoBulkAll l + Rows.uptoBulkAll r := by
      intro l r
      induction l with
      | nil => simp [Rows.uptoBulkAll]
      | cons x l ih => simp only [List.cons_append, Rows.uptoBulkAll, ih]; omega
    rw [List.range_succ, List.map_append, List.map_append, List.map_append, List.sum_append, happ]
    simp only [List.map_cons, List.map_nil, List.sum_cons, List.sum_nil, Rows.uptoBulkAll]
    omega
theorem opn_slice {e : TypeId} {α : Type} {d : Kd α} {G : α → Prop} {b : α → Nat} (hu : P.underlying t = some (.slice e)) (hc : P.cellsOf e = d.sz) (h : Opn P e d G b) :
    Opn P t (Kd.slice e d) (fun xs => xs.length * P.bytesOf e ≤ reachBytes ∧ xs.length ≤ maxLen ∧ ∀ x ∈ xs, G x) (fun xs => (xs.map b).sum + 1) := by
  intro H enc w fuel cs x ps hx
  rcases open_slice hu hx with ⟨rfl, hxx⟩ | ⟨a, len, cap, m, n, D, Pl, rfl, hb, hl, hm, hmm, hxx, hel⟩
  · injection hxx with hxx _
    subst hxx
    refine ⟨[], ⟨none, 0, rfl, Nat.le_refl _, rfl, by simp, fun hn => absurd hn (Nat.lt_irrefl _)⟩, fun _ => ⟨by simp, by simp, fun x hx => by cases hx⟩, by simp [Rows.uptoBulk]⟩
  · injection hxx with hxx _
    subst hxx
    have hm' : m = cap := by simpa using hmm
    have key : ∀ i, i < len → ∃ a_ cs', w.cells? 0 (a.add (i * P.cellsOf e)) (P.cellsOf e) = some cs' ∧ d.K w a_ cs' ∧ ((∀ n ∈ (D i).weights P e, n ≤ reachBytes) → G a_) ∧ b a_ ≤ Rows.uptoBulk (D i) := by
      intro i hi
      obtain ⟨cs', h1, h2⟩ := hel i (by omega)
      obtain ⟨a_, h3, h4, h5⟩ := h enc w n cs' (D i) (Pl i) h2
      exact ⟨a_, cs', h1, h3, h4, h5⟩
    rcases Nat.eq_zero_or_pos len with h0 | h0
    · subst h0
      refine ⟨[], ⟨some a, cap, rfl, hl, rfl, by simp, fun hn => absurd hn (Nat.lt_irrefl _)⟩, fun _ => ⟨by simp, by simp, fun x hx => by cases hx⟩, by simp [Rows.uptoBulk]⟩
    · obtain ⟨a0, _⟩ := key 0 h0
      have key2 : ∀ i, ∃ a_, i < len → ∃ cs', w.cells? 0 (a.add (i * P.cellsOf e)) (P.cellsOf e) = some cs' ∧ d.K w a_ cs' ∧ ((∀ n ∈ (D i).weights P e, n ≤ reachBytes) → G a_) ∧ b a_ ≤ Rows.uptoBulk (D i) := by
        intro i
        by_cases hi : i < len
        · obtain ⟨a_, cs', hh⟩ := key i hi
          exact ⟨a_, fun _ => ⟨cs', hh⟩⟩
        · exact ⟨a0, fun hi' => absurd hi' hi⟩
      obtain ⟨A, hA⟩ := Classical.axiomOfChoice key2
      refine ⟨(List.range len).map A, ⟨some a, cap, by simp, by simpa using hl, ?_⟩, ?_, ?_⟩
      · refine ⟨by simp, by simp [maxLen] at hm ⊢; omega, fun _ => ⟨a, rfl, fun j p hj => ?_⟩⟩
        have hjl : j < len := by
          have := (List.getElem?_eq_some_iff.1 hj).1
          simpa using this
        have hjp : A j = p := by simpa [hjl] using hj
        subst hjp
        obtain ⟨cs', h1, h2, _⟩ := hA j hjl
        obtain ⟨hlen, hcell⟩ := cells_at h1
        refine ⟨cs', by rw [hlen, hc], h2, fun i u hu => ?_⟩
        have := hcell i u hu
        rwa [Go.Deep.add_add, hc] at this
      · intro hw
        have h1 := hw ((len + (cap - len)) * P.bytesOf e) (by simp [DataW.weights, hu, hm'])
        refine ⟨?_, by rw [List.length_map, List.length_range]; omega, fun x hx => ?_⟩
        · rw [List.length_map, List.length_range]
          exact Nat.le_trans (Nat.mul_le_mul_right _ (by omega)) h1
        · obtain ⟨i, hi, rfl⟩ := List.mem_map.1 hx
          have hil : i < len := List.mem_range.1 hi
          obtain ⟨_, _, _, h4, _⟩ := hA i hil
          refine h4 (fun q hq => hw q ?_)
          have h5 := weightsAll_mem (l := (List.range len).map D) (d := D i) (e := e) (List.mem_map.2 ⟨i, hi, rfl⟩) q hq
          simp only [DataW.weights, hu, List.mem_cons, List.mem_append]
          exact .inr (.inl h5)
      · have := sum_le b D A len (fun i hi => by obtain ⟨_, _, _, _, h5⟩ := hA i hi; exact h5)
        simp only [Rows.uptoBulk]
        omega
/-- The fields of a struct, from an offset on. -/
def OpnF (P : Program) (fs : List Field) (off : Nat) {α : Type} (d : Kd α) (G : α → Prop) (bulk : α → Nat) : Prop :=
  ∀ {H : Type} (enc : TypeId × Value → H) (w : World) (fuel : Nat) (cs : List Value) (xs : List (DataW H × List MemPlace)),
    (fs.mapM fun f => DataW.trod enc P w 0 (fun _ => true) true fuel f.type ((cs.drop f.offset).take (P.cellsOf f.type))) = some xs →
      ∃ a, d.K w a ((cs.drop off).take d.sz) ∧ ((∀ n ∈ DataW.weightsEach P (fs.map (·.type)) (xs.map (·.1)), n ≤ reachBytes) → G a) ∧ bulk a ≤ Rows.uptoBulkAll (xs.map (·.1))
theorem opnF_one {f : Field} {off : Nat} {α : Type} {d : Kd α} {G : α → Prop} {b : α → Nat} (h : Opn P f.type d G b) (ho : f.offset = off) (hc : P.cellsOf f.type = d.sz) : OpnF P [f] off d G b := by
  intro H enc w fuel cs xs hx
  simp only [List.mapM_cons, List.mapM_nil, Option.bind_eq_bind, Option.bind_eq_some_iff] at hx
  obtain ⟨⟨x, ps⟩, h1, ys, hys, hx⟩ := hx
  have hys' : ys = [] := by simpa using hys.symm
  subst hys'
  have hxs : xs = [(x, ps)] := by simpa using hx.symm
  subst hxs
  rw [ho, hc] at h1
  obtain ⟨a, h2, h3, h4⟩ := h enc w fuel _ x ps h1
  refine ⟨a, h2, fun hw => h3 (fun n hn => hw n ?_), ?_⟩
  · simpa [DataW.weightsEach] using hn
  · simpa [Rows.uptoBulkAll] using h4
theorem opnF_cons {f : Field} {fs : List Field} {off : Nat} {α β : Type} {d1 : Kd α} {d2 : Kd β} {G1 : α → Prop} {b1 : α → Nat} {G2 : β → Prop} {b2 : β → Nat} (h : Opn P f.type d1 G1 b1) (ho : f.offset = off) (hc : P.cellsOf f.type = d1.sz)
    (hs : OpnF P fs (off + d1.sz) d2 G2 b2) : OpnF P (f :: fs) off (Kd.pair d1 d2) (fun a => G1 a.1 ∧ G2 a.2) (fun a => b1 a.1 + b2 a.2) := by
  intro H enc w fuel cs xs hx
  simp only [List.mapM_cons, Option.bind_eq_bind, Option.bind_eq_some_iff] at hx
  obtain ⟨⟨x, ps⟩, h1, ys, hys, hx⟩ := hx
  have hxs : xs = (x, ps) :: ys := by simpa using hx.symm
  subst hxs
  rw [ho, hc] at h1
  obtain ⟨a, h2, h3, h4⟩ := h enc w fuel _ x ps h1
  obtain ⟨a', k2, k3, k4⟩ := hs enc w fuel cs ys hys
  refine ⟨(a, a'), ⟨_, _, ?_, h2, k2⟩, fun hw => ⟨h3 (fun n hn => hw n ?_), k3 (fun n hn => hw n ?_)⟩, ?_⟩
  · show (cs.drop off).take (d1.sz + d2.sz) = _
    rw [List.take_add, List.drop_drop]
  · simp only [List.map_cons, DataW.weightsEach, List.mem_append]
    exact .inl hn
  · simp only [List.map_cons, DataW.weightsEach, List.mem_append]
    exact .inr hn
  · simp only [List.map_cons, Rows.uptoBulkAll]
    omega
theorem opn_struct {fs : Array Field} {α : Type} {d : Kd α} {G : α → Prop} {b : α → Nat} (hu : P.underlying t = some (.struct fs)) (hc : P.cellsOf t = d.sz) (h : OpnF P fs.toList 0 d G b) : Opn P t d G (fun a => b a + 1) := by
  intro H enc w fuel cs x ps hx
  cases fuel with
  | zero => simp [DataW.trod] at hx
  | succ fuel =>
    unfold DataW.trod at hx
    rw [hu] at hx
    simp only at hx
    split at hx
    · rename_i hlen
      obtain ⟨xs, h1, h2⟩ := Option.map_eq_some_iff.1 hx
      injection h2 with h2 _
      subst h2
      obtain ⟨a, k1, k2, k3⟩ := h enc w fuel cs xs h1
      rw [List.drop_zero, ← hc, ← hlen, List.take_length] at k1
      refine ⟨a, k1, fun hw => k2 (fun n hn => hw n ?_), ?_⟩
      · simpa [DataW.weights, hu] using hn
      · simp only [Rows.uptoBulk]; omega
    · cases hx
theorem opn_iso {α β : Type} {d : Kd α} {G : α → Prop} {b : α → Nat} (f : β → α) (g : α → β) (hfg : ∀ a, f (g a) = a) (h : Opn P t d G b) : Opn P t (Kd.iso d f) (fun x => G (f x)) (fun x => b (f x)) := by
  intro H enc w fuel cs x ps hx
  obtain ⟨a, h1, h2, h3⟩ := h enc w fuel cs x ps hx
  refine ⟨g a, ?_, fun hw => ?_, ?_⟩
  · show d.K w (f (g a)) cs
    rw [hfg]; exact h1
  · show G (f (g a))
    rw [hfg]; exact h2 hw
  · show b (f (g a)) ≤ _
    rw [hfg]; exact h3
/-- An argument of a struct type. -/
theorem arg_struct {fs : Array Field} {α : Type} {d : Kd α} {G : α → Prop} {b : α → Nat} (hu : P.underlying t = some (.struct fs)) (h : Opn P t d G b) {H : Type} {enc : TypeId × Value → H} {w : World} {r : Reach} {base : Nat} {v : Value} {x : DataW H} {ps : List MemPlace}
    (hv : Value.okWide P w r base t v) (hx : DataW.Trod enc P w 0 (fun _ => true) true t v x ps) : ∃ (cs : List Value) (a : α), v = .agg cs.toArray ∧ d.K w a cs ∧ ((∀ n ∈ x.weights P t, n ≤ reachBytes) → G a) ∧ b a ≤ Rows.uptoBulk x := by
  obtain ⟨cs, rfl, _⟩ := okWide_struct hu hv
  obtain ⟨fuel, hf⟩ := hx
  obtain ⟨a, h1, h2, h3⟩ := h enc w fuel _ x ps hf
  exact ⟨cs.toList, a, by simp, by simpa [Value.cells] using h1, h2, h3⟩
/-- An argument of a slice type. -/
theorem arg_slice {e : TypeId} {α : Type} {d : Kd α} {G : List α → Prop} {b : List α → Nat} (hu : P.underlying t = some (.slice e)) (h : Opn P t (Kd.slice e d) G b) {H : Type} {enc : TypeId × Value → H} {w : World} {r : Reach} {base : Nat} {v : Value} {x : DataW H} {ps : List MemPlace}
    (hv : Value.okWide P w r base t v) (hx : DataW.Trod enc P w 0 (fun _ => true) true t v x ps) : ∃ (A : Option Addr) (c : Nat) (xs : List α), v = .slice A xs.length c ∧ xs.length ≤ c ∧ d.C w A xs.length xs ∧ ((∀ n ∈ x.weights P t, n ≤ reachBytes) → G xs) ∧ b xs ≤ Rows.uptoBulk x := by
  obtain ⟨a0, len, cap, rfl⟩ := okWide_slice hu hv
  obtain ⟨fuel, hf⟩ := hx
  obtain ⟨xs, ⟨A, c, h1, hlc, hC⟩, h2, h3⟩ := h enc w fuel _ x ps hf
  have h1' : Value.slice a0 len cap = .slice A xs.length c := by simpa [Value.cells] using h1
  exact ⟨A, c, xs, h1', hlc, hC, h2, h3⟩
end
end Go.Proofs.Ythggjlfiliggjaa.Opn
