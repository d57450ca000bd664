/- What was answered is the caller's own: behind every step each list that was answered so far is what the caller made of it, and no argument is changed. CONDITION: the items together hold at most 1048576 values (the statement's second form). -/
import Derived.Test.YthggjlfiliggjaaRows
import Derived.Test.YthggjlfiliggjaaOpn
import Derived.Test.YthggjlfiliggjaaOwn8
import Derived.WalkKit
import Derived.ProofKit
import Derived.OpenShut
import Derived.ShutString
import Derived.ChangeOld
import Derived.Below
import Derived.SizedLaws
import Derived.Deep.CondSized
namespace Go.Proofs.Ythggjlfiliggjaa.frameOwnRow
open Go.ChangeShapes Go.WideShapes Go.ChangeAt Go.RowKit
open Go.ChangeMaps (open_string shut_string)
open Go.Proofs.Ythggjlfiliggjaa.Own
set_option linter.unusedVariables false
set_option linter.unusedSimpArgs false
theorem own : ownKnob Try.prog.godebug = none := by kernel_rfl
theorem laidOut : laidOutB Try.prog = true := by kernel_rfl
theorem bytes5 : Try.prog.bytesOf 5 = 1 := by kernel_rfl
theorem wf_u8 {a : Int} (h : (Lit.int .u8 a).wf = true) : 0 ≤ a ∧ a < 256 := by simp [Lit.wf, IntKind.min, IntKind.max, IntKind.signed, IntKind.bits] at h; omega
theorem wf_u32 {a : Int} (h : (Lit.int .u32 a).wf = true) : 0 ≤ a ∧ a < 4294967296 := by simp [Lit.wf, IntKind.min, IntKind.max, IntKind.signed, IntKind.bits] at h; omega
theorem wf_u64 {a : Int} (h : (Lit.int .u64 a).wf = true) : 0 ≤ a ∧ a < 18446744073709551616 := by simp [Lit.wf, IntKind.min, IntKind.max, IntKind.signed, IntKind.bits] at h; omega
theorem wf_i64 {a : Int} (h : (Lit.int .i64 a).wf = true) : -9223372036854775808 ≤ a ∧ a ≤ 9223372036854775807 := by simp [Lit.wf, IntKind.min, IntKind.max, IntKind.signed, IntKind.bits] at h; omega
abbrev GF (x : Int × Int × List Int) : Prop := (Lit.int .u8 x.1).wf = true ∧ (Lit.int .u64 x.2.1).wf = true ∧ x.2.2.length * Try.prog.bytesOf 5 ≤ reachBytes ∧ x.2.2.length ≤ maxLen ∧ ∀ y ∈ x.2.2, (Lit.int .u8 y).wf = true
abbrev bF (x : Int × Int × List Int) : Nat := 1 + (1 + ((x.2.2.map (fun _ => 1)).sum + 1)) + 1
theorem opnF : Opn.Opn Try.prog 35 (Go.Proofs.YthggjlfiliggjaaW.PrintWords.Kd.pair (Go.Proofs.YthggjlfiliggjaaW.PrintWords.Kd.int .u8) (Go.Proofs.YthggjlfiliggjaaW.PrintWords.Kd.pair (Go.Proofs.YthggjlfiliggjaaW.PrintWords.Kd.int .u64) (Go.Proofs.YthggjlfiliggjaaW.PrintWords.Kd.slice 5 (Go.Proofs.YthggjlfiliggjaaW.PrintWords.Kd.int .u8)))) GF bF := Opn.opn_struct Try.underlying35 (by kernel_rfl) (Opn.opnF_cons (Opn.opn_int Try.underlying5) rfl (by kernel_rfl) (Opn.opnF_cons (Opn.opn_int Try.underlying33) rfl (by kernel_rfl) (Opn.opnF_one (Opn.opn_slice Try.underlying23 (by kernel_rfl) (Opn.opn_int Try.underlying5)) rfl (by kernel_rfl))))
abbrev GI (x : (Int × Int × List Int) × Int) : Prop := GF x.1 ∧ (Lit.int .i64 x.2).wf = true
abbrev bI (x : (Int × Int × List Int) × Int) : Nat := bF x.1 + 1 + 1
theorem opnX : Opn.Opn Try.prog 57 kI GI bI := Opn.opn_struct Try.underlying57 (by kernel_rfl) (Opn.opnF_cons opnF rfl (by kernel_rfl) (Opn.opnF_one (Opn.opn_int Try.underlying3) rfl (by kernel_rfl)))
theorem opnI : Opn.Opn Try.prog 51 (Go.Proofs.YthggjlfiliggjaaW.PrintWords.Kd.slice 57 kI) (fun xs => xs.length * Try.prog.bytesOf 57 ≤ reachBytes ∧ xs.length ≤ maxLen ∧ ∀ x ∈ xs, GI x) (fun xs => (xs.map bI).sum + 1) := Opn.opn_slice Try.underlying51 (by kernel_rfl) opnX
theorem ones (l : List Int) : (l.map (fun _ => 1)).sum = l.length := by induction l with | nil => rfl | cons a l ih => simp only [List.map_cons, List.sum_cons, ih, List.length_cons]; omega
theorem bulk_each (xs : List ((Int × Int × List Int) × Int)) : xs.length ≤ (xs.map bI).sum ∧ ∀ x ∈ xs, x.1.2.2.length ≤ (xs.map bI).sum := by
  induction xs with
  | nil => exact ⟨Nat.le_refl _, fun x hx => by cases hx⟩
  | cons a l ih =>
    have h1 : a.1.2.2.length + 5 ≤ bI a := by show _ ≤ 1 + (1 + ((a.1.2.2.map (fun _ => 1)).sum + 1)) + 1 + 1 + 1; rw [ones]; omega
    simp only [List.map_cons, List.sum_cons, List.length_cons]
    refine ⟨by omega, fun x hx => ?_⟩
    rcases List.mem_cons.1 hx with rfl | hx
    · omega
    · have := ih.2 x hx; omega
set_option maxRecDepth 100000 in
set_option maxHeartbeats 1000000 in
theorem lifted (os : Os) (started : os.Started) (H : Type) (enc : TypeId × Value → H) (F : Stop.Interp) :
    ReturnsInHanded {} Try.checked os 13 .any ((Rows.OpenSpec.upto Rows.frameOwnSpec).pre6 enc Try.prog Try.f13 Rows.frameOwnUptoRow.domain false) (((Rows.OpenSpec.upto Rows.frameOwnSpec).at F).post enc Try.prog Try.f13 false true false false) := by
  refine returnsInHanded_of_cond_sized (C := Try.checked) (s := Rows.OpenSpec.upto Rows.frameOwnSpec) (k := Rows.uptoSmall) rfl own started (by kernel_rfl) Try.func13
    (OpenSpec.witness (enc := enc) (C := Try.checked) (s := Rows.OpenSpec.upto Rows.frameOwnSpec) (k := Rows.uptoSmall) rfl false ⟨#[], #[.slice none 0 0], []⟩ 8 (by kernel_rfl) (by kernel_rfl) (by kernel_rfl)
      (x := ([.nil], [], [])) (by kernel_rfl) rfl (by kernel_rfl)) ?_
  intro W base args ds gs before hval0 hW hcnd hk hsz0 _
  have hsz : (DataW.weightsEach Try.prog (Try.f13.params.toList ++ Rows.frameOwnSpec.plain.varTypes Try.prog) (ds ++ gs)).all (· ≤ reachBytes) = true := hsz0
  have hval : ∀ (j : Nat) t v, Try.f13.params[j]? = some t → args[j]? = some v → Value.okWide Try.prog W .any base t v := hval0
  have hW' := hW
  obtain ⟨p, q, hA0, hV, rfl, hfz, hnd⟩ := hW
  have hA : DataW.TrodAll enc Try.prog W 0 (fun _ => true) true Try.f13.params.toList args.toList ds p := hA0
  rw [Try.params13] at hA hval hsz
  obtain ⟨v0, vs0, d0, ds0, p0, q0, hargs, rfl, rfl, h0, r0⟩ := trodAll_cons hA
  obtain ⟨rfl, rfl, rfl⟩ := trodAll_nil r0
  obtain rfl : args = #[v0] := by cases args; simp_all
  obtain ⟨rfl, rfl⟩ := trodVars_none hV
  have k0 := h0
  have lt0 : ∀ x ∈ p0, x.block < W.heap.size := by obtain ⟨m, hm⟩ := k0; exact DataW.trod_lt m _ _ _ hm
  obtain ⟨A0, c0, xs0, rfl, hl0, hC0, G0, B0⟩ := Opn.arg_slice Try.underlying51 opnI (hval 0 51 v0 rfl rfl) h0
  replace G0 := G0 (fun n hn => by have := List.all_eq_true.1 hsz _ (DataW.weights_mem_each (j := 0) (t := 51) (d := d0) rfl rfl n hn); simpa using this)
  have hB : Rows.uptoBulkAll ([d0] ++ []) ≤ 1048576 := by have := hk; simpa [Rows.uptoSmall] using this
  have hd : Rows.uptoBulk d0 ≤ 1048576 := by simpa [Rows.uptoBulkAll] using hB
  have hbk := bulk_each xs0
  have hn1 : xs0.length ≤ 1048576 := by have := hbk.1; omega
  have hit : ∀ x ∈ xs0, ItemOk x := fun x hx => ⟨wf_u8 (G0.2.2 x hx).1.1, wf_u64 (G0.2.2 x hx).1.2.1, fun y hy => wf_u8 ((G0.2.2 x hx).1.2.2.2.2 y hy), by have := hbk.2 x hx; omega⟩
  clear hA0 hval0 hsz0 hsz
  refine (frameOwn hC0 hl0 hn1 hit).mono fun e W' ⟨he, bel⟩ => ?_
  subst he
  exact ⟨_, rfl, _, _, _, [], _, [], hW', trodAll_mk1 (shut_bool Try.underlying4 _), (trodAll_cons_mk (Below.trod laidOut (by kernel_rfl) (of_decide_eq_true (by kernel_rfl)) k0 bel lt0) trodAll_mk0), rfl, bel.frame _, fun h => by cases h⟩
theorem over : Rows.frameOwnUptoRow.holds Try.pinned (Rows.OpenSpec.upto Rows.frameOwnSpec) :=
  OpenClaim.holds_of_cond 13 Try.f13 rfl rfl rfl rfl rfl rfl rfl ⟨rfl, rfl, rfl, rfl, rfl⟩ rfl rfl rfl rfl rfl (by kernel_rfl) Try.func13 (by kernel_rfl)
    (of_decide_eq_true (by kernel_rfl)) (by unfold Func.isWrapper; first | (rw [if_pos (by decide +kernel)]; kernel_rfl) | (rw [if_neg (by decide +kernel)]; exact ⟨rfl, rfl⟩))
    (fun os started H enc _ F => lifted os started H enc F)
end Go.Proofs.Ythggjlfiliggjaa.frameOwnRow
namespace Go.Proofs.Ythggjlfiliggjaa
theorem frameOwnUpto_holds : Rows.FrameOwnUptoSaid := frameOwnRow.over
#print axioms frameOwnUpto_holds
end Go.Proofs.Ythggjlfiliggjaa
