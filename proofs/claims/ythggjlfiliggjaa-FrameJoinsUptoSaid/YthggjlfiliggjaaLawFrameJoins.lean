/- The sum of a text in pieces is the sum of the whole, whatever the pieces. CONDITION: the pieces together hold at most 1048576 values (the statement's second form). -/
import Derived.Test.YthggjlfiliggjaaRows
import Derived.Test.YthggjlfiliggjaaOpn
import Derived.Test.YthggjlfiliggjaaJoins
import Derived.WalkKit
import Derived.ProofKit
import Derived.OpenShut
import Derived.ShutString
import Derived.ChangeOld
import Derived.Below
import Derived.SizedLaws
import Derived.Deep.CondSized
namespace Go.Proofs.Ythggjlfiliggjaa.frameJoinsRow
open Go.ChangeShapes Go.WideShapes Go.ChangeAt Go.RowKit
open Go.ChangeMaps (open_string shut_string)
open Go.Proofs.Ythggjlfiliggjaa.QSums
set_option linter.unusedVariables false
set_option linter.unusedSimpArgs false
theorem own : ownKnob Try.prog.godebug = none := by kernel_rfl
theorem laidOut : laidOutB Try.prog = true := by kernel_rfl
theorem bytes5 : Try.prog.bytesOf 5 = 1 := by kernel_rfl
theorem wf_u8 {a : Int} (h : (Lit.int .u8 a).wf = true) : 0 ≤ a ∧ a < 256 := by simp [Lit.wf, IntKind.min, IntKind.max, IntKind.signed, IntKind.bits] at h; omega
theorem wf_u32 {a : Int} (h : (Lit.int .u32 a).wf = true) : 0 ≤ a ∧ a < 4294967296 := by simp [Lit.wf, IntKind.min, IntKind.max, IntKind.signed, IntKind.bits] at h; omega
theorem wf_u64 {a : Int} (h : (Lit.int .u64 a).wf = true) : 0 ≤ a ∧ a < 18446744073709551616 := by simp [Lit.wf, IntKind.min, IntKind.max, IntKind.signed, IntKind.bits] at h; omega
theorem wf_i64 {a : Int} (h : (Lit.int .i64 a).wf = true) : -9223372036854775808 ≤ a ∧ a ≤ 9223372036854775807 := by simp [Lit.wf, IntKind.min, IntKind.max, IntKind.signed, IntKind.bits] at h; omega
theorem opnL : Opn.Opn Try.prog 29 (Go.Proofs.YthggjlfiliggjaaW.PrintWords.Kd.slice 23 (Go.Proofs.YthggjlfiliggjaaW.PrintWords.Kd.slice 5 (Go.Proofs.YthggjlfiliggjaaW.PrintWords.Kd.int .u8))) (fun ps => ps.length * Try.prog.bytesOf 23 ≤ reachBytes ∧ ps.length ≤ maxLen ∧ ∀ p ∈ ps, p.length * Try.prog.bytesOf 5 ≤ reachBytes ∧ p.length ≤ maxLen ∧ ∀ x ∈ p, (Lit.int .u8 x).wf = true) (fun ps => (ps.map (fun p => (p.map (fun _ => 1)).sum + 1)).sum + 1) := Opn.opn_slice Try.underlying29 (by kernel_rfl) (Opn.opn_slice Try.underlying23 (by kernel_rfl) (Opn.opn_int Try.underlying5))
set_option maxRecDepth 100000 in
set_option maxHeartbeats 1000000 in
theorem lifted (os : Os) (started : os.Started) (H : Type) (enc : TypeId × Value → H) (F : Stop.Interp) :
    ReturnsInHanded {} Try.checked os 5 .any ((Rows.OpenSpec.upto Rows.frameJoinsSpec).pre6 enc Try.prog Try.f5 Rows.frameJoinsUptoRow.domain false) (((Rows.OpenSpec.upto Rows.frameJoinsSpec).at F).post enc Try.prog Try.f5 false true false false) := by
  refine returnsInHanded_of_cond_sized (C := Try.checked) (s := Rows.OpenSpec.upto Rows.frameJoinsSpec) (k := Rows.uptoSmall) rfl own started (by kernel_rfl) Try.func5
    (OpenSpec.witness (enc := enc) (C := Try.checked) (s := Rows.OpenSpec.upto Rows.frameJoinsSpec) (k := Rows.uptoSmall) rfl false ⟨#[], #[.slice none 0 0], []⟩ 8 (by kernel_rfl) (by kernel_rfl) (by kernel_rfl)
      (x := ([.nil], [], [])) (by kernel_rfl) rfl (by kernel_rfl)) ?_
  intro W base args ds gs before hval0 hW hcnd hk hsz0 _
  have hsz : (DataW.weightsEach Try.prog (Try.f5.params.toList ++ Rows.frameJoinsSpec.plain.varTypes Try.prog) (ds ++ gs)).all (· ≤ reachBytes) = true := hsz0
  have hval : ∀ (j : Nat) t v, Try.f5.params[j]? = some t → args[j]? = some v → Value.okWide Try.prog W .any base t v := hval0
  have hW' := hW
  obtain ⟨p, q, hA0, hV, rfl, hfz, hnd⟩ := hW
  have hA : DataW.TrodAll enc Try.prog W 0 (fun _ => true) true Try.f5.params.toList args.toList ds p := hA0
  rw [Try.params5] at hA hval hsz
  obtain ⟨v0, vs0, d0, ds0, p0, q0, hargs, rfl, rfl, h0, r0⟩ := trodAll_cons hA
  obtain ⟨rfl, rfl, rfl⟩ := trodAll_nil r0
  obtain rfl : args = #[v0] := by cases args; simp_all
  obtain ⟨rfl, rfl⟩ := trodVars_none hV
  have k0 := h0
  have lt0 : ∀ x ∈ p0, x.block < W.heap.size := by obtain ⟨m, hm⟩ := k0; exact DataW.trod_lt m _ _ _ hm
  obtain ⟨A0, c0, xs0, rfl, hl0, hC0, G0, B0⟩ := Opn.arg_slice Try.underlying29 opnL (hval 0 29 v0 rfl rfl) h0
  replace G0 := G0 (fun n hn => by have := List.all_eq_true.1 hsz _ (DataW.weights_mem_each (j := 0) (t := 29) (d := d0) rfl rfl n hn); simpa using this)
  have hB : Rows.uptoBulkAll ([d0] ++ []) ≤ 1048576 := by have := hk; simpa [Rows.uptoSmall] using this
  have hd : Rows.uptoBulk d0 ≤ 1048576 := by simpa [Rows.uptoBulkAll] using hB
  have hsum := Joins.bulk_len xs0
  obtain ⟨kk, hkk⟩ := Joins.joins xs0 (fun p hp => QSumsExt.bytes_of (G0.2.2 p hp).2.2) (by omega) (by omega)
  clear hA0 hval0 hsz0 hsz
  refine (arborlaw2_FrameJoins.calls kk A0 c0 xs0 true W hC0 hl0 hkk).mono fun e W' ⟨he, bel⟩ => ?_
  subst he
  exact ⟨_, rfl, _, _, _, [], _, [], hW', trodAll_mk1 (shut_bool Try.underlying4 _), (trodAll_cons_mk (Below.trod laidOut (by kernel_rfl) (of_decide_eq_true (by kernel_rfl)) k0 bel lt0) trodAll_mk0), rfl, bel.frame _, fun h => by cases h⟩
theorem over : Rows.frameJoinsUptoRow.holds Try.pinned (Rows.OpenSpec.upto Rows.frameJoinsSpec) :=
  OpenClaim.holds_of_cond 5 Try.f5 rfl rfl rfl rfl rfl rfl rfl ⟨rfl, rfl, rfl, rfl, rfl⟩ rfl rfl rfl rfl rfl (by kernel_rfl) Try.func5 (by kernel_rfl)
    (of_decide_eq_true (by kernel_rfl)) (by unfold Func.isWrapper; first | (rw [if_pos (by decide +kernel)]; kernel_rfl) | (rw [if_neg (by decide +kernel)]; exact ⟨rfl, rfl⟩))
    (fun os started H enc _ F => lifted os started H enc F)
end Go.Proofs.Ythggjlfiliggjaa.frameJoinsRow
namespace Go.Proofs.Ythggjlfiliggjaa
theorem frameJoinsUpto_holds : Rows.FrameJoinsUptoSaid := frameJoinsRow.over
#print axioms frameJoinsUpto_holds
end Go.Proofs.Ythggjlfiliggjaa
