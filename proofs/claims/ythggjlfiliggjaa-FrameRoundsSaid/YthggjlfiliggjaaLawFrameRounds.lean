/- What is sealed opens again; what opens is sealed as the same bytes; where the room says that it fits it is sealed. -/
import Derived.Test.YthggjlfiliggjaaRows
import Derived.Test.YthggjlfiliggjaaOpn
import Derived.Test.YthggjlfiliggjaaFrLaws
import Derived.WalkKit
import Derived.ProofKit
import Derived.OpenShut
import Derived.ShutString
import Derived.ChangeOld
import Derived.Below
import Derived.SizedLaws
namespace Go.Proofs.Ythggjlfiliggjaa.frameRoundsRow
open Go.ChangeShapes Go.WideShapes Go.ChangeAt Go.RowKit
open Go.ChangeMaps (open_string shut_string)
open Go.Proofs.Ythggjlfiliggjaa.QFr
set_option linter.unusedVariables false
set_option linter.unusedSimpArgs false
theorem own : ownKnob Try.prog.godebug = none := by kernel_rfl
theorem laidOut : laidOutB Try.prog = true := by kernel_rfl
abbrev kF := Go.Proofs.YthggjlfiliggjaaW.PrintWords.Kd.pair (Go.Proofs.YthggjlfiliggjaaW.PrintWords.Kd.int .u8) (Go.Proofs.YthggjlfiliggjaaW.PrintWords.Kd.pair (Go.Proofs.YthggjlfiliggjaaW.PrintWords.Kd.int .u64) (Go.Proofs.YthggjlfiliggjaaW.PrintWords.Kd.slice 5 (Go.Proofs.YthggjlfiliggjaaW.PrintWords.Kd.int .u8)))
theorem opnF : Opn.Opn Try.prog 35 kF (fun a => (Lit.int .u8 a.1).wf = true ∧ (Lit.int .u64 a.2.1).wf = true ∧ a.2.2.length * Try.prog.bytesOf 5 ≤ reachBytes ∧ a.2.2.length ≤ maxLen ∧ ∀ x ∈ a.2.2, (Lit.int .u8 x).wf = true) (fun a => 1 + (1 + ((a.2.2.map (fun _ => 1)).sum + 1)) + 1) :=
  Opn.opn_struct Try.underlying35 (by kernel_rfl) (Opn.opnF_cons (Opn.opn_int Try.underlying5) rfl (by kernel_rfl) (Opn.opnF_cons (Opn.opn_int Try.underlying33) rfl (by kernel_rfl) (Opn.opnF_one (Opn.opn_slice Try.underlying23 (by kernel_rfl) (Opn.opn_int Try.underlying5)) rfl (by kernel_rfl))))
theorem bytes5 : Try.prog.bytesOf 5 = 1 := by kernel_rfl
theorem wf_u8 {a : Int} (h : (Lit.int .u8 a).wf = true) : 0 ≤ a ∧ a < 256 := by simp [Lit.wf, IntKind.min, IntKind.max, IntKind.signed, IntKind.bits] at h; omega
theorem wf_u32 {a : Int} (h : (Lit.int .u32 a).wf = true) : 0 ≤ a ∧ a < 4294967296 := by simp [Lit.wf, IntKind.min, IntKind.max, IntKind.signed, IntKind.bits] at h; omega
theorem wf_u64 {a : Int} (h : (Lit.int .u64 a).wf = true) : 0 ≤ a ∧ a < 18446744073709551616 := by simp [Lit.wf, IntKind.min, IntKind.max, IntKind.signed, IntKind.bits] at h; omega
theorem wf_i64 {a : Int} (h : (Lit.int .i64 a).wf = true) : -9223372036854775808 ≤ a ∧ a ≤ 9223372036854775807 := by simp [Lit.wf, IntKind.min, IntKind.max, IntKind.signed, IntKind.bits] at h; omega
set_option maxRecDepth 100000 in
set_option maxHeartbeats 1000000 in
theorem lifted (os : Os) (started : os.Started) (H : Type) (enc : TypeId × Value → H) :
    ReturnsInHanded {} Try.checked os 10 .any (Rows.frameRoundsSpec.pre6 enc Try.prog Try.f10 Rows.frameRoundsRow.domain false) (Rows.frameRoundsSpec.post enc Try.prog Try.f10 false true false false) := by
  refine returnsInHanded_of_change_sized (C := Try.checked) own started (by kernel_rfl) Try.func10
    (ChangeSpec.witness6 (enc := enc) (C := Try.checked) false ⟨#[], #[.agg #[.int .u8 0, .int .u64 0, .slice none 0 0], .int .i64 0, .slice none 0 0], []⟩ 8 (by kernel_rfl) (by kernel_rfl) (by kernel_rfl) (by kernel_rfl)) ?_
  intro W base args ds gs before hval0 hW hcnd hsz0 _
  have hsz : (DataW.weightsEach Try.prog (Try.f10.params.toList ++ Rows.frameRoundsSpec.plain.varTypes Try.prog) (ds ++ gs)).all (· ≤ reachBytes) = true := hsz0
  have hval : ∀ (j : Nat) t v, Try.f10.params[j]? = some t → args[j]? = some v → Value.okWide Try.prog W .any base t v := hval0
  have hW' := hW
  obtain ⟨p, q, hA0, hV, rfl, hfz, hnd⟩ := hW
  have hA : DataW.TrodAll enc Try.prog W 0 (fun _ => true) true Try.f10.params.toList args.toList ds p := hA0
  rw [Try.params10] at hA hval hsz
  obtain ⟨v0, vs0, d0, ds0, p0, q0, hargs, rfl, rfl, h0, r0⟩ := trodAll_cons hA
  obtain ⟨v1, vs1, d1, ds1, p1, q1, rfl, rfl, rfl, h1, r1⟩ := trodAll_cons r0
  obtain ⟨v2, vs2, d2, ds2, p2, q2, rfl, rfl, rfl, h2, r2⟩ := trodAll_cons r1
  obtain ⟨rfl, rfl, rfl⟩ := trodAll_nil r2
  obtain rfl : args = #[v0, v1, v2] := by cases args; simp_all
  obtain ⟨rfl, rfl⟩ := trodVars_none hV
  have k0 := h0
  have lt0 : ∀ x ∈ p0, x.block < W.heap.size := by obtain ⟨m, hm⟩ := k0; exact DataW.trod_lt m _ _ _ hm
  obtain ⟨cs0, x0, rfl, K0, G0, B0⟩ := Opn.arg_struct Try.underlying35 opnF (hval 0 35 v0 rfl rfl) h0
  replace G0 := G0 (fun n hn => by have := List.all_eq_true.1 hsz _ (DataW.weights_mem_each (j := 0) (t := 35) (d := d0) rfl rfl n hn); simpa using this)
  obtain ⟨_, _, rfl, rfl, ⟨_, _, rfl, rfl, ⟨A0, c0, rfl, hl0, hC0⟩⟩⟩ := K0
  have k1 := h1
  have lt1 : ∀ x ∈ p1, x.block < W.heap.size := by obtain ⟨m, hm⟩ := k1; exact DataW.trod_lt m _ _ _ hm
  obtain ⟨a1, rfl, rfl, rfl, G1⟩ := open_int Try.underlying3 (hval 1 3 v1 rfl rfl) h1
  have k2 := h2
  have lt2 : ∀ x ∈ p2, x.block < W.heap.size := by obtain ⟨m, hm⟩ := k2; exact DataW.trod_lt m _ _ _ hm
  obtain ⟨A2, c2, xs2, rfl, hl2, hC2, G2, B2⟩ := Opn.arg_slice Try.underlying23 (Opn.opn_slice Try.underlying23 (by kernel_rfl) (Opn.opn_int Try.underlying5)) (hval 2 23 v2 rfl rfl) h2
  replace G2 := G2 (fun n hn => by have := List.all_eq_true.1 hsz _ (DataW.weights_mem_each (j := 2) (t := 23) (d := d2) rfl rfl n hn); simpa using this)
  obtain ⟨g0k, g0g, g0l, g0m, g0b⟩ := G0
  have hlen0 : x0.2.2.length ≤ 140737488351232 := by have := g0l; rw [bytes5] at this; simp only [reachBytes] at this; omega
  have hby0 := QFrExt.bytes_of g0b
  have hlen2 : xs2.length ≤ 140737488351232 := by have := G2.1; rw [bytes5] at this; simp only [reachBytes] at this; omega
  obtain ⟨k, hk⟩ := FrLaws.rounds x0.1 x0.2.1 x0.2.2 a1 xs2 (wf_u8 g0k) (wf_u64 g0g) hby0 hlen0 (wf_i64 G1) (QFrExt.bytes_of G2.2.2) hlen2
  clear hA0 hval0 hsz0 hsz
  refine (arborlaw2_FrameRounds.calls k x0.1 x0.2.1 A0 c0 x0.2.2 a1 A2 c2 xs2 true W hC0 hl0 hC2 hl2 hk).mono fun e W' ⟨he, bel⟩ => ?_
  subst he
  exact ⟨_, rfl, _, _, _, [], _, [], hW', trodAll_mk1 (shut_bool Try.underlying4 _), (trodAll_cons_mk (Below.trod laidOut (by kernel_rfl) (of_decide_eq_true (by kernel_rfl)) k0 bel lt0) (trodAll_cons_mk (Below.trod laidOut (by kernel_rfl) (of_decide_eq_true (by kernel_rfl)) k1 bel lt1) (trodAll_cons_mk (Below.trod laidOut (by kernel_rfl) (of_decide_eq_true (by kernel_rfl)) k2 bel lt2) trodAll_mk0))), rfl, bel.frame _, fun h => by cases h⟩
theorem over : Rows.frameRoundsRow.holds Try.pinned (OpenSpec.ofChange Rows.frameRoundsSpec) :=
  OpenClaim.holds_of_wide 10 Try.f10 rfl rfl rfl rfl rfl rfl rfl ⟨rfl, rfl, rfl, rfl, rfl⟩ rfl rfl rfl rfl rfl (by kernel_rfl) Try.func10 (by kernel_rfl)
    (of_decide_eq_true (by kernel_rfl)) (by unfold Func.isWrapper; first | (rw [if_pos (by decide +kernel)]; kernel_rfl) | (rw [if_neg (by decide +kernel)]; exact ⟨rfl, rfl⟩))
    (fun os started H enc _ => lifted os started H enc)
end Go.Proofs.Ythggjlfiliggjaa.frameRoundsRow
namespace Go.Proofs.Ythggjlfiliggjaa
theorem frameRounds_holds : Rows.FrameRoundsSaid := frameRoundsRow.over
#print axioms frameRounds_holds
end Go.Proofs.Ythggjlfiliggjaa
