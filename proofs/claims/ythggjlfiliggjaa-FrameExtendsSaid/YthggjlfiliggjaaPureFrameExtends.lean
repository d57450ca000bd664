/- Extend of every number and every text is the document's. -/
import Derived.Test.YthggjlfiliggjaaQSumsExt
namespace Go.Proofs.Ythggjlfiliggjaa.Pure
open Go.RowKit Go.Proofs.Ythggjlfiliggjaa.QSums Go.Proofs.YthggjlfiliggjaaW.PrintWords Go.Proofs.YthggjlfiliggjaaW.PrintLast Go.Proofs.Ythggjlfiliggjaa.Crc Go.Proofs.Ythggjlfiliggjaa.QSumsExt

theorem FrameExtends : arborlaw2_FrameExtends.Pure := by
  intro a l ha hl hs hb
  have hb' := bytes_of hb
  have hs' : l.length ≤ 140737488351232 := by omega
  have ha' : 0 ≤ a ∧ a < 4294967296 := by
    simp [Lit.wf, IntKind.min, IntKind.max, IntKind.signed, IntKind.bits] at ha
    omega
  refine ⟨10 * l.length + 1, ?_⟩
  unfold arborlaw2_FrameExtends.f
  rw [copied_is l (by omega), ← V_of a ha'.1 ha'.2]
  simp only [Option.bind_some]
  rw [frame_ext _ l hb' (by omega) _ (by omega), ref_ext _ l hb' (by omega) _ (by omega)]
  simp
end Go.Proofs.Ythggjlfiliggjaa.Pure
