/- Every Open of any bytes is the document's. -/
import Derived.Test.YthggjlfiliggjaaFrLaws
namespace Go.Proofs.Ythggjlfiliggjaa.Pure
open Go.RowKit Go.Proofs.Ythggjlfiliggjaa.QFr

theorem FrameOpens : arborlaw2_FrameOpens.Pure := by
  intro l _ hl hb
  exact FrLaws.opens l (QFrExt.bytes_of hb) (by omega)
end Go.Proofs.Ythggjlfiliggjaa.Pure
