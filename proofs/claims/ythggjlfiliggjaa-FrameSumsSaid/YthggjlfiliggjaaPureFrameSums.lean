/- The sum of every text is the document's. -/
import Derived.Test.YthggjlfiliggjaaQSumsExt
namespace Go.Proofs.Ythggjlfiliggjaa.Pure
open Go.RowKit Go.Proofs.Ythggjlfiliggjaa.QSums Go.Proofs.YthggjlfiliggjaaW.PrintWords Go.Proofs.YthggjlfiliggjaaW.PrintLast Go.Proofs.Ythggjlfiliggjaa.Crc Go.Proofs.Ythggjlfiliggjaa.QSumsExt

theorem FrameSums : arborlaw2_FrameSums.Pure := by
  intro l hl hs hb
  have hb' := bytes_of hb
  have hs' : l.length ≤ 140737488351232 := by omega
  refine ⟨10 * l.length + 1, ?_⟩
  unfold arborlaw2_FrameSums.f
  rw [copied_is l (by omega)]
  simp only [Option.bind_some]
  rw [frame_sum l hb' (by omega) _ (by omega), ref_sum l hb' (by omega) _ (by omega)]
  simp
end Go.Proofs.Ythggjlfiliggjaa.Pure
