import Derived.Test.YtnahlhabhipfmaaQDiskOwnx0
namespace Go.Proofs.Ytnahlhabhipfmaa.Pure
open Go.RowKit Go.Proofs.Ytnahlhabhipfmaa.QDiskOwn Go.Proofs.YtnahlhabhipfmaaW.PrintWords Go.Proofs.YtnahlhabhipfmaaW.PrintLast

theorem DiskOwn : ∀ (l0 : List Int), (l0.length * 1 ≤ 140737488351232 ∧ ∀ y2 ∈ l0, (Lit.int .u8 y2).wf = true) → lazaruslaw3_DiskOwn.f l0 = some true := by
  intros; rfl

end Go.Proofs.Ytnahlhabhipfmaa.Pure
