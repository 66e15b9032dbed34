import Derived.Test.YtnahlhabhipfmaaQDiskFlushedx0
namespace Go.Proofs.Ytnahlhabhipfmaa.Pure
open Go.RowKit Go.Proofs.Ytnahlhabhipfmaa.QDiskFlushed Go.Proofs.YtnahlhabhipfmaaW.PrintWords Go.Proofs.YtnahlhabhipfmaaW.PrintLast

theorem DiskFlushed : ∀ (l0 : List Int) (l1 : List Int) (a2 : Int), (l0.length * 1 ≤ 140737488351232 ∧ ∀ y3 ∈ l0, (Lit.int .u8 y3).wf = true) → (l1.length * 1 ≤ 140737488351232 ∧ ∀ y4 ∈ l1, (Lit.int .u8 y4).wf = true) → (Lit.int .i64 a2).wf = true → lazaruslaw3_DiskFlushed.f l0 l1 a2 = some true := by
  intros; rfl

end Go.Proofs.Ytnahlhabhipfmaa.Pure
