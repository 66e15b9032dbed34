import Derived.Test.YtnahlhabhipfmaaQDiskOutsidex0
namespace Go.Proofs.Ytnahlhabhipfmaa.Pure
open Go.RowKit Go.Proofs.Ytnahlhabhipfmaa.QDiskOutside Go.Proofs.YtnahlhabhipfmaaW.PrintWords Go.Proofs.YtnahlhabhipfmaaW.PrintLast

theorem DiskOutside : ∀ (a0 : Int) (a1 : Int) (a2 : Int), (Lit.int .i64 a0).wf = true → (Lit.int .i64 a1).wf = true → (Lit.int .i64 a2).wf = true → lazaruslaw3_DiskOutside.f a0 a1 a2 = some true := by
  intros; rfl

end Go.Proofs.Ytnahlhabhipfmaa.Pure
