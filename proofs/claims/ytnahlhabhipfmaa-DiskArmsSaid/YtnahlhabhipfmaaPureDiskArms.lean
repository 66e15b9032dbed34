import Derived.Test.YtnahlhabhipfmaaQDiskArmsx0
namespace Go.Proofs.Ytnahlhabhipfmaa.Pure
open Go.RowKit Go.Proofs.Ytnahlhabhipfmaa.QDiskArms Go.Proofs.YtnahlhabhipfmaaW.PrintWords Go.Proofs.YtnahlhabhipfmaaW.PrintLast

theorem DiskArms : ∀ (a0 : Int) (a1 : Int), (Lit.int .i64 a0).wf = true → (Lit.int .i64 a1).wf = true → lazaruslaw3_DiskArms.f a0 a1 = some true := by
  intros; rfl

end Go.Proofs.Ytnahlhabhipfmaa.Pure
