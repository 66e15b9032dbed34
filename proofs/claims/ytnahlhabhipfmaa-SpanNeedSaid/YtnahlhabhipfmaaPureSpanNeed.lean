import Derived.Test.YtnahlhabhipfmaaQSpanNeedx0
namespace Go.Proofs.Ytnahlhabhipfmaa.Pure
open Go.RowKit Go.Proofs.Ytnahlhabhipfmaa.QSpanNeed Go.Proofs.YtnahlhabhipfmaaW.PrintWords Go.Proofs.YtnahlhabhipfmaaW.PrintLast

theorem SpanNeed : ∀ (a0 : Int), (Lit.int .i64 a0).wf = true → lazaruslaw4_SpanNeed.f a0 = some true := by
  intros; rfl

end Go.Proofs.Ytnahlhabhipfmaa.Pure
