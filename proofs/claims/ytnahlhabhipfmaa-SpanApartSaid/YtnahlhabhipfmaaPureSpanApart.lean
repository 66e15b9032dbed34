import Derived.Test.YtnahlhabhipfmaaLSpanApartx0
namespace Go.Proofs.Ytnahlhabhipfmaa.Pure
open Go.RowKit Go.Proofs.Ytnahlhabhipfmaa.LSpanApart Go.Proofs.Ytnahlhabhipfmaa.QSpanCrash Go.Proofs.YtnahlhabhipfmaaW.PrintWords Go.Proofs.YtnahlhabhipfmaaW.PrintLast

theorem SpanApart : ∀ (l0 : List (List Int)), (l0.length * 24 ≤ 140737488351232 ∧ ∀ y3 ∈ l0, (y3.length * 1 ≤ 140737488351232 ∧ ∀ y4 ∈ y3, (Lit.int .u8 y4).wf = true)) → lazaruslaw4_SpanApart.f l0 = some true := by
  intro l0 h
  exact if_pos (List.all_eq_true.2 fun y hy => Go.Proofs.YtnahlhabhipfmaaW.Dk.DS.isB_of (h.2 y hy).2)

end Go.Proofs.Ytnahlhabhipfmaa.Pure
