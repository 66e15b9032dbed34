import Derived.Test.YtnahlhabhipfmaaQSpanRoomx0
namespace Go.Proofs.Ytnahlhabhipfmaa.Pure
open Go.RowKit Go.Proofs.Ytnahlhabhipfmaa.QSpanRoom Go.Proofs.YtnahlhabhipfmaaW.PrintWords Go.Proofs.YtnahlhabhipfmaaW.PrintLast

theorem SpanRoom : ∀ (l0 : List Int) (a1 : Int), (l0.length * 1 ≤ 140737488351232 ∧ ∀ y2 ∈ l0, (Lit.int .u8 y2).wf = true) → (Lit.int .i64 a1).wf = true → lazaruslaw4_SpanRoom.f l0 a1 = some true := by
  intro l0 a1 h _
  exact if_pos (Go.Proofs.YtnahlhabhipfmaaW.Dk.DS.isB_of h.2)

end Go.Proofs.Ytnahlhabhipfmaa.Pure
