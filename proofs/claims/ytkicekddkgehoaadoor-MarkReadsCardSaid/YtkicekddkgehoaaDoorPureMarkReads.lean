import Derived.Test.YtkicekddkgehoaaDoorLMarkReadsx0
namespace Go.Proofs.YtkicekddkgehoaaDoor.Pure
open Go.RowKit Go.Proofs.YtkicekddkgehoaaDoor.LMarkReads Go.Proofs.YtkicekddkgehoaaDoor.QMarkBytes Go.Proofs.YtkicekddkgehoaaDoorW.PrintWords Go.Proofs.YtkicekddkgehoaaDoorW.PrintLast

theorem MarkReads : ∀ (l0 : List Int), (l0.length * 1 ≤ 140737488351232 ∧ ∀ y2 ∈ l0, (Lit.int .u8 y2).wf = true) → lazaruslaw6_MarkReads.f l0 = some true := by
  intro l0 h
  exact if_pos (isB_of h.2)

end Go.Proofs.YtkicekddkgehoaaDoor.Pure
