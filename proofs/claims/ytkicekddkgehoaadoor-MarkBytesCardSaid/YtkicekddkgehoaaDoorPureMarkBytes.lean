import Derived.Test.YtkicekddkgehoaaDoorLMarkBytesx0
namespace Go.Proofs.YtkicekddkgehoaaDoor.Pure
open Go.RowKit Go.Proofs.YtkicekddkgehoaaDoor.LMarkBytes Go.Proofs.YtkicekddkgehoaaDoor.QMarkBytes Go.Proofs.YtkicekddkgehoaaDoorW.PrintWords Go.Proofs.YtkicekddkgehoaaDoorW.PrintLast

theorem MarkBytes : ∀ (a0 : S25), ((Lit.int .i64 a0.f0).wf = true ∧ (Lit.int .i64 a0.f1).wf = true ∧ True ∧ ((Lit.int .i64 a0.f3.f0).wf = true ∧ a0.f3.f1.size ≤ 140737488351232)) → lazaruslaw6_MarkBytes.f a0 = some true := by
  intro a0 h
  exact if_pos (ansB_of h.2.2.2.1)

end Go.Proofs.YtkicekddkgehoaaDoor.Pure
