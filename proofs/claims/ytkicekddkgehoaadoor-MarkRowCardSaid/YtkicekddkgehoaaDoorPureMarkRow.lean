import Derived.Test.YtkicekddkgehoaaDoorLMarkRowx0
namespace Go.Proofs.YtkicekddkgehoaaDoor.Pure
open Go.RowKit Go.Proofs.YtkicekddkgehoaaDoor.LMarkRow Go.Proofs.YtkicekddkgehoaaDoor.QMarkRow Go.Proofs.YtkicekddkgehoaaDoorW.PrintWords Go.Proofs.YtkicekddkgehoaaDoorW.PrintLast

theorem MarkRow : ∀ (a0 : Int) (l1 : List S23) (a2 : S47), (Lit.int .i64 a0).wf = true → (l1.length * 24 ≤ 140737488351232 ∧ ∀ y4 ∈ l1, ((Lit.int .i64 y4.f0).wf = true ∧ y4.f1.size ≤ 140737488351232)) → ((Lit.int .i64 a2.f0).wf = true ∧ (a2.f1.length * 8 ≤ 140737488351232 ∧ ∀ y5 ∈ a2.f1, ((Lit.int .i64 y5.f0).wf = true))) → lazaruslaw6_MarkRow.f a0 l1 a2 = some true := by
  intro a0 l1 a2 h0 h1 h2
  exact if_pos (ansL_of h1.2)

end Go.Proofs.YtkicekddkgehoaaDoor.Pure
