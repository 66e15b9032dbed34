import Derived.Test.YtkicekddkgehoaaDoorLMarkGensx0
namespace Go.Proofs.YtkicekddkgehoaaDoor.Pure
open Go.RowKit Go.Proofs.YtkicekddkgehoaaDoor.LMarkGens Go.Proofs.YtkicekddkgehoaaDoor.QMarkRow Go.Proofs.YtkicekddkgehoaaDoorW.PrintWords Go.Proofs.YtkicekddkgehoaaDoorW.PrintLast

theorem MarkGens : ∀ (l0 : List S23) (l1 : List S23), (l0.length * 24 ≤ 140737488351232 ∧ ∀ y3 ∈ l0, ((Lit.int .i64 y3.f0).wf = true ∧ y3.f1.size ≤ 140737488351232)) → (l1.length * 24 ≤ 140737488351232 ∧ ∀ y4 ∈ l1, ((Lit.int .i64 y4.f0).wf = true ∧ y4.f1.size ≤ 140737488351232)) → lazaruslaw6_MarkGens.f l0 l1 = some true := by
  intro l0 l1 h0 h1
  exact if_pos ⟨ansL_of h0.2, ansL_of h1.2⟩

end Go.Proofs.YtkicekddkgehoaaDoor.Pure
