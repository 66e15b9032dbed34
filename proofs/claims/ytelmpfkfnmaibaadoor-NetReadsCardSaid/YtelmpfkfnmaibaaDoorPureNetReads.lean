import Derived.Test.YtelmpfkfnmaibaaDoorLNetReadsx0
namespace Go.Proofs.YtelmpfkfnmaibaaDoor.Pure
open Go.RowKit Go.Proofs.YtelmpfkfnmaibaaDoor.LNetReads Go.Proofs.YtelmpfkfnmaibaaDoor.QNetReads Go.Proofs.YtelmpfkfnmaibaaDoorW.PrintWords Go.Proofs.YtelmpfkfnmaibaaDoorW.PrintLast

theorem NetReads : ∀ (l0 : List Int) (l1 : List S42), (l0.length * 1 ≤ 140737488351232 ∧ ∀ y3 ∈ l0, (Lit.int .u8 y3).wf = true) → (l1.length * 1 ≤ 140737488351232 ∧ ∀ y4 ∈ l1, (True)) → lazaruslaw1_NetReads.f l0 l1 = some true := by
  intro l0 l1 h _
  exact if_pos (isB_of h.2)

end Go.Proofs.YtelmpfkfnmaibaaDoor.Pure
