import Derived.Test.YtelmpfkfnmaibaaDoorLNetRowx0
namespace Go.Proofs.YtelmpfkfnmaibaaDoor.Pure
open Go.RowKit Go.Proofs.YtelmpfkfnmaibaaDoor.LNetRow Go.Proofs.YtelmpfkfnmaibaaDoor.QNetReads Go.Proofs.YtelmpfkfnmaibaaDoorW.PrintWords Go.Proofs.YtelmpfkfnmaibaaDoorW.PrintLast

theorem NetRow : ∀ (l0 : List ByteArray), (l0.length * 16 ≤ 140737488351232 ∧ ∀ y2 ∈ l0, y2.size ≤ 140737488351232) → lazaruslaw1_NetRow.f l0 = some true := by
  intros; rfl

end Go.Proofs.YtelmpfkfnmaibaaDoor.Pure
