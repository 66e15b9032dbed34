import Derived.Test.YtelmpfkfnmaibaaDoorLNetOddx0
namespace Go.Proofs.YtelmpfkfnmaibaaDoor.Pure
open Go.RowKit Go.Proofs.YtelmpfkfnmaibaaDoor.LNetOdd Go.Proofs.YtelmpfkfnmaibaaDoor.QNetReads Go.Proofs.YtelmpfkfnmaibaaDoorW.PrintWords Go.Proofs.YtelmpfkfnmaibaaDoorW.PrintLast

theorem NetOdd : ∀ (a0 : Int), (Lit.int .i64 a0).wf = true → lazaruslaw1_NetOdd.f a0 = some true := by
  intros; rfl

end Go.Proofs.YtelmpfkfnmaibaaDoor.Pure
