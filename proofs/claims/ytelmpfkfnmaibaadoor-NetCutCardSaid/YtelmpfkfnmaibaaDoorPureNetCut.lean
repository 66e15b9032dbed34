import Derived.Test.YtelmpfkfnmaibaaDoorLNetCutx0
namespace Go.Proofs.YtelmpfkfnmaibaaDoor.Pure
open Go.RowKit Go.Proofs.YtelmpfkfnmaibaaDoor.LNetCut Go.Proofs.YtelmpfkfnmaibaaDoor.QNetReads Go.Proofs.YtelmpfkfnmaibaaDoorW.PrintWords Go.Proofs.YtelmpfkfnmaibaaDoorW.PrintLast

theorem NetCut : ∀ (a0 : ByteArray) (a1 : Int), a0.size ≤ 140737488351232 → (Lit.int .i64 a1).wf = true → lazaruslaw1_NetCut.f a0 a1 = some true := by
  intro a0 a1 h _
  exact if_pos h

end Go.Proofs.YtelmpfkfnmaibaaDoor.Pure
