import Derived.Test.YtkicekddkgehoaaDoorLMarkFullx0
namespace Go.Proofs.YtkicekddkgehoaaDoor.Pure
open Go.RowKit Go.Proofs.YtkicekddkgehoaaDoor.LMarkFull Go.Proofs.YtkicekddkgehoaaDoor.QMarkRow Go.Proofs.YtkicekddkgehoaaDoorW.PrintWords Go.Proofs.YtkicekddkgehoaaDoorW.PrintLast

theorem MarkFull : ∀ (a0 : Int) (a1 : ByteArray), (Lit.int .i64 a0).wf = true → a1.size ≤ 140737488351232 → lazaruslaw6_MarkFull.f a0 a1 = some true := by
  intro a0 a1 _ _
  rfl

end Go.Proofs.YtkicekddkgehoaaDoor.Pure
