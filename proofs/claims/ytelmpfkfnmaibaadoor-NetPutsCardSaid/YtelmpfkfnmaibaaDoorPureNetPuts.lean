import Derived.Test.YtelmpfkfnmaibaaDoorLNetPutsx0
namespace Go.Proofs.YtelmpfkfnmaibaaDoor.Pure
open Go.RowKit Go.Proofs.YtelmpfkfnmaibaaDoor.LNetPuts Go.Proofs.YtelmpfkfnmaibaaDoor.QNetReads Go.Proofs.YtelmpfkfnmaibaaDoorW.PrintWords Go.Proofs.YtelmpfkfnmaibaaDoorW.PrintLast

theorem NetPuts : ∀ (a0 : Int) (a1 : ByteArray), (Lit.int .i64 a0).wf = true → a1.size ≤ 140737488351232 → lazaruslaw1_NetPuts.f a0 a1 = some true := by
  intro a0 a1 h _
  simp [Lit.wf, IntKind.min, IntKind.max, IntKind.signed, IntKind.bits] at h
  exact if_pos (by omega)

end Go.Proofs.YtelmpfkfnmaibaaDoor.Pure
