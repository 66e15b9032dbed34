import Derived.Test.YtkicekddkgehoaaLSlotGensx0
namespace Go.Proofs.Ytkicekddkgehoaa.Pure
open Go.RowKit Go.Proofs.Ytkicekddkgehoaa.LSlotGens Go.Proofs.Ytkicekddkgehoaa.QSlotLast Go.Proofs.YtkicekddkgehoaaW.PrintWords Go.Proofs.YtkicekddkgehoaaW.PrintLast

theorem SlotGens : ∀ (a0 : Int), (Lit.int .i64 a0).wf = true → lazaruslaw5_SlotGens.f a0 = some true := by
  intros; rfl

end Go.Proofs.Ytkicekddkgehoaa.Pure
