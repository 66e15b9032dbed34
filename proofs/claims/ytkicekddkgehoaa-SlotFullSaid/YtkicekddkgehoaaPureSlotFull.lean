import Derived.Test.YtkicekddkgehoaaLSlotFullx0
namespace Go.Proofs.Ytkicekddkgehoaa.Pure
open Go.RowKit Go.Proofs.Ytkicekddkgehoaa.LSlotFull Go.Proofs.Ytkicekddkgehoaa.QSlotLast Go.Proofs.YtkicekddkgehoaaW.PrintWords Go.Proofs.YtkicekddkgehoaaW.PrintLast

theorem SlotFull : ∀ (a0 : Int) (l1 : List Int), (Lit.int .i64 a0).wf = true → (l1.length * 1 ≤ 140737488351232 ∧ ∀ y2 ∈ l1, (Lit.int .u8 y2).wf = true) → lazaruslaw5_SlotFull.f a0 l1 = some true := by
  intro a0 l1 _ h
  exact if_pos (Go.Proofs.YtkicekddkgehoaaW.Dk.DS.isB_of h.2)

end Go.Proofs.Ytkicekddkgehoaa.Pure
