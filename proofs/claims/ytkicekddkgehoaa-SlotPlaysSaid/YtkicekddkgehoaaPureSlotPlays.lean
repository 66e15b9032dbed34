import Derived.Test.YtkicekddkgehoaaLSlotPlaysx0
namespace Go.Proofs.Ytkicekddkgehoaa.Pure
open Go.RowKit Go.Proofs.Ytkicekddkgehoaa.LSlotPlays Go.Proofs.Ytkicekddkgehoaa.QSlotLast Go.Proofs.YtkicekddkgehoaaW.PrintWords Go.Proofs.YtkicekddkgehoaaW.PrintLast

theorem SlotPlays : ∀ (a0 : Int) (l1 : List S40), (Lit.int .i64 a0).wf = true → (l1.length * 72 ≤ 140737488351232 ∧ ∀ y7 ∈ l1, ((y7.f0.length * 1 ≤ 140737488351232 ∧ ∀ y8 ∈ y7.f0, (Lit.int .u8 y8).wf = true) ∧ True ∧ ((Lit.int .i64 y7.f2.f0).wf = true ∧ (y7.f2.f1.length * 8 ≤ 140737488351232 ∧ ∀ y9 ∈ y7.f2.f1, ((Lit.int .i64 y9.f0).wf = true))) ∧ (Lit.int .i64 y7.f3).wf = true)) → lazaruslaw5_SlotPlays.f a0 l1 = some true := by
  intro a0 l1 _ h
  exact if_pos (List.all_eq_true.2 fun y hy => Go.Proofs.YtkicekddkgehoaaW.Dk.DS.isB_of (h.2 y hy).1.2)

end Go.Proofs.Ytkicekddkgehoaa.Pure
