import Derived.Test.YtkicekddkgehoaaGreatDoorLMarkPlaysx0
namespace Go.Proofs.YtkicekddkgehoaaGreatDoor.Pure
open Go.RowKit Go.Proofs.YtkicekddkgehoaaGreatDoor.LMarkPlays Go.Proofs.YtkicekddkgehoaaGreatDoor.QMarkPlays Go.Proofs.YtkicekddkgehoaaGreatDoorW.PrintWords Go.Proofs.YtkicekddkgehoaaGreatDoorW.PrintLast

theorem MarkPlays : ∀ (a0 : Int) (l1 : List S35) (l2 : List Int) (a3 : Int) (a4 : S26), (Lit.int .i64 a0).wf = true → (l1.length * 48 ≤ 140737488351232 ∧ ∀ y5 ∈ l1, ((Lit.int .i64 y5.f0).wf = true ∧ (Lit.int .i64 y5.f1).wf = true ∧ True ∧ ((Lit.int .i64 y5.f3.f0).wf = true ∧ y5.f3.f1.size ≤ 140737488351232))) → (l2.length * 8 ≤ 140737488351232 ∧ ∀ y6 ∈ l2, (Lit.int .i64 y6).wf = true) → (Lit.int .i64 a3).wf = true → ((Lit.int .i64 a4.f0).wf = true ∧ (a4.f1.length * 8 ≤ 140737488351232 ∧ ∀ y7 ∈ a4.f1, ((Lit.int .i64 y7.f0).wf = true))) → lazaruslaw6_MarkPlays.f a0 l1 l2 a3 a4 = some true := by
  intro a0 l1 l2 a3 a4 _ h1 _ _ _
  exact if_pos (ansM_of fun x hx => (h1.2 x hx).2.2.2.1)

end Go.Proofs.YtkicekddkgehoaaGreatDoor.Pure
