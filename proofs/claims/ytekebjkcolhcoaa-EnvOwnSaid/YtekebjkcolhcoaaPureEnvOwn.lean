import Derived.Test.YtekebjkcolhcoaaLEnvOwnx0
namespace Go.Proofs.Ytekebjkcolhcoaa.Pure
open Go.RowKit Go.Proofs.Ytekebjkcolhcoaa.LEnvOwn Go.Proofs.Ytekebjkcolhcoaa.QEnvOwn Go.Proofs.YtekebjkcolhcoaaW.PrintWords Go.Proofs.YtekebjkcolhcoaaW.PrintLast

theorem EnvOwn : ∀ (l0 : List S41) (a1 : S41) (a2 : S41), (l0.length * 48 ≤ 140737488351232 ∧ ∀ y2 ∈ l0, ((Lit.int .i64 y2.f0).wf = true ∧ y2.f1.size ≤ 140737488351232 ∧ y2.f2.size ≤ 140737488351232 ∧ (Lit.int .i64 y2.f3).wf = true)) → ((Lit.int .i64 a1.f0).wf = true ∧ a1.f1.size ≤ 140737488351232 ∧ a1.f2.size ≤ 140737488351232 ∧ (Lit.int .i64 a1.f3).wf = true) → ((Lit.int .i64 a2.f0).wf = true ∧ a2.f1.size ≤ 140737488351232 ∧ a2.f2.size ≤ 140737488351232 ∧ (Lit.int .i64 a2.f3).wf = true) → lazaruslaw14_EnvOwn.f l0 a1 a2 = some true := by
  intros; rfl

end Go.Proofs.Ytekebjkcolhcoaa.Pure
