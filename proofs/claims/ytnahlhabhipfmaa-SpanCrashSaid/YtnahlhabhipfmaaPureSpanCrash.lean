import Derived.Test.YtnahlhabhipfmaaLSpanCrashx0
namespace Go.Proofs.Ytnahlhabhipfmaa.Pure
open Go.RowKit Go.Proofs.Ytnahlhabhipfmaa.LSpanCrash Go.Proofs.Ytnahlhabhipfmaa.QSpanCrash Go.Proofs.YtnahlhabhipfmaaW.PrintWords Go.Proofs.YtnahlhabhipfmaaW.PrintLast

theorem SpanCrash : ∀ (l0 : List Int) (l1 : List Int) (a2 : Int) (a3 : Int) (a4 : Int) (l5 : List S40), (l0.length * 1 ≤ 140737488351232 ∧ ∀ y4 ∈ l0, (Lit.int .u8 y4).wf = true) → (l1.length * 1 ≤ 140737488351232 ∧ ∀ y5 ∈ l1, (Lit.int .u8 y5).wf = true) → (Lit.int .u32 a2).wf = true → (Lit.int .u32 a3).wf = true → (Lit.int .i64 a4).wf = true → (l5.length * 8 ≤ 140737488351232 ∧ ∀ y6 ∈ l5, ((Lit.int .i64 y6.f0).wf = true)) → lazaruslaw4_SpanCrash.f l0 l1 a2 a3 a4 l5 = some true := by
  intro l0 l1 a2 a3 a4 l5 h0 h1 h2 h3 _ _
  refine if_pos ?_
  have e0 := Go.Proofs.YtnahlhabhipfmaaW.Dk.DS.isB_of h0.2
  have e1 := Go.Proofs.YtnahlhabhipfmaaW.Dk.DS.isB_of h1.2
  simp [Lit.wf, IntKind.min, IntKind.max, IntKind.signed, IntKind.bits] at h2 h3
  have q2 : decide (0 ≤ a2 ∧ a2 < 4294967296) = true := decide_eq_true (by omega)
  have q3 : decide (0 ≤ a3 ∧ a3 < 4294967296) = true := decide_eq_true (by omega)
  unfold crashOk
  rw [e0, e1, q2, q3]
  rfl

end Go.Proofs.Ytnahlhabhipfmaa.Pure
