/- The law GlobKnown's pure statement: for every number, the answer with enough rounds is true. No condition. -/
import Derived.Test.YtnhmfeihnjdcpaaQGlobKnownx5
namespace Go.Proofs.Ytnhmfeihnjdcpaa.Pure
open Go.RowKit Go.Proofs.Ytnhmfeihnjdcpaa.QGlobKnown Go.Proofs.YtnhmfeihnjdcpaaW.PrintWords Go.Proofs.YtnhmfeihnjdcpaaW.PrintLast

theorem GlobKnown : ∀ (a0 : Int), (Lit.int .i64 a0).wf = true → ∃ k, lazaruslaw13_GlobKnown.f k a0 = some true := by
  intro a0 _
  by_cases h : a0 < 0
  · exact ⟨0 + 1, by simp [lazaruslaw13_GlobKnown.f, lazaruslaw13_GlobKnown.j0, h]⟩
  by_cases h1 : 16 ≤ a0
  · exact ⟨0 + 1, by simp [lazaruslaw13_GlobKnown.f, lazaruslaw13_GlobKnown.j0, h, h1]⟩
  have h : a0 = 0 ∨ a0 = 1 ∨ a0 = 2 ∨ a0 = 3 ∨ a0 = 4 ∨ a0 = 5 ∨ a0 = 6 ∨ a0 = 7 ∨ a0 = 8 ∨ a0 = 9 ∨ a0 = 10 ∨ a0 = 11 ∨ a0 = 12 ∨ a0 = 13 ∨ a0 = 14 ∨ a0 = 15 := by omega
  rcases h with rfl | rfl | rfl | rfl | rfl | rfl | rfl | rfl | rfl | rfl | rfl | rfl | rfl | rfl | rfl | rfl
  all_goals exact ⟨60, by decide +kernel⟩

end Go.Proofs.Ytnhmfeihnjdcpaa.Pure
