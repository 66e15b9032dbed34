/- The contract of the law SpanNeed, by hand. -/
import Derived.Test.YtnahlhabhipfmaaSpan8
import Derived.RangeFuncNested
import Derived.RangeFuncBound
import Derived.RangeFuncCalls
import Derived.RangeFuncLeaves
import Derived.RangeFuncBox
import Derived.Shelf.Abstract
import Derived.Shelf.RegionOpen
import Derived.OwnWalkIn
import Derived.TacticsInMore
import Derived.LoopNIn
import Derived.LoopIn
namespace Go.Proofs.Ytnahlhabhipfmaa.QSpanNeed
open Go.RowKit Go.Proofs.Ytnahlhabhipfmaa.QSpanCrash Go.Proofs.Ytnahlhabhipfmaa.Hnd Go.Proofs.YtnahlhabhipfmaaW.PrintWords Go.Proofs.YtnahlhabhipfmaaW.PrintLast Go.Proofs.YtnahlhabhipfmaaW.Dk Go.Shelf
set_option linter.unusedVariables false
set_option linter.unusedSimpArgs false
attribute [local go_sem] Oper.semAt_some
theorem refneed_any (a0 : Int) (r : Int) (w : World) (h : span_Need.f a0 = some r) : Calls Try.prog 24 #[.int .i64 a0] w fun e w' => e = .returned (.int .i64 r) ∧ w = w' := by
  unfold span_Need.f at h
  by_cases c2 : a0 < 0
  · rw [if_pos c2] at h
    have c2b0 : decide (a0 < 0) = true := decide_eq_true c2
    obtain rfl := Option.some.inj h
    clear h c2
    go_enter Try.func24, Try.ntmps24
    go_wp2
    go_ret
    exact ⟨rfl, rfl⟩
  · rw [if_neg c2] at h
    have c2b0 : decide (a0 < 0) = false := decide_eq_false c2
    have hm : 0 ≤ Int.tmod a0 16 := Int.tmod_nonneg _ (by omega)
    by_cases c3 : Int.tmod a0 16 > 0
    · rw [if_pos c3] at h
      have hb1 : (Int.tmod a0 16 != 0) = true := by rw [bne_iff_ne]; omega
      have hb2 : (Int.tmod a0 16 == 0) = false := by rw [beq_eq_false_iff_ne]; omega
      have hb3 : decide (Int.tmod a0 16 = 0) = false := decide_eq_false (by omega)
      obtain rfl := Option.some.inj h
      clear h c2 c3 hm
      go_enter Try.func24, Try.ntmps24
      go_wp2
      go_ret
      exact ⟨by first | rfl | simp [IntKind.wrap_i64, wrap64], rfl⟩
    · rw [if_neg c3] at h
      have hb1 : (Int.tmod a0 16 != 0) = false := by rw [bne_eq_false_iff_eq]; omega
      have hb2 : (Int.tmod a0 16 == 0) = true := by rw [beq_iff_eq]; omega
      have hb3 : decide (Int.tmod a0 16 = 0) = true := decide_eq_true (by omega)
      obtain rfl := Option.some.inj h
      clear h c2 c3 hm
      go_enter Try.func24, Try.ntmps24
      go_wp2
      go_ret
      exact ⟨by first | rfl | simp [IntKind.wrap_i64, wrap64], rfl⟩
def lazaruslaw4_SpanNeed.f (a0 : Int) : Option Bool := some true
set_option maxHeartbeats 4000000 in
set_option maxRecDepth 100000 in
theorem lazaruslaw4_SpanNeed.calls (a0 : Int) (r : Bool) (w : World) (h : lazaruslaw4_SpanNeed.f a0 = some r) :
    Calls Try.prog 8 #[.int .i64 a0] w fun e w' => e = .returned (.bool r) ∧ Below w.heap.size w w' := by
  obtain rfl : true = r := Option.some.inj h
  clear h
  obtain ⟨v, hv⟩ : ∃ v, span_Need.f a0 = some v := by
    unfold span_Need.f
    split
    · exact ⟨_, rfl⟩
    · split <;> exact ⟨_, rfl⟩
  have HV := Aside0.mk hv
  clear hv
  go_enter Try.func8, Try.ntmps8
  go_wp2_with (first
    | (go_at_call 25; refine (known4_any _).mono ?_; rintro e w3 ⟨rfl, hB⟩; have B3 := Aside0.mk (B1.out.trans (hB.mono B1.out.size)); clear hB)
    | (go_at_call 24; refine (refneed_any a0 v _ HV.out).mono ?_; rintro e w2 ⟨rfl, rfl⟩)
    | (go_at_call 23; refine (span_Need.calls a0 v w HV.out).mono ?_; rintro e w1 ⟨rfl, hD⟩; have B1 := Aside0.mk hD.below; clear hD))
  go_ret
  exact ⟨rfl, B3.out⟩
end Go.Proofs.Ytnahlhabhipfmaa.QSpanNeed
