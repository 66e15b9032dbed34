/- The contract of the law SlotGens, by hand. -/
import Derived.Test.YtkicekddkgehoaaSlot3
import Derived.RangeFuncNested
import Derived.RangeFuncBound
import Derived.RangeFuncCalls
import Derived.RangeFuncLeaves
import Derived.RangeFuncBox
import Derived.Shelf.Abstract
import Derived.Shelf.RegionOpen
import Derived.OwnWalkIn
import Derived.TacticsInMore
import Derived.LoopNIn
import Derived.LoopIn
namespace Go.Proofs.Ytkicekddkgehoaa.LSlotGens
open Go.RowKit Go.Proofs.Ytkicekddkgehoaa.QSlotLast Go.Proofs.Ytkicekddkgehoaa.Hnd Go.Proofs.YtkicekddkgehoaaW.PrintWords Go.Proofs.YtkicekddkgehoaaW.PrintLast Go.Proofs.YtkicekddkgehoaaW.Dk Go.Shelf
set_option linter.unusedVariables false
set_option linter.unusedSimpArgs false
attribute [local go_sem] Oper.semAt_some
def g5 : DS × Int := DS.save crcO (DS.new 40) 5 [120]
theorem g5_0 : g5.2 = 0 := by decide +kernel
theorem g5_1 : DS.load crcO g5.1 = (5, [120], true) := by decide +kernel
theorem g5_2 : g5.1.P = [] ∧ g5.1.down = false ∧ g5.1.armed = false := by decide +kernel
theorem g5_3 : g5.1.S.length = 40 := by decide +kernel
theorem g5_4 : g5.1.AllB := DS.save_bytes (DS.new_bytes 40) 5 (b1_bytes (by decide) (by decide))
theorem str120 : strOfNums [120] = ⟨#[120]⟩ := by decide +kernel
def lazaruslaw5_SlotGens.f (a0 : Int) : Option Bool := some true
set_option maxHeartbeats 4000000 in
set_option maxRecDepth 100000 in
theorem lazaruslaw5_SlotGens.calls (a0 : Int) (r : Bool) (w : World) (h : lazaruslaw5_SlotGens.f a0 = some r) :
    Calls Try.prog 4 #[.int .i64 a0] w fun e w' => e = .returned (.bool r) ∧ Below w.heap.size w w' := by
  obtain rfl : true = r := Option.some.inj h
  clear h
  have kc := kcv
  have K0 := Aside0.mk g5_0
  have K1 := Aside0.mk g5_1
  by_cases hv : 1 ≤ a0 ∧ a0 < 2147483648
  · have d1 : decide (a0 ≥ 1) = true := decide_eq_true hv.1
    have d1' : decide (1 ≤ a0) = true := decide_eq_true hv.1
    have d2 : decide (a0 < 2147483648) = true := decide_eq_true hv.2
    obtain ⟨e, hs, _⟩ := DS.save_ok crcO g5.1 g5_2 a0 [121] hv.1 (by omega) (by rw [DS.room, g5_3]; decide)
    have HS := Aside0.mk hs
    clear hv hs
    go_enter Try.func4, Try.ntmps4
    go_wp2_with (first
      | (go_at_call 10; refine (known5_any _).mono ?_; rintro e w4 ⟨rfl, hB⟩; have B4 := Aside0.mk (S3.out.2.1.trans (hB.mono S3.out.2.1.size)); clear hB)
      | (go_at_call 8; refine (st_save (one_rd S2.out 121).1 a0 (some ⟨w2.heap.size, 0, none⟩) 1 [121] (one_rd S2.out 121).2 (by decide) (by decide) (by rw [g5_2.1]; decide) (by rw [g5_3]; decide)).mono ?_; rw [HS.out]; rintro e w3 ⟨rfl, hS, hM⟩; have S3 := Aside0.mk hS; clear hS hM)
      | (go_at_call 11; refine (st_ops S2.out).mono ?_; rintro e w7 ⟨rfl, rfl⟩)
      | (go_at_call 8; refine (st_save (one_rd S1.out 120).1 5 (some ⟨w1.heap.size, 0, none⟩) 1 [120] (one_rd S1.out 120).2 (by decide) (by decide) (by decide) (by rw [DS.new_len]; decide)).mono ?_; rw [show DS.save crcO (DS.new 40) 5 [120] = g5 from rfl]; rintro e w2 ⟨h1, hS, hM⟩; rw [K0.out] at h1; subst h1; have S2 := Aside0.mk hS; clear hS hM)
      | (go_at_call 7; refine (st_new 40 (by omega) w _ (Below.refl _ _) [] (fun x hx => by cases hx)).mono ?_; rintro e w1 ⟨rfl, hS, hM⟩; have S1 := Aside0.mk hS; clear hS hM))
    go_ret
    exact ⟨rfl, B4.out⟩
  · have hs : DS.save crcO g5.1 a0 [121] = (g5.1, 1) := by unfold DS.save; rw [if_pos (by omega)]
    have HS := Aside0.mk hs
    clear hs
    by_cases h1 : 1 ≤ a0
    · have d1 : decide (a0 ≥ 1) = true := decide_eq_true h1
      have d1' : decide (1 ≤ a0) = true := decide_eq_true h1
      have d2 : decide (a0 < 2147483648) = false := decide_eq_false (by omega)
      clear hv h1
      go_enter Try.func4, Try.ntmps4
      go_wp2_with (first
        | (go_at_call 10; refine (known5_any _).mono ?_; rintro e w5 ⟨rfl, hB⟩; have B5 := Aside0.mk (S4.out.2.1.trans (hB.mono S4.out.2.1.size)); clear hB)
        | (go_at_call 11; refine (st_ops S4.out).mono ?_; rintro e w7 ⟨rfl, rfl⟩)
        | (go_at_call 9; refine (st_load S3.out g5_4 (by rw [g5_3]; decide)).mono ?_; rw [K1.out]; rintro e w4 ⟨v, rfl, hR, hS, hB⟩; have S4 := Aside0.mk hS; (obtain ⟨A4, c4, hv, -, hC⟩ := Kd.R_reads hR); (replace hv : v = .slice A4 1 c4 := hv); subst hv; (have hcv := conv_str (A := A4) (n := 1) (c := c4) (show (Kd.int .u8).C w4 A4 1 [120] from hC)); rw [str120] at hcv; clear hR hS hB hC)
        | (go_at_call 8; refine (st_save (one_rd S2.out 121).1 a0 (some ⟨w2.heap.size, 0, none⟩) 1 [121] (one_rd S2.out 121).2 (by decide) (by decide) (by rw [g5_2.1]; decide) (by rw [g5_3]; decide)).mono ?_; rw [HS.out]; rintro e w3 ⟨rfl, hS, hM⟩; have S3 := Aside0.mk hS; clear hS hM)
        | (go_at_call 11; refine (st_ops S2.out).mono ?_; rintro e w7 ⟨rfl, rfl⟩)
        | (go_at_call 8; refine (st_save (one_rd S1.out 120).1 5 (some ⟨w1.heap.size, 0, none⟩) 1 [120] (one_rd S1.out 120).2 (by decide) (by decide) (by decide) (by rw [DS.new_len]; decide)).mono ?_; rw [show DS.save crcO (DS.new 40) 5 [120] = g5 from rfl]; rintro e w2 ⟨h1, hS, hM⟩; rw [K0.out] at h1; subst h1; have S2 := Aside0.mk hS; clear hS hM)
        | (go_at_call 7; refine (st_new 40 (by omega) w _ (Below.refl _ _) [] (fun x hx => by cases hx)).mono ?_; rintro e w1 ⟨rfl, hS, hM⟩; have S1 := Aside0.mk hS; clear hS hM))
      go_ret
      exact ⟨rfl, B5.out⟩
    · have d1 : decide (a0 ≥ 1) = false := decide_eq_false h1
      have d1' : decide (1 ≤ a0) = false := decide_eq_false h1
      clear hv h1
      go_enter Try.func4, Try.ntmps4
      go_wp2_with (first
        | (go_at_call 10; refine (known5_any _).mono ?_; rintro e w5 ⟨rfl, hB⟩; have B5 := Aside0.mk (S4.out.2.1.trans (hB.mono S4.out.2.1.size)); clear hB)
        | (go_at_call 11; refine (st_ops S4.out).mono ?_; rintro e w7 ⟨rfl, rfl⟩)
        | (go_at_call 9; refine (st_load S3.out g5_4 (by rw [g5_3]; decide)).mono ?_; rw [K1.out]; rintro e w4 ⟨v, rfl, hR, hS, hB⟩; have S4 := Aside0.mk hS; (obtain ⟨A4, c4, hv, -, hC⟩ := Kd.R_reads hR); (replace hv : v = .slice A4 1 c4 := hv); subst hv; (have hcv := conv_str (A := A4) (n := 1) (c := c4) (show (Kd.int .u8).C w4 A4 1 [120] from hC)); rw [str120] at hcv; clear hR hS hB hC)
        | (go_at_call 8; refine (st_save (one_rd S2.out 121).1 a0 (some ⟨w2.heap.size, 0, none⟩) 1 [121] (one_rd S2.out 121).2 (by decide) (by decide) (by rw [g5_2.1]; decide) (by rw [g5_3]; decide)).mono ?_; rw [HS.out]; rintro e w3 ⟨rfl, hS, hM⟩; have S3 := Aside0.mk hS; clear hS hM)
        | (go_at_call 11; refine (st_ops S2.out).mono ?_; rintro e w7 ⟨rfl, rfl⟩)
        | (go_at_call 8; refine (st_save (one_rd S1.out 120).1 5 (some ⟨w1.heap.size, 0, none⟩) 1 [120] (one_rd S1.out 120).2 (by decide) (by decide) (by decide) (by rw [DS.new_len]; decide)).mono ?_; rw [show DS.save crcO (DS.new 40) 5 [120] = g5 from rfl]; rintro e w2 ⟨h1, hS, hM⟩; rw [K0.out] at h1; subst h1; have S2 := Aside0.mk hS; clear hS hM)
        | (go_at_call 7; refine (st_new 40 (by omega) w _ (Below.refl _ _) [] (fun x hx => by cases hx)).mono ?_; rintro e w1 ⟨rfl, hS, hM⟩; have S1 := Aside0.mk hS; clear hS hM))
      go_ret
      exact ⟨rfl, B5.out⟩
end Go.Proofs.Ytkicekddkgehoaa.LSlotGens
