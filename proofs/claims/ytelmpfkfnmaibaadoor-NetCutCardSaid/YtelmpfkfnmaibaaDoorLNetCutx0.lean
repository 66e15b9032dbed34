/- The contract of the law NetCut, by hand. -/
import Derived.Test.YtelmpfkfnmaibaaDoorNet10
import Derived.RangeFuncNested
import Derived.RangeFuncBound
import Derived.RangeFuncCalls
import Derived.RangeFuncLeaves
import Derived.RangeFuncBox
import Derived.Shelf.Abstract
import Derived.Shelf.RegionOpen
import Derived.OwnWalkIn
import Derived.TacticsInMore
import Derived.LoopNIn
import Derived.LoopIn
namespace Go.Proofs.YtelmpfkfnmaibaaDoor.LNetCut
open Go.RowKit Go.Proofs.YtelmpfkfnmaibaaDoor.QNetReads Go.Proofs.YtelmpfkfnmaibaaDoor.Hnd Go.Proofs.YtelmpfkfnmaibaaDoorW.PrintWords Go.Proofs.YtelmpfkfnmaibaaDoorW.PrintLast  Go.Shelf
set_option linter.unusedVariables false
set_option linter.unusedSimpArgs false
attribute [local go_sem] Oper.semAt_some
def lazaruslaw1_NetCut.f (a0 : ByteArray) (a1 : Int) : Option Bool := if a0.size ≤ 140737488351232 then some true else none
set_option maxHeartbeats 8000000 in
set_option maxRecDepth 100000 in
theorem lazaruslaw1_NetCut.calls (a0 : ByteArray) (a1 : Int) (r : Bool) (w : World) (h : lazaruslaw1_NetCut.f a0 a1 = some r) (hT : NTabs w) :
    Calls Tryd.prog 4 #[.string a0, .int .i64 a1] w fun e w' => e = .returned (.bool r) ∧ Below w.heap.size w w' := by
  unfold lazaruslaw1_NetCut.f at h
  by_cases hs : a0.size ≤ 140737488351232
  · rw [if_pos hs] at h
    obtain rfl : true = r := Option.some.inj h
    clear h
    have HRT := Aside0.mk (reftext_c a0 hs w)
    obtain ⟨L, hL⟩ : ∃ L, (NT.text (strL a0)).length = L := ⟨_, rfl⟩
    have HLQ := Aside0.mk hL
    have HS := Aside0.mk hs
    by_cases h200 : a0.size > 200
    · have d0 : decide ((a0.size : Int) > 200) = true := decide_eq_true (by omega)
      have d0' : decide ((200 : Int) < (a0.size : Int)) = true := decide_eq_true (by omega)
      have d0'' : decide (200 < a0.size) = true := decide_eq_true (by omega)
      clear hs hT h200 hL
      go_enter Tryd.func4, Tryd.ntmps4
      go_wp2_with (go_at_call 13; refine HRT.out.mono ?_; unfold RefText; rw [HLQ.out]; rintro e w1 ⟨A, c, rfl, hlc, hC, hB⟩; have B1 := Aside0.mk hB; clear hlc hC hB)
      go_ret
      exact ⟨rfl, B1.out⟩
    have d0 : decide ((a0.size : Int) > 200) = false := decide_eq_false (by omega)
    have d0' : decide ((200 : Int) < (a0.size : Int)) = false := decide_eq_false (by omega)
    have d0'' : decide (200 < a0.size) = false := decide_eq_false (by omega)
    by_cases h0 : a1 < 0
    · have d1 : decide (a1 < 0) = true := decide_eq_true h0
      clear hs hT h200 hL h0
      go_enter Tryd.func4, Tryd.ntmps4
      go_wp2_with (go_at_call 13; refine HRT.out.mono ?_; unfold RefText; rw [HLQ.out]; rintro e w1 ⟨A, c, rfl, hlc, hC, hB⟩; have B1 := Aside0.mk hB; clear hlc hC hB)
      go_ret
      exact ⟨rfl, B1.out⟩
    have d1 : decide (a1 < 0) = false := decide_eq_false h0
    by_cases h1 : a1 < (L : Int)
    · obtain ⟨k, rfl⟩ := Int.eq_ofNat_of_zero_le (Int.not_lt.1 h0)
      have hk : k < L := by omega
      have d2 : decide ((k : Int) ≥ (L : Int)) = false := decide_eq_false (by omega)
      have d2' : decide ((L : Int) ≤ (k : Int)) = false := decide_eq_false (by omega)
      have d2'' : decide (L ≤ k) = false := decide_eq_false (by omega)
      have hcn := cut_none (b := strL a0) (by rw [strL_len]; omega) k (by rw [hL]; exact hk)
      have hLs : L ≤ 300 := by
        have := text_len_le (s := a0) (by omega)
        omega
      obtain ⟨tb, htb⟩ : ∃ tb, (NT.text (strL a0)).take k = tb := ⟨_, rfl⟩
      rw [htb] at hcn
      have htl : tb.length = k := by rw [← htb, List.length_take, hL]; omega
      have HBY : Aside0 (NBytes tb) := ⟨htb ▸ bytes_take (text_bytes a0) k⟩
      have HTB := Aside0.mk htb
      have HTL := Aside0.mk htl
      have HCN := Aside0.mk hcn
      have HKL := Aside0.mk hk
      have HL3 := Aside0.mk hLs
      have HT := Aside0.mk hT
      clear hs hT h200 hL h0 h1 hk hcn hLs htb htl d1
      have d1 : decide ((k : Int) < 0) = false := decide_eq_false (by omega)
      go_enter Tryd.func4, Tryd.ntmps4
      go_wp2_with (first
        | (go_at_call 12; refine (known1_any _ (HT.out.on B3.out)).mono ?_; rintro e w9 ⟨rfl, hB⟩; have B9 := Aside0.mk (B3.out.trans (hB.mono B3.out.size)); clear hB)
        | (go_at_call 11; refine (left_c N3.out).mono ?_; rw [HTL.out]; rintro e w8 ⟨rfl, rfl⟩)
        | (go_at_call 10; refine (rtext_c N2.out (HT.out.on B2.out) (by rw [HTL.out]; have := HKL.out; have := HL3.out; omega)).mono ?_; rw [HCN.out]; unfold TextPost; dsimp only; rw [List.drop_zero, strOf_nil]; rintro e w3 ⟨rfl, hN, hK⟩; have N3 := Aside0.mk hN; have B3 := Aside0.mk (hK.below B2.out B2.out.size (fun j hj => by rw [hj]; exact G2.out)); clear hN hK)
        | (go_at_call 9; refine (calls_of_args (args' := #[.slice A tb.length c]) (by rw [HTL.out]) (new_c C1.out (by rw [HTL.out]; have := L1.out; have := HKL.out; omega) HBY.out (by rw [HTL.out]; have := HKL.out; have := HL3.out; omega))).mono ?_; rintro e w2 ⟨g, rfl, hg, hN, hB⟩; have N2 := Aside0.mk hN; have G2 := Aside0.mk (Nat.le_trans B1.out.size hg); have B2 := Aside0.mk (B1.out.trans (hB.mono B1.out.size)); clear hg hN hB)
        | (go_at_call 13; refine HRT.out.mono ?_; unfold RefText; rw [HLQ.out]; rintro e w1 ⟨A, c, rfl, hlc, hC, hB⟩; (have htk := run_take A c L k (by have := HKL.out; omega)); have L1 := Aside0.mk hlc; have C1 : Aside0 ((Kd.int .u8).C w1 A tb.length tb) := ⟨by have h5 := take_C (m := k) (show (Kd.int .u8).C w1 A (NT.text (strL a0)).length (NT.text (strL a0)) by rw [HLQ.out]; exact hC) (by rw [HLQ.out]; have := HKL.out; omega); rw [HTB.out] at h5; rw [HTL.out]; exact h5⟩; have B1 := Aside0.mk hB; clear hlc hC hB))
      go_ret
      exact ⟨rfl, B9.out⟩
    · have d2 : decide (a1 ≥ (L : Int)) = true := decide_eq_true (by omega)
      have d2' : decide ((L : Int) ≤ a1) = true := decide_eq_true (by omega)
      clear hs hT h200 hL h0 h1
      go_enter Tryd.func4, Tryd.ntmps4
      go_wp2_with (go_at_call 13; refine HRT.out.mono ?_; unfold RefText; rw [HLQ.out]; rintro e w1 ⟨A, c, rfl, hlc, hC, hB⟩; have B1 := Aside0.mk hB; clear hlc hC hB)
      go_ret
      exact ⟨rfl, B1.out⟩
  · rw [if_neg hs] at h
    cases h
end Go.Proofs.YtelmpfkfnmaibaaDoor.LNetCut
