/- The contract of the law NetOdd, by hand. -/
import Derived.Test.YtelmpfkfnmaibaaDoorNet6
import Derived.RangeFuncNested
import Derived.RangeFuncBound
import Derived.RangeFuncCalls
import Derived.RangeFuncLeaves
import Derived.RangeFuncBox
import Derived.Shelf.Abstract
import Derived.Shelf.RegionOpen
import Derived.OwnWalkIn
import Derived.TacticsInMore
import Derived.LoopNIn
import Derived.LoopIn
namespace Go.Proofs.YtelmpfkfnmaibaaDoor.LNetOdd
open Go.RowKit Go.Proofs.YtelmpfkfnmaibaaDoor.QNetReads Go.Proofs.YtelmpfkfnmaibaaDoor.Hnd Go.Proofs.YtelmpfkfnmaibaaDoorW.PrintWords Go.Proofs.YtelmpfkfnmaibaaDoorW.PrintLast  Go.Shelf
set_option linter.unusedVariables false
set_option linter.unusedSimpArgs false
attribute [local go_sem] Oper.semAt_some
def lazaruslaw1_NetOdd.f (a0 : Int) : Option Bool := some true
def oddS : List ByteArray := [⟨#[]⟩, ⟨#[59]⟩, ⟨#[48, 49, 59]⟩, ⟨#[45, 48, 59]⟩, ⟨#[45, 59]⟩, ⟨#[49]⟩, ⟨#[43, 49, 59]⟩, ⟨#[32, 49, 59]⟩, ⟨#[57, 50, 50, 51, 51, 55, 50, 48, 51, 54, 56, 53, 52, 55, 55, 53, 56, 48, 56, 59]⟩, ⟨#[45, 57, 50, 50, 51, 51, 55, 50, 48, 51, 54, 56, 53, 52, 55, 55, 53, 56, 48, 57, 59]⟩, ⟨#[49, 44]⟩, ⟨#[45, 45, 49, 59]⟩, ⟨#[48, 48, 59]⟩]
theorem oddS_L : oddS.map strL = oddL := rfl
set_option maxRecDepth 100000 in
theorem odd_cell (w : World) (k : Nat) (hk : k < 13) : (w.alloc (.cells #[.string ⟨#[]⟩, .string ⟨#[59]⟩, .string ⟨#[48, 49, 59]⟩, .string ⟨#[45, 48, 59]⟩, .string ⟨#[45, 59]⟩, .string ⟨#[49]⟩, .string ⟨#[43, 49, 59]⟩, .string ⟨#[32, 49, 59]⟩, .string ⟨#[57, 50, 50, 51, 51, 55, 50, 48, 51, 54, 56, 53, 52, 55, 55, 53, 56, 48, 56, 59]⟩, .string ⟨#[45, 57, 50, 50, 51, 51, 55, 50, 48, 51, 54, 56, 53, 52, 55, 55, 53, 56, 48, 57, 59]⟩, .string ⟨#[49, 44]⟩, .string ⟨#[45, 45, 49, 59]⟩, .string ⟨#[48, 48, 59]⟩] 9)).cell? ⟨w.heap.size, k, none⟩ = some (.string (strAt oddS k)) := by
  rw [blk_cell (blk_new w _) k]
  have h : #[.string ⟨#[]⟩, .string ⟨#[59]⟩, .string ⟨#[48, 49, 59]⟩, .string ⟨#[45, 48, 59]⟩, .string ⟨#[45, 59]⟩, .string ⟨#[49]⟩, .string ⟨#[43, 49, 59]⟩, .string ⟨#[32, 49, 59]⟩, .string ⟨#[57, 50, 50, 51, 51, 55, 50, 48, 51, 54, 56, 53, 52, 55, 55, 53, 56, 48, 56, 59]⟩, .string ⟨#[45, 57, 50, 50, 51, 51, 55, 50, 48, 51, 54, 56, 53, 52, 55, 55, 53, 56, 48, 57, 59]⟩, .string ⟨#[49, 44]⟩, .string ⟨#[45, 45, 49, 59]⟩, .string ⟨#[48, 48, 59]⟩] = (oddS.map Value.string).toArray := rfl
  rw [h, List.getElem?_toArray, List.getElem?_map]
  have hl : k < oddS.length := hk
  rw [List.getElem?_eq_getElem hl]
  unfold strAt
  rw [List.getD_eq_getElem?_getD, List.getElem?_eq_getElem hl]
  rfl
theorem odd_tk (k : Nat) (hk : k < 13) : tk (strL (strAt oddS k)) = (0, 0, false) := by
  refine odd_none _ ?_
  rw [← oddS_L]
  have hl : k < oddS.length := hk
  unfold strAt
  rw [List.getD_eq_getElem?_getD, List.getElem?_eq_getElem hl]
  exact List.mem_map.2 ⟨_, List.getElem_mem hl, rfl⟩
theorem odd_size (k : Nat) : (strAt oddS k).size ≤ 100 := by
  unfold strAt
  by_cases hl : k < oddS.length
  · have h : ∀ s ∈ oddS, s.size ≤ 100 := by decide
    rw [List.getD_eq_getElem?_getD, List.getElem?_eq_getElem hl]
    exact h _ (List.getElem_mem hl)
  · rw [List.getD_eq_getElem?_getD, List.getElem?_eq_none (by omega)]
    decide
set_option maxHeartbeats 8000000 in
set_option maxRecDepth 100000 in
theorem odd_core (k : Nat) (hk : k < 13) (w : World) (hT : NTabs w) :
    Calls Tryd.prog 7 #[.int .i64 (k : Int)] w fun e w' => e = .returned (.bool true) ∧ Below w.heap.size w w' := by
  have HT := Aside0.mk hT
  have a1 : decide ((k : Int) < 0) = false := decide_eq_false (by omega)
  have a2 : decide ((k : Int) ≥ 13) = false := decide_eq_false (by omega)
  have a2' : decide ((13 : Int) ≤ (k : Int)) = false := decide_eq_false (by omega)
  have a2'' : decide (13 ≤ k) = false := decide_eq_false (by omega)
  have z := odd_cell w k hk
  have HTK := Aside0.mk (odd_tk k hk)
  have HSZ := Aside0.mk (odd_size k)
  obtain ⟨s, hs⟩ : ∃ s, strAt oddS k = s := ⟨_, rfl⟩
  rw [hs] at z HTK HSZ
  have hp0 : (0 : Int) ≤ (k : Int) := by omega
  have hp1 : (k : Int) < 13 := by omega
  have hcb := conv_bytes s
  have kc := kcv
  have HB0 := Aside0.mk (below_alloc (Below.refl w.heap.size w) (.cells #[.string ⟨#[]⟩, .string ⟨#[59]⟩, .string ⟨#[48, 49, 59]⟩, .string ⟨#[45, 48, 59]⟩, .string ⟨#[45, 59]⟩, .string ⟨#[49]⟩, .string ⟨#[43, 49, 59]⟩, .string ⟨#[32, 49, 59]⟩, .string ⟨#[57, 50, 50, 51, 51, 55, 50, 48, 51, 54, 56, 53, 52, 55, 55, 53, 56, 48, 56, 59]⟩, .string ⟨#[45, 57, 50, 50, 51, 51, 55, 50, 48, 51, 54, 56, 53, 52, 55, 55, 53, 56, 48, 57, 59]⟩, .string ⟨#[49, 44]⟩, .string ⟨#[45, 45, 49, 59]⟩, .string ⟨#[48, 48, 59]⟩] 9))
  have HZ := Aside0.mk z
  have HLT : Aside0 (w.heap.size < (w.alloc (.cells #[.string ⟨#[]⟩, .string ⟨#[59]⟩, .string ⟨#[48, 49, 59]⟩, .string ⟨#[45, 48, 59]⟩, .string ⟨#[45, 59]⟩, .string ⟨#[49]⟩, .string ⟨#[43, 49, 59]⟩, .string ⟨#[32, 49, 59]⟩, .string ⟨#[57, 50, 50, 51, 51, 55, 50, 48, 51, 54, 56, 53, 52, 55, 55, 53, 56, 48, 56, 59]⟩, .string ⟨#[45, 57, 50, 50, 51, 51, 55, 50, 48, 51, 54, 56, 53, 52, 55, 55, 53, 56, 48, 57, 59]⟩, .string ⟨#[49, 44]⟩, .string ⟨#[45, 45, 49, 59]⟩, .string ⟨#[48, 48, 59]⟩] 9)).heap.size) := ⟨by simp⟩
  obtain ⟨W0, hW0⟩ : ∃ W0, W0 = w.alloc (.cells #[.string ⟨#[]⟩, .string ⟨#[59]⟩, .string ⟨#[48, 49, 59]⟩, .string ⟨#[45, 48, 59]⟩, .string ⟨#[45, 59]⟩, .string ⟨#[49]⟩, .string ⟨#[43, 49, 59]⟩, .string ⟨#[32, 49, 59]⟩, .string ⟨#[57, 50, 50, 51, 51, 55, 50, 48, 51, 54, 56, 53, 52, 55, 55, 53, 56, 48, 56, 59]⟩, .string ⟨#[45, 57, 50, 50, 51, 51, 55, 50, 48, 51, 54, 56, 53, 52, 55, 55, 53, 56, 48, 57, 59]⟩, .string ⟨#[49, 44]⟩, .string ⟨#[45, 45, 49, 59]⟩, .string ⟨#[48, 48, 59]⟩] 9) := ⟨_, rfl⟩
  have HW0 := Aside0.mk hW0
  rw [← hW0] at HB0 HZ HLT
  clear hT hs z hk hW0
  go_enter Tryd.func7, Tryd.ntmps7
  go_upto_region 2 with (fail)
  rw [← HW0.out]
  have z := HZ.out
  go_upto_region 6 with (first
    | (go_at_call 15; refine (rnum_c N1.out (HT.out.on B1.out) (by rw [strL_len]; have := HSZ.out; omega)).mono ?_; rw [HTK.out]; dsimp only; rw [List.drop_zero]; rintro e w2 ⟨rfl, hN, hK⟩; have N2 := Aside0.mk hN; have hb2 := hK.below B1.out B1.out.size (fun j hj => by rw [hj]; exact G1.out); have B2 := Aside0.mk hb2; (have hz2 := (cell_of_heap (p := ⟨w.heap.size, k, none⟩) (hK.block w.heap.size ZL1.out (fun e => by have h1 : w.heap.size = g := e; have h2 := GG.out; have h3 := HLT.out; omega))).trans Z1.out); have Z2 := Aside0.mk hz2; (have ZL2 := Aside0.mk (Nat.lt_of_lt_of_le ZL1.out hK.size)); clear hN hK hb2 hz2)
    | (go_at_call 9; refine (new_str w W0 s (by have := HSZ.out; omega) HB0.out).mono ?_; rintro e w1 ⟨g, rfl, hg, hN, hB⟩; have GG := Aside0.mk hg; have G1 := Aside0.mk (Nat.le_trans HB0.out.size hg); have N1 := Aside0.mk hN; have B1 := Aside0.mk (HB0.out.trans (hB.mono HB0.out.size)); have Z1 := Aside0.mk ((hB.cell (p := ⟨w.heap.size, k, none⟩) HLT.out).trans HZ.out); have ZL1 := Aside0.mk (Nat.lt_of_lt_of_le HLT.out hB.size); clear hg hN hB))
  have NL := Aside0.mk (new_lit w2 #[.int .u8 45, .int .u8 57, .int .u8 50, .int .u8 50, .int .u8 51, .int .u8 51, .int .u8 55, .int .u8 50, .int .u8 48, .int .u8 51, .int .u8 54, .int .u8 56, .int .u8 53, .int .u8 52, .int .u8 55, .int .u8 55, .int .u8 53, .int .u8 56, .int .u8 48, .int .u8 56, .int .u8 59] [45, 57, 50, 50, 51, 51, 55, 50, 48, 51, 54, 56, 53, 52, 55, 55, 53, 56, 48, 56, 59] rfl (by intro x hx; simp at hx; omega) (by decide) 21 rfl)
  clear z
  go_upto_region 11 with (first
    | (go_at_call 10; refine (text_nil w4).mono ?_; rintro e w8 ⟨rfl, rfl⟩)
    | (go_at_call 15; refine (num_nil w4).mono ?_; rintro e w8 ⟨rfl, rfl⟩)
    | (go_at_call 15; refine (rnum_c N3.out (HT.out.on B3.out) (by decide)).mono ?_; rw [least_take]; dsimp only; rintro e w4 ⟨rfl, hN, hK⟩; have hb4 := hK.below B3.out B3.out.size (fun j hj => by rw [hj]; exact G3.out); have B4 := Aside0.mk hb4; have R4 := Aside0.mk (R3.out.other hK (List.mem_cons_self) NE.out); (have hz4 := (cell_of_heap (p := ⟨w.heap.size, k, none⟩) (hK.block w.heap.size ZL3.out (fun e => by have h1 : w.heap.size = g2 := e; have h2 := ZL2.out; have h3 := G2.out; omega))).trans Z3.out); have Z4 := Aside0.mk hz4; (have ZL4 := Aside0.mk (Nat.lt_of_lt_of_le ZL3.out hK.size)); clear hN hK hb4 hz4)
    | (go_at_call 9; refine NL.out.mono ?_; rintro e w3 ⟨g2, rfl, hg, hN, hB⟩; have G2 := Aside0.mk hg; have G3 := Aside0.mk (Nat.le_trans B2.out.size hg); have N3 := Aside0.mk hN; have B3 := Aside0.mk (B2.out.trans (hB.mono B2.out.size)); have R3 := Aside0.mk (N2.out.more (ys := [g2]) hB (fun y hy => by rw [List.mem_singleton.1 hy]; exact hg)); have NE : Aside0 (g ≠ g2) := ⟨fun e => by have := N2.out.lt; omega⟩; have Z3 := Aside0.mk ((hB.cell (p := ⟨w.heap.size, k, none⟩) ZL2.out).trans Z2.out); have ZL3 := Aside0.mk (Nat.lt_of_lt_of_le ZL2.out hB.size); clear hg hN hB))
  go_region_held (fun w' => w'.cell? ⟨w.heap.size, k, none⟩ = some (.string s)) (first | exact Z9.out | exact Z4.out) (first
    | (go_at_call 12; refine (known1_any _ (HT.out.on (B4.out.trans ((below_drew1 (Below.refl _ _)).mono B4.out.size)))).mono ?_; rintro e w9 ⟨rfl, hB⟩; (have Z9 := Aside0.mk ((hB.cell (p := ⟨w.heap.size, k, none⟩) (show w.heap.size < w4.drew.heap.size from ZL4.out)).trans (show w4.drew.cell? ⟨w.heap.size, k, none⟩ = _ from Z4.out))); have B9 := Aside0.mk ((B4.out.trans ((below_drew1 (Below.refl _ _)).mono B4.out.size)).trans (hB.mono B4.out.size)); clear hB)
    | (go_at_call 11; refine (left_nil _).mono ?_; rintro e w8 ⟨rfl, rfl⟩)
    | (go_at_call 11; refine (left_c (R4.out.after (below_drew1 (Below.refl _ _)))).mono ?_; rw [strL_len]; rintro e w8 ⟨rfl, rfl⟩))
  go_wp2
  go_ret
  exact ⟨rfl, B9.out⟩
theorem lazaruslaw1_NetOdd.calls (a0 : Int) (r : Bool) (w : World) (h : lazaruslaw1_NetOdd.f a0 = some r) (hT : NTabs w) :
    Calls Tryd.prog 7 #[.int .i64 a0] w fun e w' => e = .returned (.bool r) ∧ Below w.heap.size w w' := by
  obtain rfl : true = r := Option.some.inj h
  clear h
  by_cases h0 : a0 < 0
  · have d1 : decide (a0 < 0) = true := decide_eq_true h0
    have HB0 := Aside0.mk (below_alloc (Below.refl w.heap.size w) (.cells #[.string ⟨#[]⟩, .string ⟨#[59]⟩, .string ⟨#[48, 49, 59]⟩, .string ⟨#[45, 48, 59]⟩, .string ⟨#[45, 59]⟩, .string ⟨#[49]⟩, .string ⟨#[43, 49, 59]⟩, .string ⟨#[32, 49, 59]⟩, .string ⟨#[57, 50, 50, 51, 51, 55, 50, 48, 51, 54, 56, 53, 52, 55, 55, 53, 56, 48, 56, 59]⟩, .string ⟨#[45, 57, 50, 50, 51, 51, 55, 50, 48, 51, 54, 56, 53, 52, 55, 55, 53, 56, 48, 57, 59]⟩, .string ⟨#[49, 44]⟩, .string ⟨#[45, 45, 49, 59]⟩, .string ⟨#[48, 48, 59]⟩] 9))
    clear hT h0
    go_enter Tryd.func7, Tryd.ntmps7
    go_wp2
    go_ret
    exact ⟨rfl, HB0.out⟩
  by_cases h1 : a0 < 13
  · obtain ⟨k, rfl⟩ := Int.eq_ofNat_of_zero_le (Int.not_lt.1 h0)
    exact odd_core k (by omega) w hT
  · have d1 : decide (a0 < 0) = false := decide_eq_false h0
    have d2 : decide (a0 ≥ 13) = true := decide_eq_true (by omega)
    have d2' : decide ((13 : Int) ≤ a0) = true := decide_eq_true (by omega)
    have HB0 := Aside0.mk (below_alloc (Below.refl w.heap.size w) (.cells #[.string ⟨#[]⟩, .string ⟨#[59]⟩, .string ⟨#[48, 49, 59]⟩, .string ⟨#[45, 48, 59]⟩, .string ⟨#[45, 59]⟩, .string ⟨#[49]⟩, .string ⟨#[43, 49, 59]⟩, .string ⟨#[32, 49, 59]⟩, .string ⟨#[57, 50, 50, 51, 51, 55, 50, 48, 51, 54, 56, 53, 52, 55, 55, 53, 56, 48, 56, 59]⟩, .string ⟨#[45, 57, 50, 50, 51, 51, 55, 50, 48, 51, 54, 56, 53, 52, 55, 55, 53, 56, 48, 57, 59]⟩, .string ⟨#[49, 44]⟩, .string ⟨#[45, 45, 49, 59]⟩, .string ⟨#[48, 48, 59]⟩] 9))
    clear hT h0 h1
    go_enter Tryd.func7, Tryd.ntmps7
    go_wp2
    go_ret
    exact ⟨rfl, HB0.out⟩
end Go.Proofs.YtelmpfkfnmaibaaDoor.LNetOdd
