/- The contract of the law NetPuts, by hand. -/
import Derived.Test.YtelmpfkfnmaibaaDoorNet10
import Derived.RangeFuncNested
import Derived.RangeFuncBound
import Derived.RangeFuncCalls
import Derived.RangeFuncLeaves
import Derived.RangeFuncBox
import Derived.Shelf.Abstract
import Derived.Shelf.RegionOpen
import Derived.OwnWalkIn
import Derived.TacticsInMore
import Derived.LoopNIn
import Derived.LoopIn
namespace Go.Proofs.YtelmpfkfnmaibaaDoor.LNetPuts
open Go.RowKit Go.Proofs.YtelmpfkfnmaibaaDoor.QNetReads Go.Proofs.YtelmpfkfnmaibaaDoor.Hnd Go.Proofs.YtelmpfkfnmaibaaDoorW.PrintWords Go.Proofs.YtelmpfkfnmaibaaDoorW.PrintLast  Go.Shelf
set_option linter.unusedVariables false
set_option linter.unusedSimpArgs false
attribute [local go_sem] Oper.semAt_some
theorem tk_num {n : Int} (hn : NT.Rng n) (t : List Int) : tk (NT.num n ++ t) = (n, (NT.num n).length, true) := by
  unfold tk
  rw [NT.take_num hn]
def lazaruslaw1_NetPuts.f (a0 : Int) (a1 : ByteArray) : Option Bool := if -9223372036854775808 ≤ a0 ∧ a0 ≤ 9223372036854775807 then some true else none
set_option maxHeartbeats 8000000 in
set_option maxRecDepth 100000 in
theorem lazaruslaw1_NetPuts.calls (a0 : Int) (a1 : ByteArray) (r : Bool) (w : World) (h : lazaruslaw1_NetPuts.f a0 a1 = some r) (hT : NTabs w) :
    Calls Tryd.prog 5 #[.int .i64 a0, .string a1] w fun e w' => e = .returned (.bool r) ∧ Below w.heap.size w w' := by
  unfold lazaruslaw1_NetPuts.f at h
  by_cases hn : -9223372036854775808 ≤ a0 ∧ a0 ≤ 9223372036854775807
  · rw [if_pos hn] at h
    obtain rfl : true = r := Option.some.inj h
    clear h
    have hn : NT.Rng a0 := hn
    by_cases h300 : a1.size > 300
    · have d0 : decide ((a1.size : Int) > 300) = true := decide_eq_true (by omega)
      have d0' : decide ((300 : Int) < (a1.size : Int)) = true := decide_eq_true (by omega)
      have d0'' : decide (300 < a1.size) = true := decide_eq_true (by omega)
      clear hT hn h300
      go_enter Tryd.func5, Tryd.ntmps5
      go_wp2
      go_ret
      exact ⟨rfl, Below.refl _ _⟩
    have d0 : decide ((a1.size : Int) > 300) = false := decide_eq_false (by omega)
    have d0' : decide ((300 : Int) < (a1.size : Int)) = false := decide_eq_false (by omega)
    have d0'' : decide (300 < a1.size) = false := decide_eq_false (by omega)
    have HS : Aside0 (a1.size ≤ 300) := ⟨by omega⟩
    have HN := Aside0.mk hn
    have HT := Aside0.mk hT
    have hnl := num_len_le hn
    have htl := text_len_le (s := a1) (by omega)
    obtain ⟨xs, hxs⟩ : ∃ xs, NT.num a0 = xs := ⟨_, rfl⟩
    obtain ⟨ys, hys⟩ : ∃ ys, NT.text (strL a1) = ys := ⟨_, rfl⟩
    have htk := tk_num hn (NT.text (strL a1))
    have htt := tT_text (s := strL a1) (t := []) (by rw [strL_len]; omega)
    rw [List.append_nil] at htt
    have hxb : NBytes xs := hxs ▸ NT.num_bytes a0
    have hyb : NBytes ys := hys ▸ text_bytes a1
    rw [hxs] at hnl htk
    rw [hys] at htl htk htt
    have HXS := Aside0.mk hxs
    have HYS := Aside0.mk hys
    have HTK := Aside0.mk htk
    have HTT := Aside0.mk htt
    have HXL := Aside0.mk hnl
    have HYL : Aside0 (ys.length ≤ 322) := ⟨by omega⟩
    have HBB : Aside0 (NBytes (xs ++ ys)) := ⟨fun x hx => (List.mem_append.1 hx).elim (hxb x) (hyb x)⟩
    have hsum : strOfNums xs ++ strOfNums ys = strOfNums (xs ++ ys) := (str_app xs ys).symm
    obtain ⟨sx, hsx⟩ : ∃ s, strOfNums xs = s := ⟨_, rfl⟩
    obtain ⟨sy, hsy⟩ : ∃ s, strOfNums ys = s := ⟨_, rfl⟩
    obtain ⟨sb, hsb⟩ : ∃ s, strOfNums (xs ++ ys) = s := ⟨_, rfl⟩
    have hfit : (9223372036854775807 < sx.size + sy.size) = False := eq_false (by rw [← hsx, ← hsy, str_size, str_size]; omega)
    rw [hsx, hsy, hsb] at hsum
    have HSX := Aside0.mk hsx
    have HSY := Aside0.mk hsy
    have HSB := Aside0.mk hsb
    clear hT hn h300 hnl htl hxs hys htk htt hxb hyb hsx hsy hsb
    go_enter Tryd.func5, Tryd.ntmps5
    go_upto_region 7 with (first
      | (go_at_call 10; refine (rtext_c N5.out (HT.out.on B5.out) (by have := HYL.out; omega)).mono ?_; rw [HTT.out]; unfold TextPost; dsimp only; rw [List.drop_length, strOf_strL]; rintro e w6 ⟨rfl, hN, hK⟩; have N6 := Aside0.mk hN; have B6 := Aside0.mk (hK.below B5.out B5.out.size (fun j hj => by rw [hj]; exact G4.out)); (have C6 := Aside0.mk (C_blk C5.out (fun ad e hp => hK.block _ (Nat.lt_of_lt_of_le (M3.out ad e) S35.out) (fun e2 => by have h1 : ad.block = g := e2; have h2 := M3.out ad e; have h3 := GG.out; omega)))); clear hN hK)
      | (go_at_call 15; refine (rnum_c N4.out (HT.out.on B4.out) (by rw [List.length_append]; have := HXL.out; have := HYL.out; omega)).mono ?_; rw [HTK.out]; dsimp only; rw [List.drop_left]; rintro e w5 ⟨rfl, hN, hK⟩; have N5 := Aside0.mk hN; have B5 := Aside0.mk (hK.below B4.out B4.out.size (fun j hj => by rw [hj]; exact G4.out)); have S35 := Aside0.mk (Nat.le_trans S34.out hK.size); (have C5 := Aside0.mk (C_blk C4.out (fun ad e hp => hK.block _ (Nat.lt_of_lt_of_le (M3.out ad e) S34.out) (fun e2 => by have h1 : ad.block = g := e2; have h2 := M3.out ad e; have h3 := GG.out; omega)))); clear hN hK)
      | (go_at_call 9; refine (calls_of_args (args' := #[.slice A3 (xs ++ ys).length c3]) (by first | rfl | rw [List.length_append]) (new_c C3.out L3.out HBB.out (by rw [List.length_append]; have := HXL.out; have := HYL.out; omega))).mono ?_; rintro e w4 ⟨g, rfl, hg, hN, hB⟩; have N4 := Aside0.mk hN; have GG := Aside0.mk hg; have G4 := Aside0.mk (Nat.le_trans B3.out.size hg); have S34 := Aside0.mk hB.size; have C4 := Aside0.mk (Kd.C_below C3.out hB); have B4 := Aside0.mk (B3.out.trans (hB.mono B3.out.size)); clear hg hN hB)
      | ((with_reducible refine gate_builtin (b := .append) (xs := #[.tmp 15, .tmp 17]) rfl ?_); at_builtin; refine Kd.R_append_rows (Kd.int .u8) (w0 := w) w.heap.size rfl (.tmp 15) (.tmp 17) 23 5 (.int .u8 0) 1 rfl Tryd.underlying23 info5 rfl (by decide) (by omega) v1 xs ys _ _ _ (fun _ => True) (fun _ => False) rfl rfl ?aO ?aR (fun _ _ h => h) (fun _ h => h.elim) (fun _ _ => trivial) B2.out B2.out.size ?aL ?_; (case aR => exact C2.out); (case aO => exact R2.out); (case aL => have := HXL.out; have := HYL.out; omega); intro v3 w3 ho hb hg hat; (obtain ⟨A3, c3, rfl, hl3, hC3, hp3, hm3⟩ := R_plain ho); have C3 := Aside0.mk hC3; have L3 := Aside0.mk hl3; have M3 : Aside0 (∀ ad, A3 = some ad → ad.block < w3.heap.size) := ⟨fun ad e => (hm3 ad e).2⟩; have B3 := Aside0.mk hb; clear ho hb hg hat hl3 hC3 hp3 hm3)
      | (go_at_call 8; refine (text_c a1 (by have := HS.out; omega) w1 (HT.out.on B1.out)).mono ?_; rw [HYS.out]; rintro e w2 ⟨v2, rfl, hR, hB⟩; (obtain ⟨A2, c2, rfl, hl2, hC2, hp2, hm2⟩ := R_plain hR); have C2 := Aside0.mk hC2; have R2 := Aside0.mk (Kd.R_below R1.out hB); have B2 := Aside0.mk (B1.out.trans (hB.mono B1.out.size)); clear hR hB hl2 hC2 hp2 hm2)
      | (go_at_call 14; refine (num_c a0 HN.out w HT.out).mono ?_; rw [HXS.out]; rintro e w1 ⟨v1, rfl, hR, hB⟩; have R1 := Aside0.mk hR; have B1 := Aside0.mk hB; clear hR hB))
    have CONV : Aside0 (∀ W', Below w6.heap.size w6 W' → (convert 23 9 (.slice A3 (xs.length + ys.length) c3)).run Tryd.prog W' = .ok (.string sb) W') := ⟨fun W' hB => by
      have h5 := Kd.C_below C6.out hB
      rw [List.length_append] at h5
      rw [conv_str h5, HSB.out]⟩
    have HD := Aside0.mk (below_drew1 (Below.refl w6.heap.size w6))
    go_region_held (fun w' => Aside0 (Below w6.heap.size w6 w') ∧ (convert 23 9 (.slice A3 (xs.length + ys.length) c3)).run Tryd.prog w' = .ok (.string sb) w')
      (first
        | (exact ⟨⟨HB9.out⟩, CONV.out _ HB9.out⟩)
        | (exact ⟨⟨HB8.out⟩, CONV.out _ HB8.out⟩)
        | (exact ⟨⟨HB7.out⟩, CONV.out _ HB7.out⟩)
        | (exact ⟨⟨HD.out⟩, CONV.out _ HD.out⟩))
      (first
        | (go_at_call 12; refine (known1_any w8 (HT.out.on (B6.out.trans (HB8.out.mono B6.out.size)))).mono ?_; rintro e w9 ⟨rfl, hB⟩; have HB9 := Aside0.mk (HB8.out.trans (hB.mono HB8.out.size)); clear hB)
        | (go_at_call 11; refine (left_c (N6.out.after HB8.out)).mono ?_; rintro e w18 ⟨rfl, rfl⟩)
        | (go_at_call 13; refine (reftext_c a1 (by have := HS.out; omega) w7).mono ?_; unfold RefText; rw [HYS.out]; rintro e w8 ⟨A8, c8, rfl, hlc, hC, hB⟩; have HB8 := Aside0.mk (HB7.out.trans (hB.mono HB7.out.size)); (have hcv8 := conv_str (c := c8) hC); rw [HSY.out] at hcv8; (have hcv78 := conv_str (c := c7) (Kd.C_below C7.out hB)); rw [HSX.out] at hcv78; clear hlc hC hB)
        | (go_at_call 16; refine (refnum_c a0 HN.out _).mono ?_; rintro e w7 hN; (obtain ⟨q, c7, he, hq, hlc, hC, hB⟩ := refnum_row HN.out hN); rw [HXS.out] at he hlc hC; subst he; have C7 := Aside0.mk hC; have HB7 := Aside0.mk (HD.out.trans (hB.mono HD.out.size)); (have hcv7 := conv_str (c := c7) hC); rw [HSX.out] at hcv7; clear hN hq hlc hC hB))
    all_goals
      go_wp2
      go_ret
      exact ⟨rfl, B6.out.trans (HB9.out.mono B6.out.size)⟩
  · rw [if_neg hn] at h
    cases h
end Go.Proofs.YtelmpfkfnmaibaaDoor.LNetPuts
