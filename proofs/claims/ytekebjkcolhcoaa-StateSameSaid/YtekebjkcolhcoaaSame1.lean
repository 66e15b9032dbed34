/- Contracts of the calls, by hand. -/
import Derived.Test.YtekebjkcolhcoaaQStateSamex8
import Derived.RangeFuncNested
import Derived.RangeFuncBound
import Derived.RangeFuncCalls
import Derived.RangeFuncLeaves
import Derived.RangeFuncBox
import Derived.Shelf.Abstract
import Derived.Shelf.RegionOpen
import Derived.OwnWalkIn
import Derived.TacticsInMore
import Derived.LoopNIn
import Derived.LoopIn
import Derived.Sort.QuietIn
import Derived.Sort.CutIn
import Derived.Stop.RegionWithIn
import Derived.StillTailTactics
import Derived.Test.YtekebjkcolhcoaaQStateSamex7
namespace Go.Proofs.Ytekebjkcolhcoaa.Hnd
open Go.RowKit Go.Proofs.Ytekebjkcolhcoaa.QStateSame Go.Proofs.YtekebjkcolhcoaaW.PrintWords Go.Proofs.YtekebjkcolhcoaaW.PrintLast  Go.Shelf
set_option linter.unusedVariables false
set_option linter.unusedSimpArgs false
set_option linter.unusedVariables false
set_option linter.unusedSimpArgs false
attribute [local go_sem] Oper.semAt_some
/-! Two rows of frames: are they one, each told by a function. -/
def FrOk (fr : S59 → S59 → Bool) : Prop := ∀ x y : S59, x.f4.length ≤ 9223372036854775807 → x.f5.f0.length ≤ 9223372036854775807 → x.f5.f1.length ≤ 9223372036854775807 → x.f5.f2.length ≤ 9223372036854775807 → ∃ k, state_sameFrame.f k x.f0 x.f1 x.f2 x.f3 x.f4 x.f5.f0 x.f5.f1 x.f5.f2 x.f6.f0 x.f6.f1 x.f7.f0 x.f7.f1 x.f7.f2 x.f8 y.f0 y.f1 y.f2 y.f3 y.f4 y.f5.f0 y.f5.f1 y.f5.f2 y.f6.f0 y.f6.f1 y.f7.f0 y.f7.f1 y.f7.f2 y.f8 = some (fr x y)
def eqL (fr : S59 → S59 → Bool) : List S59 → List S59 → Bool
  | [], [] => true
  | x :: l, y :: m => fr x y && eqL fr l m
  | _, _ => false
theorem eqL_len (fr : S59 → S59 → Bool) : ∀ (l m : List S59), l.length ≠ m.length → eqL fr l m = false
  | [], [], h => absurd rfl h
  | [], _ :: _, _ => rfl
  | _ :: _, [], _ => rfl
  | x :: l, y :: m, h => by rw [eqL, eqL_len fr l m (by simpa using h), Bool.and_false]
theorem eqL_drop (fr : S59 → S59 → Bool) {l m : List S59} {k : Nat} (h0 : k < l.length) (h1 : k < m.length) : eqL fr (l.drop k) (m.drop k) = (fr (l.getD k z59) (m.getD k z59) && eqL fr (l.drop (k + 1)) (m.drop (k + 1))) := by
  rw [List.drop_eq_getElem_cons h0, List.drop_eq_getElem_cons h1, eqL, List.getD_eq_getElem?_getD, List.getElem?_eq_getElem h0, List.getD_eq_getElem?_getD, List.getElem?_eq_getElem h1]
  rfl
set_option maxHeartbeats 8000000 in
set_option maxRecDepth 100000 in
theorem equalfunc_c {fr : S59 → S59 → Bool} (hfr : FrOk fr) {w : World} {A0 A1 : Option Addr} {c0 c1 : Nat} {l0 l1 : List S59} (hr0 : Kd.C k59 w A0 l0.length l0) (hc0 : l0.length ≤ c0) (hr1 : Kd.C k59 w A1 l1.length l1) (hc1 : l1.length ≤ c1) (hl : l0.length ≤ 1000000) :
    Calls Try.prog 27 #[.slice A0 l0.length c0, .slice A1 l1.length c1, .func (.func 28) #[] #[]] w fun e w' => e = .returned (.bool (eqL fr l0 l1)) ∧ Below w.heap.size w w' := by
  by_cases hne : l0.length = l1.length
  case neg =>
    rw [eqL_len fr l0 l1 hne]
    have d1 : ((l0.length : Int) != (l1.length : Int)) = true := by simpa using fun h => hne (by omega)
    clear hr0 hc0 hr1 hc1 hl
    go_enter Try.func27, Try.ntmps27
    go_wp2
    go_ret
    exact ⟨rfl, Below.refl _ _⟩
  case pos =>
    have d1 : ((l0.length : Int) != (l1.length : Int)) = false := by rw [hne]; simp
    have HR0 := Aside0.mk hr0
    have HR1 := Aside0.mk hr1
    have HL := Aside0.mk hl
    have HNE := Aside0.mk hne
    have HFR := Aside0.mk hfr
    obtain ⟨res, hres⟩ : ∃ res, eqL fr l0 l1 = res := ⟨_, rfl⟩
    have HRES : Aside0 (eqL fr (l0.drop 0) (l1.drop 0) = res) := ⟨hres⟩
    rw [hres]
    clear hr0 hc0 hr1 hc1 hl hne hfr hres
    go_enter Try.func27, Try.ntmps27
    go_wp2
    clear d1
    go_loopw [17] (fun u17 wr => ∃ k : Nat, u17 = .int .i64 (k : Int) ∧ Aside0 (k ≤ l0.length) ∧ Aside0 (eqL fr (l0.drop k) (l1.drop k) = res) ∧ Aside0 (Below w.heap.size w wr)) (fun u17 _ => l0.length + 1 - (intOf u17).toNat)
    case atStart => exact ⟨0, rfl, ⟨Nat.zero_le _⟩, HRES, ⟨Below.refl _ _⟩⟩
    case round =>
      obtain ⟨k, rfl, HK, HQ, HB⟩ := hrel
      have hl := HL.out
      have hk := HK.out
      have hne := HNE.out
      have hp0 : (0 : Int) ≤ (k : Int) := by omega
      have hp1 : (k : Int) ≤ 1000000 := by omega
      by_cases hlt : k < l0.length
      · have dl : decide ((k : Int) < (l0.length : Int)) = true := decide_eq_true (by omega)
        have dl' : decide (k < l0.length) = true := decide_eq_true hlt
        have hp2 : (k : Int) < (l0.length : Int) := by omega
        have hp3 : (k : Int) < (l1.length : Int) := by omega
        have hdr := eqL_drop fr hlt (show k < l1.length by omega)
        rw [HQ.out] at hdr
        obtain ⟨ad0, A04, c04, A05, c05, A06, c06, A07, c07, e0, x0_0, x0_1, x0_2, x0_3, x0_4, x0_5, x0_6, x0_7, x0_8, x0_9, x0_10, x0_11, x0_12, x0_13, l0_4, C0_4, l0_5, C0_5, l0_6, C0_6, l0_7, C0_7⟩ := at_T59 (Kd.C_below HR0.out HB.out) (k : Int) (by omega) (by omega)
        subst e0
        simp only [Int.toNat_natCast] at x0_0 x0_1 x0_2 x0_3 x0_4 x0_5 x0_6 x0_7 x0_8 x0_9 x0_10 x0_11 x0_12 x0_13
        obtain ⟨x, hx⟩ : ∃ x, rd_T59 l0 (k : Int) = x := ⟨_, rfl⟩
        simp only [hx] at x0_0 x0_1 x0_2 x0_3 x0_4 x0_5 x0_6 x0_7 x0_8 x0_9 x0_10 x0_11 x0_12 x0_13 l0_4 C0_4 l0_5 C0_5 l0_6 C0_6 l0_7 C0_7
        rw [show l0.getD k z59 = x from hx] at hdr
        clear hlt hl hk hne dl dl'
        go_upto_region 6 with (fail)
        have hb5 := below_alloc (Below.refl wr.heap.size wr) (.cells #[.int .i64 x.f0, .int .i64 x.f1, .int .i64 x.f2, .int .i64 x.f3, .slice A04 x.f4.length c04, .slice A05 x.f5.f0.length c05, .slice A06 x.f5.f1.length c06, .slice A07 x.f5.f2.length c07, .string x.f6.f0, .int .i64 x.f6.f1, .int .i64 x.f7.f0, .string x.f7.f1, .int .i64 x.f7.f2, .string x.f8] 59)
        have hn5 := blk_new wr (.cells #[.int .i64 x.f0, .int .i64 x.f1, .int .i64 x.f2, .int .i64 x.f3, .slice A04 x.f4.length c04, .slice A05 x.f5.f0.length c05, .slice A06 x.f5.f1.length c06, .slice A07 x.f5.f2.length c07, .string x.f6.f0, .int .i64 x.f6.f1, .int .i64 x.f7.f0, .string x.f7.f1, .int .i64 x.f7.f2, .string x.f8] 59)
        obtain ⟨W5, hW5⟩ : ∃ W5, W5 = wr.alloc (.cells #[.int .i64 x.f0, .int .i64 x.f1, .int .i64 x.f2, .int .i64 x.f3, .slice A04 x.f4.length c04, .slice A05 x.f5.f0.length c05, .slice A06 x.f5.f1.length c06, .slice A07 x.f5.f2.length c07, .string x.f6.f0, .int .i64 x.f6.f1, .int .i64 x.f7.f0, .string x.f7.f1, .int .i64 x.f7.f2, .string x.f8] 59) := ⟨_, rfl⟩
        rw [← hW5] at hb5 hn5 ⊢
        obtain ⟨q5, hq5⟩ : ∃ q5, wr.heap.size = q5 := ⟨_, rfl⟩
        rw [hq5] at hn5 ⊢
        have N5 := Aside0.mk hn5
        have B5 := Aside0.mk (HB.out.trans (hb5.mono HB.out.size))
        clear hW5 hq5 x0_0 x0_1 x0_2 x0_3 x0_4 x0_5 x0_6 x0_7 x0_8 x0_9 x0_10 x0_11 x0_12 x0_13
        obtain ⟨ad1, A14, c14, A15, c15, A16, c16, A17, c17, e1, x1_0, x1_1, x1_2, x1_3, x1_4, x1_5, x1_6, x1_7, x1_8, x1_9, x1_10, x1_11, x1_12, x1_13, l1_4, C1_4, l1_5, C1_5, l1_6, C1_6, l1_7, C1_7⟩ := at_T59 (Kd.C_below HR1.out B5.out) (k : Int) (by omega) (by omega)
        subst e1
        simp only [Int.toNat_natCast] at x1_0 x1_1 x1_2 x1_3 x1_4 x1_5 x1_6 x1_7 x1_8 x1_9 x1_10 x1_11 x1_12 x1_13
        obtain ⟨y, hy⟩ : ∃ y, rd_T59 l1 (k : Int) = y := ⟨_, rfl⟩
        simp only [hy] at x1_0 x1_1 x1_2 x1_3 x1_4 x1_5 x1_6 x1_7 x1_8 x1_9 x1_10 x1_11 x1_12 x1_13 l1_4 C1_4 l1_5 C1_5 l1_6 C1_6 l1_7 C1_7
        rw [show l1.getD k z59 = y from hy] at hdr
        go_upto_region 7 with (fail)
        have hb6 := below_alloc (Below.refl W5.heap.size W5) (.cells #[.int .i64 y.f0, .int .i64 y.f1, .int .i64 y.f2, .int .i64 y.f3, .slice A14 y.f4.length c14, .slice A15 y.f5.f0.length c15, .slice A16 y.f5.f1.length c16, .slice A17 y.f5.f2.length c17, .string y.f6.f0, .int .i64 y.f6.f1, .int .i64 y.f7.f0, .string y.f7.f1, .int .i64 y.f7.f2, .string y.f8] 59)
        have hn6 := blk_new W5 (.cells #[.int .i64 y.f0, .int .i64 y.f1, .int .i64 y.f2, .int .i64 y.f3, .slice A14 y.f4.length c14, .slice A15 y.f5.f0.length c15, .slice A16 y.f5.f1.length c16, .slice A17 y.f5.f2.length c17, .string y.f6.f0, .int .i64 y.f6.f1, .int .i64 y.f7.f0, .string y.f7.f1, .int .i64 y.f7.f2, .string y.f8] 59)
        obtain ⟨W6, hW6⟩ : ∃ W6, W6 = W5.alloc (.cells #[.int .i64 y.f0, .int .i64 y.f1, .int .i64 y.f2, .int .i64 y.f3, .slice A14 y.f4.length c14, .slice A15 y.f5.f0.length c15, .slice A16 y.f5.f1.length c16, .slice A17 y.f5.f2.length c17, .string y.f6.f0, .int .i64 y.f6.f1, .int .i64 y.f7.f0, .string y.f7.f1, .int .i64 y.f7.f2, .string y.f8] 59) := ⟨_, rfl⟩
        rw [← hW6] at hb6 hn6 ⊢
        obtain ⟨q6, hq6⟩ : ∃ q6, W5.heap.size = q6 := ⟨_, rfl⟩
        rw [hq6] at hn6 ⊢
        have N6 := Aside0.mk hn6
        have B6 := Aside0.mk (B5.out.trans (hb6.mono B5.out.size))
        have hh5 := (hb6.block _ (Array.getElem?_eq_some_iff.1 N5.out).1).trans N5.out
        have u0 := (blk_cell hh5 0).trans rfl
        have v0 := (blk_cell hn6 0).trans rfl
        have u1 := (blk_cell hh5 1).trans rfl
        have v1 := (blk_cell hn6 1).trans rfl
        have u2 := (blk_cell hh5 2).trans rfl
        have v2 := (blk_cell hn6 2).trans rfl
        have u3 := (blk_cell hh5 3).trans rfl
        have v3 := (blk_cell hn6 3).trans rfl
        have u4 := (blk_cell hh5 4).trans rfl
        have v4 := (blk_cell hn6 4).trans rfl
        have u5 := (blk_cell hh5 5).trans rfl
        have v5 := (blk_cell hn6 5).trans rfl
        have u6 := (blk_cell hh5 6).trans rfl
        have v6 := (blk_cell hn6 6).trans rfl
        have u7 := (blk_cell hh5 7).trans rfl
        have v7 := (blk_cell hn6 7).trans rfl
        have u8 := (blk_cell hh5 8).trans rfl
        have v8 := (blk_cell hn6 8).trans rfl
        have u9 := (blk_cell hh5 9).trans rfl
        have v9 := (blk_cell hn6 9).trans rfl
        have u10 := (blk_cell hh5 10).trans rfl
        have v10 := (blk_cell hn6 10).trans rfl
        have u11 := (blk_cell hh5 11).trans rfl
        have v11 := (blk_cell hn6 11).trans rfl
        have u12 := (blk_cell hh5 12).trans rfl
        have v12 := (blk_cell hn6 12).trans rfl
        have u13 := (blk_cell hh5 13).trans rfl
        have v13 := (blk_cell hn6 13).trans rfl
        have H04 := Aside0.mk (And.intro (Kd.C_below (Kd.C_below C0_4 hb5) hb6) l0_4)
        have H14 := Aside0.mk (And.intro (Kd.C_below C1_4 hb6) l1_4)
        have H05 := Aside0.mk (And.intro (Kd.C_below (Kd.C_below C0_5 hb5) hb6) l0_5)
        have H15 := Aside0.mk (And.intro (Kd.C_below C1_5 hb6) l1_5)
        have H06 := Aside0.mk (And.intro (Kd.C_below (Kd.C_below C0_6 hb5) hb6) l0_6)
        have H16 := Aside0.mk (And.intro (Kd.C_below C1_6 hb6) l1_6)
        have H07 := Aside0.mk (And.intro (Kd.C_below (Kd.C_below C0_7 hb5) hb6) l0_7)
        have H17 := Aside0.mk (And.intro (Kd.C_below C1_7 hb6) l1_7)
        obtain ⟨kk, hkk⟩ := HFR.out x y (Kd.C_max C0_4) (Kd.C_max C0_5) (Kd.C_max C0_6) (Kd.C_max C0_7)
        obtain ⟨r, hr⟩ : ∃ r, fr x y = r := ⟨_, rfl⟩
        rw [hr] at hkk hdr
        have HKK := Aside0.mk hkk
        have HDR := Aside0.mk hdr
        have HK1 : Aside0 (k + 1 ≤ l0.length) := ⟨by omega⟩
        clear hb5 hb6 hn5 hn6 hW6 hq6 hh5 hkk hdr hr hx hy x1_0 x1_1 x1_2 x1_3 x1_4 x1_5 x1_6 x1_7 x1_8 x1_9 x1_10 x1_11 x1_12 x1_13 C0_4 C1_4 l0_4 l1_4 C0_5 C1_5 l0_5 l1_5 C0_6 C1_6 l0_6 l1_6 C0_7 C1_7 l0_7 l1_7
        cases r with
        | false =>
          have hz : res = false := HDR.out.trans (Bool.false_and _)
          subst hz
          go_wp2_with (go_at_call 28; refine (state_sameFrame.calls kk x.f0 x.f1 x.f2 x.f3 A04 c04 x.f4 A05 c05 x.f5.f0 A06 c06 x.f5.f1 A07 c07 x.f5.f2 x.f6.f0 x.f6.f1 x.f7.f0 x.f7.f1 x.f7.f2 x.f8 y.f0 y.f1 y.f2 y.f3 A14 c14 y.f4 A15 c15 y.f5.f0 A16 c16 y.f5.f1 A17 c17 y.f5.f2 y.f6.f0 y.f6.f1 y.f7.f0 y.f7.f1 y.f7.f2 y.f8 _ W6 H04.out.1 H04.out.2 H05.out.1 H05.out.2 H06.out.1 H06.out.2 H07.out.1 H07.out.2 H14.out.1 H14.out.2 H15.out.1 H15.out.2 H16.out.1 H16.out.2 H17.out.1 H17.out.2 HKK.out).mono ?_; rintro e w7 ⟨rfl, hB⟩; have B7 := Aside0.mk (B6.out.trans (hB.mono B6.out.size)); clear hB)
          go_ret
          exact ⟨rfl, B7.out⟩
        | true =>
          have hz : eqL fr (l0.drop (k + 1)) (l1.drop (k + 1)) = res := ((Bool.true_and _).symm.trans HDR.out.symm)
          have HZ := Aside0.mk hz
          clear hz
          go_wp2_with (go_at_call 28; refine (state_sameFrame.calls kk x.f0 x.f1 x.f2 x.f3 A04 c04 x.f4 A05 c05 x.f5.f0 A06 c06 x.f5.f1 A07 c07 x.f5.f2 x.f6.f0 x.f6.f1 x.f7.f0 x.f7.f1 x.f7.f2 x.f8 y.f0 y.f1 y.f2 y.f3 A14 c14 y.f4 A15 c15 y.f5.f0 A16 c16 y.f5.f1 A17 c17 y.f5.f2 y.f6.f0 y.f6.f1 y.f7.f0 y.f7.f1 y.f7.f2 y.f8 _ W6 H04.out.1 H04.out.2 H05.out.1 H05.out.2 H06.out.1 H06.out.2 H07.out.1 H07.out.2 H14.out.1 H14.out.2 H15.out.1 H15.out.2 H16.out.1 H16.out.2 H17.out.1 H17.out.2 HKK.out).mono ?_; rintro e w7 ⟨rfl, hB⟩; have B7 := Aside0.mk (B6.out.trans (hB.mono B6.out.size)); clear hB)
          exact ⟨⟨k + 1, by go_num, HK1, HZ, B7⟩, by have := HK1.out; simp [intOf]; omega⟩
      · obtain rfl : k = l0.length := by omega
        have hr : res = true := by
          rw [← HQ.out, List.drop_of_length_le (Nat.le_refl _), List.drop_of_length_le (by omega)]
          rfl
        subst hr
        have dl : decide ((l0.length : Int) < (l0.length : Int)) = false := decide_eq_false (by omega)
        have dl' : decide (l0.length < l0.length) = false := decide_eq_false (by omega)
        clear hlt hl hk hne
        go_wp2
        go_ret
        exact ⟨rfl, HB.out⟩
end Go.Proofs.Ytekebjkcolhcoaa.Hnd
