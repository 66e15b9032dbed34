-- Written by a program of this session (wip/tools), out of the kit's print of the loaded program: functions, and proofs that the calls come to them.
import Derived.Test.YtnhmfeihnjdcpaaDoorQGlobStarx0
import Derived.Test.YtnhmfeihnjdcpaaDoorQGlobStarx1
import Derived.Test.YtnhmfeihnjdcpaaDoorQGlobStarx2
namespace Go.Proofs.YtnhmfeihnjdcpaaDoor.QGlobStar
open Go.RowKit Go.Proofs.YtnhmfeihnjdcpaaDoorW.PrintWords Go.Proofs.YtnhmfeihnjdcpaaDoorW.PrintLast Go.Proofs.YtnhmfeihnjdcpaaDoorW.PrintMore
attribute [local go_sem] max2_int min2_int max_two min_two max_three min_three max_four min_four   -- for this text's walks alone
set_option linter.unusedVariables false
set_option linter.unusedSimpArgs false

/-! ### glob_bracket: function 52 -/
mutual
def glob_bracket.j0 : Nat → List (S57) → Int → Bool → Bool → Bool → Option (Bool × Bool × (List (S76)) × Int × Bool)
  | 0, _, _, _, _, _ => none
  | k + 1, x0, x6, x17, x126000, x126001 => if x17 = true then (glob_bracket.j1 k x0 (wrap64 (x6 + 1)) x126000 true) else (glob_bracket.j1 k x0 x6 x126000 x126001)
def glob_bracket.j1 : Nat → List (S57) → Int → Bool → Bool → Option (Bool × Bool × (List (S76)) × Int × Bool)
  | 0, _, _, _, _ => none
  | k + 1, x0, x6, x126000, x126001 => glob_bracket.l0 k x0 x6 x126000 x126001 ([] : List (S76))
def glob_bracket.l0 : Nat → List (S57) → Int → Bool → Bool → List (S76) → Option (Bool × Bool × (List (S76)) × Int × Bool)
  | 0, _, _, _, _, _ => none
  | k + 1, x0, x6, x126000, x126001, x126002 => if x6 < (x0.length : Int) then (if 0 ≤ x6 then ((glob_is.f ((rd_T57 x0 x6).f0) ((rd_T57 x0 x6).f1) 93).bind fun t129 => (if t129 = true then (if (x126002.length : Int) > 0 then (some (x126000, x126001, x126002, wrap64 (x6 + 1), true)) else (if x6 ≤ (x0.length : Int) then ((glob_item.f (x0.drop (x6 : Int).toNat)).bind fun bt134 => (if x126002.length < 17592186044416 then (glob_bracket.l0 k x0 (wrap64 (x6 + bt134.2.2)) x126000 x126001 (x126002 ++ [(⟨bt134.1, bt134.2.1⟩ : S76)])) else (none))) else (none))) else (if x6 ≤ (x0.length : Int) then ((glob_item.f (x0.drop (x6 : Int).toNat)).bind fun bt145 => (if x126002.length < 17592186044416 then (glob_bracket.l0 k x0 (wrap64 (x6 + bt145.2.2)) x126000 x126001 (x126002 ++ [(⟨bt145.1, bt145.2.1⟩ : S76)])) else (none))) else (none)))) else (none)) else (some (false, false, ([] : List (S76)), 0, false))
end
def glob_bracket.f (k : Nat) (l0 : List (S57)) : Option (Bool × Bool × (List (S76)) × Int × Bool) := if (l0.length : Int) > 0 then (if 0 < (l0.length : Int) then ((glob_is.f ((rd_T57 l0 0).f0) ((rd_T57 l0 0).f1) 33).bind fun t127 => (glob_bracket.j0 k l0 0 t127 false false)) else (none)) else (glob_bracket.j0 k l0 0 false false false)
theorem glob_bracket.mono_l : ∀ k, (∀ y0 y1 y2 y3 y4, LeO (glob_bracket.j0 k y0 y1 y2 y3 y4) (glob_bracket.j0 (k + 1) y0 y1 y2 y3 y4)) ∧ (∀ y0 y1 y2 y3, LeO (glob_bracket.j1 k y0 y1 y2 y3) (glob_bracket.j1 (k + 1) y0 y1 y2 y3)) ∧ (∀ y0 y1 y2 y3 y4, LeO (glob_bracket.l0 k y0 y1 y2 y3 y4) (glob_bracket.l0 (k + 1) y0 y1 y2 y3 y4))
  | 0 => ⟨fun _ _ _ _ _ r h => by simp [glob_bracket.j0] at h, fun _ _ _ _ r h => by simp [glob_bracket.j1] at h, fun _ _ _ _ _ r h => by simp [glob_bracket.l0] at h⟩
  | k + 1 => by
    obtain ⟨ih0, ih1, ih2⟩ := glob_bracket.mono_l k
    refine ⟨?_, ?_, ?_⟩
    · intro y0 y1 y2 y3 y4
      unfold glob_bracket.j0
      repeat' first
      | (with_reducible exact ih0 _ _ _ _ _)
      | (with_reducible exact ih1 _ _ _ _)
      | (with_reducible exact ih2 _ _ _ _ _)
      | (with_reducible exact LeO.refl _)
      | (with_reducible exact LeO.none _)
      | (with_reducible refine LeO.ite ?_ ?_)
      | (with_reducible refine LeO.bind ?_ (fun _ => ?_))
      | exact ih0 _ _ _ _ _
      | exact ih1 _ _ _ _
      | exact ih2 _ _ _ _ _
      | exact LeO.none _
      | refine LeO.ite ?_ ?_
      | refine LeO.bind ?_ (fun _ => ?_)
    · intro y0 y1 y2 y3
      unfold glob_bracket.j1
      repeat' first
      | (with_reducible exact ih0 _ _ _ _ _)
      | (with_reducible exact ih1 _ _ _ _)
      | (with_reducible exact ih2 _ _ _ _ _)
      | (with_reducible exact LeO.refl _)
      | (with_reducible exact LeO.none _)
      | (with_reducible refine LeO.ite ?_ ?_)
      | (with_reducible refine LeO.bind ?_ (fun _ => ?_))
      | exact ih0 _ _ _ _ _
      | exact ih1 _ _ _ _
      | exact ih2 _ _ _ _ _
      | exact LeO.none _
      | refine LeO.ite ?_ ?_
      | refine LeO.bind ?_ (fun _ => ?_)
    · intro y0 y1 y2 y3 y4
      unfold glob_bracket.l0
      repeat' first
      | (with_reducible exact ih0 _ _ _ _ _)
      | (with_reducible exact ih1 _ _ _ _)
      | (with_reducible exact ih2 _ _ _ _ _)
      | (with_reducible exact LeO.refl _)
      | (with_reducible exact LeO.none _)
      | (with_reducible refine LeO.ite ?_ ?_)
      | (with_reducible refine LeO.bind ?_ (fun _ => ?_))
      | exact ih0 _ _ _ _ _
      | exact ih1 _ _ _ _
      | exact ih2 _ _ _ _ _
      | exact LeO.none _
      | refine LeO.ite ?_ ?_
      | refine LeO.bind ?_ (fun _ => ?_)
theorem glob_bracket.mono : ∀ a0 k, LeO (glob_bracket.f k a0) (glob_bracket.f (k + 1) a0) := by
  intro a0 k
  obtain ⟨ih0, ih1, ih2⟩ := glob_bracket.mono_l k
  unfold glob_bracket.f
  repeat' first
      | (with_reducible exact ih0 _ _ _ _ _)
      | (with_reducible exact ih1 _ _ _ _)
      | (with_reducible exact ih2 _ _ _ _ _)
      | (with_reducible exact LeO.refl _)
      | (with_reducible exact LeO.none _)
      | (with_reducible refine LeO.ite ?_ ?_)
      | (with_reducible refine LeO.bind ?_ (fun _ => ?_))
      | exact ih0 _ _ _ _ _
      | exact ih1 _ _ _ _
      | exact ih2 _ _ _ _ _
      | exact LeO.none _
      | refine LeO.ite ?_ ?_
      | refine LeO.bind ?_ (fun _ => ?_)
set_option maxHeartbeats 8000000 in
set_option maxRecDepth 100000 in
theorem glob_bracket.calls (k : Nat) (A0 : Option Addr) (c0 : Nat) (l0 : List (S57)) (r1 : Bool) (r2 : Bool) (r3 : List (S76)) (r4 : Int) (r5 : Bool) (w : World) (hr0 : Kd.C k57 w A0 l0.length l0) (hc0 : l0.length ≤ c0) (h : glob_bracket.f k l0 = some (r1, r2, r3, r4, r5)) :
    Calls Tryd.prog 52 #[.slice A0 l0.length c0] w fun e w' => ∃ v2_ : Value, e = .returned (.tuple #[.agg #[.bool r1, .bool r2, v2_], .int .i64 r4, .bool r5]) ∧ Kd.R k76 76 w' w.heap.size (fun _ => True) v2_ r3 ∧ Below w.heap.size w w' := by
  have hu63 := Tryd.underlying63
  have hu57 := Tryd.underlying57
  have hu76 := Tryd.underlying76
  have HR0 := Aside0.mk hr0
  have HC0 := Aside0.mk hc0
  clear hr0 hc0
  have HB := Aside0.mk (Below.refl w.heap.size w)
  have H : (if (l0.length : Int) > 0 then (if 0 < (l0.length : Int) then ((glob_is.f ((rd_T57 l0 0).f0) ((rd_T57 l0 0).f1) 33).bind fun t127 => (glob_bracket.j0 k l0 0 t127 false false)) else (none)) else (glob_bracket.j0 k l0 0 false false false)) = some (r1, r2, r3, r4, r5) := h
  clear h
  have HC2 := Aside0.mk H
  clear H
  go_enter Tryd.func52, Tryd.ntmps52
  go_upto_region 3 with (first | ((with_reducible refine gate_dst (N := 2) rfl ?_); (try (refine gate_guard (by rfl) ?_; dsimp only)); refine box_event ?hg (N := 2) ?hd (cs := #[.bool false, .bool false, .slice none 0 0]) (t := 63) ?hr ?_; (case hd => rfl); (case hg => rfl); (case hr => first | (go_simp; done) | (go_simp; rfl)); intro gb124 hg w3 hbox hb; have n0_ := Aside0.mk (below_step (by repeat (first | (with_reducible first | exact HB.out | apply below_alloc | apply pw_below_drewN | apply below_drew1) | exact HB.out)) hb); have n1_ := Aside0.mk (hbox); have n2_ := Aside0.mk ((by rw [hg]; exact (below_size (by repeat (first | (with_reducible first | exact HB.out | apply below_alloc | apply pw_below_drewN | apply below_drew1) | exact HB.out))) : w.heap.size ≤ gb124)); have n3_ := Aside0.mk ((by rw [hg]; exact (below_size (by repeat (first | (with_reducible first | exact HB.out | apply below_alloc | apply pw_below_drewN | apply below_drew1) | exact HB.out))) : w.heap.size ≤ gb124)); clear HB; have HB := n0_; have BK124 := n1_; have GW124 := n2_; have GE124 := n3_; clear n0_ n1_ n2_ n3_; clear hb hbox hg) | ((with_reducible refine gate_dst (N := 5) rfl ?_); (try (refine gate_guard (by rfl) ?_; dsimp only)); refine box_event ?hg (N := 5) ?hd (cs := #[.bool false, .bool false, .slice none 0 0]) (t := 63) ?hr ?_; (case hd => rfl); (case hg => rfl); (case hr => first | (go_simp; done) | (go_simp; rfl)); intro gb125 hg w4 hbox hb; have n0_ := Aside0.mk (blk_below (g := gb124) (o := .cells #[.bool false, .bool false, .slice none 0 0] 63 (0, 0)) (by (with_reducible repeat (first | refine blk_drewN ?_ _ | refine blk_drew ?_ | refine blk_alloc ?_ _)); exact BK124.out) hb); have n1_ := Aside0.mk (below_step (by repeat (first | (with_reducible first | exact HB.out | apply below_alloc | apply pw_below_drewN | apply below_drew1 | refine below_set ?_ GE124.out) | exact HB.out)) hb); have n2_ := Aside0.mk (hbox); have n3_ := Aside0.mk ((by rw [hg]; exact (below_size (by repeat (first | (with_reducible first | exact HB.out | apply below_alloc | apply pw_below_drewN | apply below_drew1 | refine below_set ?_ GE124.out) | exact HB.out))) : w.heap.size ≤ gb125)); have n4_ := Aside0.mk ((by rw [hg]; exact (below_size (by repeat (first | (with_reducible first | exact HB.out | apply below_alloc | apply pw_below_drewN | apply below_drew1 | refine below_set ?_ GE124.out) | exact HB.out))) : w.heap.size ≤ gb125)); have n5_ := Aside0.mk ((by rw [hg]; exact Nat.ne_of_lt (blk_lt (g := gb124) (o := .cells #[.bool false, .bool false, .slice none 0 0] 63 (0, 0)) (by (with_reducible repeat (first | refine blk_drewN ?_ _ | refine blk_drew ?_ | refine blk_alloc ?_ _)); exact BK124.out)) : gb124 ≠ gb125)); have n6_ := Aside0.mk ((by rw [hg]; exact Nat.ne_of_gt (blk_lt (g := gb124) (o := .cells #[.bool false, .bool false, .slice none 0 0] 63 (0, 0)) (by (with_reducible repeat (first | refine blk_drewN ?_ _ | refine blk_drew ?_ | refine blk_alloc ?_ _)); exact BK124.out)) : gb125 ≠ gb124)); clear BK124; clear HB; have BK124 := n0_; have HB := n1_; have BK125 := n2_; have GW125 := n3_; have GE125 := n4_; have NB124_125 := n5_; have NB125_124 := n6_; clear n0_ n1_ n2_ n3_ n4_ n5_ n6_; clear hb hbox hg))
  (try simp only [Act.put, List.setIfInBounds_toArray, List.set_cons_zero, List.set_cons_succ])
  go_cut [17] (fun v17 wc => ∃ (kq : Nat) (x17_1 : Bool), v17 = .bool x17_1 ∧ Aside0 (glob_bracket.j0 kq l0 0 x17_1 false false = some (r1, r2, r3, r4, r5)) ∧ Aside0 (kq ≤ k) ∧ Aside0 (wc.heap[gb124]? = some (.cells #[.bool false, .bool false, (.slice none 0 0)] 63 (0, 0))) ∧ Aside0 (wc.heap[gb125]? = some (.cells #[.bool false, .bool false, (.slice none 0 0)] 63 (0, 0))) ∧ Aside0 (Below w.heap.size w wc))
  case first =>
    have H := HC2.out
    clear HC2
    by_cases c5 : (l0.length : Int) > 0
    · rw [if_pos c5] at H
      have c5b0 : decide (0 < (l0.length : Int)) = true := decide_eq_true c5
      have c5b1 : decide (0 < l0.length) = true := decide_eq_true (by omega)
      clear c5
      (first | rw [c5b0] | (simp only [i64_w, i32_w]; rw [c5b0]) | skip)
      by_cases c6 : 0 < (l0.length : Int)
      · rw [if_pos c6] at H
        have c6b0 : decide (0 < (l0.length : Int)) = true := decide_eq_true c6
        have c6b1 : decide (0 < l0.length) = true := decide_eq_true (by omega)
        clear c6
        replace H := Option.bind_eq_some_iff.mp H
        obtain ⟨t127, A70, H⟩ := H
        replace H : (glob_bracket.j0 k l0 0 t127 false false) = some (r1, r2, r3, r4, r5) := H
        have A7 := Aside0.mk A70
        clear A70
        have H' := Aside0.mk H
        clear H
        have p126 : 0 ≤ (0 : Int) := (by omega)
        have q126 : 0 < (l0.length : Int) := of_decide_eq_true (by first | (with_reducible assumption) | assumption)
        obtain ⟨ad126, e126, hx126_0, hx126_1⟩ := at_T57 HR0.out 0 p126 q126
        cases e126
        have qi126 : (0 < l0.length) = True := eq_true (by omega)
        (try rw [show ((0 : Int)).toNat = 0 from rfl] at hx126_0)
        (try rw [show 0 * 2 = 0 from rfl] at hx126_0)
        (try rw [Addr.add_zero'] at hx126_0)
        (try rw [show ((0 : Int)).toNat = 0 from rfl] at hx126_1)
        (try rw [show 0 * 2 = 0 from rfl] at hx126_1)
        (try rw [Addr.add_zero'] at hx126_1)
        replace hx126_0 := (HB.out.cell (World.block_lt_of_cell? w _ hx126_0)).trans hx126_0
        replace hx126_1 := (HB.out.cell (World.block_lt_of_cell? w _ hx126_1)).trans hx126_1
        replace p126 := eq_true p126
        replace q126 := eq_true q126
        go_wp2_with (first | (go_at_call 47; (with_reducible refine (glob_is.calls ((rd_T57 l0 0).f0) ((rd_T57 l0 0).f1) 33 t127 _ A7.out).mono ?_); rintro e w8 ⟨rfl, hb⟩; have n0_ := Aside0.mk (blk_below (g := gb124) (o := .cells #[.bool false, .bool false, .slice none 0 0] 63 (0, 0)) (by (with_reducible repeat (first | refine blk_drewN ?_ _ | refine blk_drew ?_ | refine blk_alloc ?_ _)); exact BK124.out) hb); have n1_ := Aside0.mk (blk_below (g := gb125) (o := .cells #[.bool false, .bool false, .slice none 0 0] 63 (0, 0)) (by (with_reducible repeat (first | refine blk_drewN ?_ _ | refine blk_drew ?_ | refine blk_alloc ?_ _)); exact BK125.out) hb); have n2_ := Aside0.mk (below_step (by repeat (first | (with_reducible first | exact HB.out | apply below_alloc | apply pw_below_drewN | apply below_drew1 | refine below_set ?_ GE124.out | refine below_set ?_ GE125.out) | exact HB.out)) hb); clear BK124; clear BK125; clear HB; have BK124 := n0_; have BK125 := n1_; have HB := n2_; clear n0_ n1_ n2_; (try clear hb); (try clear hb2); (try clear hk); (try clear hi)))
        go_meet
        case rel => exact ⟨_, (t127), (by first | rfl | (simp; done) | (simp [*]; done) | (simp; unfold wrap64; omega)), H', ⟨by first | omega | exact Nat.le_refl _⟩, ⟨by (with_reducible repeat (first | refine blk_drewN ?_ _ | refine blk_drew ?_ | refine blk_alloc ?_ _)); exact BK124.out⟩, ⟨by (with_reducible repeat (first | refine blk_drewN ?_ _ | refine blk_drew ?_ | refine blk_alloc ?_ _)); exact BK125.out⟩, ⟨by repeat (first | (with_reducible first | exact HB.out | apply below_alloc | apply pw_below_drewN | apply below_drew1 | refine below_set ?_ GE124.out | refine below_set ?_ GE125.out) | exact HB.out)⟩⟩
      · rw [if_neg c6] at H
        exact absurd H (by simp)
    · rw [if_neg c5] at H
      have c5b0 : decide (0 < (l0.length : Int)) = false := decide_eq_false c5
      have c5b1 : decide (0 < l0.length) = false := decide_eq_false (by omega)
      clear c5
      (first | rw [c5b0] | (simp only [i64_w, i32_w]; rw [c5b0]) | skip)
      have H' := Aside0.mk H
      clear H
      go_wp2
      go_meet
      case rel => exact ⟨_, (false), (by first | rfl | (simp; done) | (simp [*]; done) | (simp; unfold wrap64; omega)), H', ⟨by first | omega | exact Nat.le_refl _⟩, ⟨by (with_reducible repeat (first | refine blk_drewN ?_ _ | refine blk_drew ?_ | refine blk_alloc ?_ _)); exact BK124.out⟩, ⟨by (with_reducible repeat (first | refine blk_drewN ?_ _ | refine blk_drew ?_ | refine blk_alloc ?_ _)); exact BK125.out⟩, ⟨by repeat (first | (with_reducible first | exact HB.out | apply below_alloc | apply pw_below_drewN | apply below_drew1 | refine below_set ?_ GE124.out | refine below_set ?_ GE125.out) | exact HB.out)⟩⟩
  case rest =>
    clear HC2
    try clear p1
    try clear q1
    try clear hx1
    try clear qi1
    try clear p2
    try clear c5
    try clear c5b0
    try clear c5b1
    try clear c6
    try clear c6b0
    try clear c6b1
    try clear p6
    try clear hx126_0
    try clear hx126_1
    try clear p126
    try clear q126
    obtain ⟨kq, x17_1, rfl, HA, HJ1, BK124, BK125, HB⟩ := hcut
    cases kq with
    | zero => exact absurd HA.out (by simp [glob_bracket.j0])
    | succ kj1 =>
      have H := HA.out
      clear HA
      simp only [glob_bracket.j0] at H
      have HC9 := Aside0.mk H
      clear H
      go_upto_if 17 with (fail)
      go_cut [6] (fun v6 wc => ∃ (kq : Nat) (x6_8 : Int) (x126001_8 : Bool), v6 = .int .i64 x6_8 ∧ Aside0 (glob_bracket.j1 kq l0 x6_8 false x126001_8 = some (r1, r2, r3, r4, r5)) ∧ Aside0 (kq ≤ kj1) ∧ Aside0 (wc.heap[gb124]? = some (.cells #[.bool false, .bool false, (.slice none 0 0)] 63 (0, 0))) ∧ Aside0 (wc.heap[gb125]? = some (.cells #[.bool false, .bool x126001_8, (.slice none 0 0)] 63 (0, 0))) ∧ Aside0 (Below w.heap.size w wc))
      case first =>
        have H := HC9.out
        clear HC9
        by_cases c10 : x17_1 = true
        · subst c10
          have H1 : (glob_bracket.j1 kj1 l0 (wrap64 (0 + 1)) false true) = some (r1, r2, r3, r4, r5) := by rw [if_pos rfl] at H; exact H
          clear H
          have H := H1
          clear H1
          have H' := Aside0.mk H
          clear H
          have hnb11 := NB125_124.out
          have hnc11 := NB124_125.out
          have hcz12_0 : wc.cell? ⟨gb125, 0, none⟩ = some (.bool false) := (blk_cell BK125.out 0).trans rfl
          have hcz12_1 : wc.cell? ⟨gb125, 1, none⟩ = some (.bool false) := (blk_cell BK125.out 1).trans rfl
          have hcz12_2 : wc.cell? ⟨gb125, 2, none⟩ = some (.slice none 0 0) := (blk_cell BK125.out 2).trans rfl
          have hfz12_0 := blk_frozen BK125.out 0
          have hfz12_1 := blk_frozen BK125.out 1
          have hfz12_2 := blk_frozen BK125.out 2
          go_wp2
          go_meet
          case rel => exact ⟨_, (wrap64 (0 + 1)), (true), (by first | rfl | (simp; done) | (simp [*]; done) | (simp; unfold wrap64; omega)), H', ⟨by have := HJ1.out; first | omega | exact Nat.le_refl _⟩, ⟨by (with_reducible repeat (first | refine blk_drewN ?_ _ | refine blk_drew ?_ | refine blk_alloc ?_ _)); refine blk_far ?_ NB124_125.out _; (with_reducible repeat (first | refine blk_drewN ?_ _ | refine blk_drew ?_ | refine blk_alloc ?_ _)); exact BK124.out⟩, ⟨by (with_reducible repeat (first | refine blk_drewN ?_ _ | refine blk_drew ?_ | refine blk_alloc ?_ _)); refine blk_put (cs := #[.bool false, .bool false, .slice none 0 0]) ?_ 1 _ rfl; (with_reducible repeat (first | refine blk_drewN ?_ _ | refine blk_drew ?_ | refine blk_alloc ?_ _)); exact BK125.out⟩, ⟨by repeat (first | (with_reducible first | exact HB.out | apply below_alloc | apply pw_below_drewN | apply below_drew1 | refine below_set ?_ GE124.out | refine below_set ?_ GE125.out) | exact HB.out)⟩⟩
        · replace c10 := Bool.eq_false_iff.mpr c10
          subst c10
          have H1 : (glob_bracket.j1 kj1 l0 0 false false) = some (r1, r2, r3, r4, r5) := by rw [if_neg (show ¬ (false = true) by decide)] at H; exact H
          clear H
          have H := H1
          clear H1
          have H' := Aside0.mk H
          clear H
          go_wp2
          go_meet
          case rel => exact ⟨_, (0), (false), (by first | rfl | (simp; done) | (simp [*]; done) | (simp; unfold wrap64; omega)), H', ⟨by have := HJ1.out; first | omega | exact Nat.le_refl _⟩, ⟨by (with_reducible repeat (first | refine blk_drewN ?_ _ | refine blk_drew ?_ | refine blk_alloc ?_ _)); exact BK124.out⟩, ⟨by (with_reducible repeat (first | refine blk_drewN ?_ _ | refine blk_drew ?_ | refine blk_alloc ?_ _)); exact BK125.out⟩, ⟨by repeat (first | (with_reducible first | exact HB.out | apply below_alloc | apply pw_below_drewN | apply below_drew1 | refine below_set ?_ GE124.out | refine below_set ?_ GE125.out) | exact HB.out)⟩⟩
      case rest =>
        clear HC9
        try clear c1
        try clear p1
        try clear q1
        try clear hx1
        try clear qi1
        try clear p2
        try clear c5
        try clear c5b0
        try clear c5b1
        try clear c6
        try clear c6b0
        try clear c6b1
        try clear p6
        try clear c10
        try clear c11
        try clear p12
        try clear q12
        try clear hx12
        try clear qi12
        try clear hcz12_0
        try clear hcz12_1
        try clear hcz12_2
        try clear hfz12_0
        try clear hfz12_1
        try clear hfz12_2
        try clear hx126_0
        try clear hx126_1
        try clear p1
        try clear p126
        try clear p2
        try clear p6
        try clear q1
        try clear q126
        obtain ⟨kq, x6_8, x126001_8, rfl, HA, HJ8, BK124, BK125, HB⟩ := hcut
        cases kq with
        | zero => exact absurd HA.out (by simp [glob_bracket.j1])
        | succ kj8 =>
          have H := HA.out
          clear HA
          simp only [glob_bracket.j1] at H
          have H' := Aside0.mk H
          clear H
          go_wp2
          go_loopg [6] kj8 (fun kq v6 w' => ∃ (x6_3 : Int) (x125000_3 : Bool) (x125001_3 : Bool) (x126002_3 : List (S76)) (u126002 : Value), v6 = .int .i64 x6_3 ∧ Aside0 (glob_bracket.l0 kq l0 x6_3 false x126001_8 x126002_3 = some (r1, r2, r3, r4, r5)) ∧ Aside0 (kq ≤ kj8) ∧ Aside0 (Kd.R k76 76 w' w.heap.size (fun _ => True) u126002 x126002_3) ∧ Aside0 (w'.heap[gb124]? = some (.cells #[.bool x125000_3, .bool x125001_3, (.slice none 0 0)] 63 (0, 0))) ∧ Aside0 (w'.heap[gb125]? = some (.cells #[.bool false, .bool x126001_8, u126002] 63 (0, 0))) ∧ Aside0 (Below w.heap.size w w'))
          case atStart => exact ⟨(x6_8), (false), (false), (([] : List (S76))), (.slice none 0 0), (by first | rfl | (simp; done) | (simp [*]; done) | (simp; unfold wrap64; omega)), H', ⟨Nat.le_refl _⟩, ⟨by first | exact Kd.R_nil _ _ _ _ _ | exact Kd.N_nil _ _ _ _ _ | exact Kd.V_nil _ _ _ _ _ | exact Kd.Q_nil _ _ _ _ _ | exact Kd.S_nil _ _ _ _ _⟩, ⟨by (with_reducible repeat (first | refine blk_drewN ?_ _ | refine blk_drew ?_ | refine blk_alloc ?_ _)); exact BK124.out⟩, ⟨by (with_reducible repeat (first | refine blk_drewN ?_ _ | refine blk_drew ?_ | refine blk_alloc ?_ _)); exact BK125.out⟩, ⟨by repeat (first | (with_reducible first | exact HB.out | apply below_alloc | apply pw_below_drewN | apply below_drew1 | refine below_set ?_ GE124.out | refine below_set ?_ GE125.out) | exact HB.out)⟩⟩
          case round =>
            clear H'
            try clear c1
            try clear p1
            try clear q1
            try clear hx1
            try clear qi1
            try clear p2
            try clear c5
            try clear c5b0
            try clear c5b1
            try clear c6
            try clear c6b0
            try clear c6b1
            try clear p6
            try clear c10
            try clear c11
            try clear p12
            try clear q12
            try clear hx12
            try clear qi12
            try clear hcz12_0
            try clear hcz12_1
            try clear hcz12_2
            try clear hfz12_0
            try clear hfz12_1
            try clear hfz12_2
            try clear hx126_0
            try clear hx126_1
            try clear p1
            try clear p12
            try clear p126
            try clear p2
            try clear p6
            try clear q1
            try clear q12
            try clear q126
            obtain ⟨x6_3, x125000_3, x125001_3, x126002_3, u126002, rfl, HA, HK3, HO_126002, BK124, BK125, HB⟩ := hrel
            cases gk with
            | zero => exact absurd HA.out (by simp [glob_bracket.l0])
            | succ k3 =>
              have H := HA.out
              clear HA
              simp only [glob_bracket.l0] at H
              by_cases c13 : x6_3 < (l0.length : Int)
              · rw [if_pos c13] at H
                have c13b0 : decide (x6_3 < (l0.length : Int)) = true := decide_eq_true c13
                clear c13
                by_cases c14 : 0 ≤ x6_3
                · rw [if_pos c14] at H
                  have c14b0 : decide (0 ≤ x6_3) = true := decide_eq_true c14
                  clear c14
                  replace H := Option.bind_eq_some_iff.mp H
                  obtain ⟨t129, A150, H⟩ := H
                  replace H : (if t129 = true then (if (x126002_3.length : Int) > 0 then (some (false, x126001_8, x126002_3, wrap64 (x6_3 + 1), true)) else (if x6_3 ≤ (l0.length : Int) then ((glob_item.f (l0.drop (x6_3 : Int).toNat)).bind fun bt134 => (if x126002_3.length < 17592186044416 then (glob_bracket.l0 k3 l0 (wrap64 (x6_3 + bt134.2.2)) false x126001_8 (x126002_3 ++ [(⟨bt134.1, bt134.2.1⟩ : S76)])) else (none))) else (none))) else (if x6_3 ≤ (l0.length : Int) then ((glob_item.f (l0.drop (x6_3 : Int).toNat)).bind fun bt145 => (if x126002_3.length < 17592186044416 then (glob_bracket.l0 k3 l0 (wrap64 (x6_3 + bt145.2.2)) false x126001_8 (x126002_3 ++ [(⟨bt145.1, bt145.2.1⟩ : S76)])) else (none))) else (none))) = some (r1, r2, r3, r4, r5) := H
                  have A15 := Aside0.mk A150
                  clear A150
                  by_cases c16 : t129 = true
                  · subst c16
                    have H1 : (if (x126002_3.length : Int) > 0 then (some (false, x126001_8, x126002_3, wrap64 (x6_3 + 1), true)) else (if x6_3 ≤ (l0.length : Int) then ((glob_item.f (l0.drop (x6_3 : Int).toNat)).bind fun bt134 => (if x126002_3.length < 17592186044416 then (glob_bracket.l0 k3 l0 (wrap64 (x6_3 + bt134.2.2)) false x126001_8 (x126002_3 ++ [(⟨bt134.1, bt134.2.1⟩ : S76)])) else (none))) else (none))) = some (r1, r2, r3, r4, r5) := by rw [if_pos rfl] at H; exact H
                    clear H
                    have H := H1
                    clear H1
                    by_cases c17 : (x126002_3.length : Int) > 0
                    · rw [if_pos c17] at H
                      have c17b0 : decide (0 < (x126002_3.length : Int)) = true := decide_eq_true c17
                      have c17b1 : decide (0 < x126002_3.length) = true := decide_eq_true (by omega)
                      clear c17
                      simp only [Option.some.injEq, Prod.mk.injEq] at H
                      obtain ⟨rfl, rfl, rfl, rfl, rfl⟩ := H
                      have p128 : 0 ≤ (x6_3 : Int) := of_decide_eq_true (by first | (with_reducible assumption) | assumption)
                      have q128 : x6_3 < (l0.length : Int) := of_decide_eq_true (by first | (with_reducible assumption) | assumption)
                      obtain ⟨ad128, e128, hx128_0, hx128_1⟩ := at_T57 HR0.out x6_3 p128 q128
                      cases e128
                      replace hx128_0 := (HB.out.cell (World.block_lt_of_cell? w _ hx128_0)).trans hx128_0
                      replace hx128_1 := (HB.out.cell (World.block_lt_of_cell? w _ hx128_1)).trans hx128_1
                      replace p128 := eq_true p128
                      replace q128 := eq_true q128
                      go_wp2_with (first | ((with_reducible refine gate_callee (f := 47) rfl ?_); refine goesL_ (some 29) rfl rfl Tryd.func47 (by kernel_rfl) rfl #[.agg #[.int .i32 ((rd_T57 l0 x6_3).f0), .bool ((rd_T57 l0 x6_3).f1)], .int .i32 93] rfl (by (try simp only [List.map_toArray, List.map_cons, List.map_nil]); first | done | rfl | (simp only [List.length_drop, List.length_take]; rfl)) ?_; (with_reducible refine (glob_is.calls ((rd_T57 l0 x6_3).f0) ((rd_T57 l0 x6_3).f1) 93 true _ A15.out).mono ?_); rintro e w18 ⟨rfl, hb⟩; refine ⟨_, rfl, ?_⟩; have n0_ := Aside0.mk (Kd.R_below (by (with_reducible repeat (first | apply Kd.R_alloc | apply Kd.R_drewN | apply Kd.R_drew)); exact HO_126002.out) hb); have n1_ := Aside0.mk (blk_below (g := gb124) (o := .cells #[.bool x125000_3, .bool x125001_3, .slice none 0 0] 63 (0, 0)) (by (with_reducible repeat (first | refine blk_drewN ?_ _ | refine blk_drew ?_ | refine blk_alloc ?_ _)); exact BK124.out) hb); have n2_ := Aside0.mk (blk_below (g := gb125) (o := .cells #[.bool false, .bool x126001_8, u126002] 63 (0, 0)) (by (with_reducible repeat (first | refine blk_drewN ?_ _ | refine blk_drew ?_ | refine blk_alloc ?_ _)); exact BK125.out) hb); have n3_ := Aside0.mk (below_step (by repeat (first | (with_reducible first | exact HB.out | apply below_alloc | apply pw_below_drewN | apply below_drew1 | refine below_set ?_ GE124.out | refine below_set ?_ GE125.out) | exact HB.out)) hb); clear HO_126002; clear BK124; clear BK125; clear HB; have HO_126002 := n0_; have BK124 := n1_; have BK125 := n2_; have HB := n3_; clear n0_ n1_ n2_ n3_; (try clear hb); (try clear hb2); (try clear hk); (try clear hi); have hnb19 := NB125_124.out; have hnc19 := NB124_125.out; have hcz20_0 : w18.cell? ⟨gb125, 0, none⟩ = some (.bool false) := (blk_cell BK125.out 0).trans rfl; have hcz20_1 : w18.cell? ⟨gb125, 1, none⟩ = some (.bool x126001_8) := (blk_cell BK125.out 1).trans rfl; have hcz20_2 : w18.cell? ⟨gb125, 2, none⟩ = some (u126002) := (blk_cell BK125.out 2).trans rfl; have hfz20_0 := blk_frozen BK125.out 0; have hfz20_1 := blk_frozen BK125.out 1; have hfz20_2 := blk_frozen BK125.out 2; obtain ⟨Ao21, co21, eo21⟩ := Kd.R_slice HO_126002.out; subst eo21; have hcz22_0 : w18.cell? ⟨gb124, 0, none⟩ = some (.bool x125000_3) := (blk_cell BK124.out 0).trans rfl; have hcz22_1 : w18.cell? ⟨gb124, 1, none⟩ = some (.bool x125001_3) := (blk_cell BK124.out 1).trans rfl; have hcz22_2 : w18.cell? ⟨gb124, 2, none⟩ = some (.slice none 0 0) := (blk_cell BK124.out 2).trans rfl; have hfz22_0 := blk_frozen BK124.out 0; have hfz22_1 := blk_frozen BK124.out 1; have hfz22_2 := blk_frozen BK124.out 2))
                      refine bodyPost_ret (results_ctt rfl _ _ gb124 63 #[.bool false, .bool x126001_8, .slice Ao21 x126002_3.length co21] (0, 0) _ rfl (by (with_reducible repeat (first | refine blk_drewN ?_ _ | refine blk_drew ?_ | refine blk_alloc ?_ _)); refine blk_put (cs := #[.bool false, .bool x126001_8, .slice none 0 0]) ?_ 2 _ rfl; (with_reducible repeat (first | refine blk_drewN ?_ _ | refine blk_drew ?_ | refine blk_alloc ?_ _)); refine blk_put (cs := #[.bool false, .bool x125001_3, .slice none 0 0]) ?_ 1 _ rfl; (with_reducible repeat (first | refine blk_drewN ?_ _ | refine blk_drew ?_ | refine blk_alloc ?_ _)); refine blk_put (cs := #[.bool x125000_3, .bool x125001_3, .slice none 0 0]) ?_ 0 _ rfl; (with_reducible repeat (first | refine blk_drewN ?_ _ | refine blk_drew ?_ | refine blk_alloc ?_ _)); exact BK124.out) Tryd.underlying63 rfl (by kernel_rfl)) rfl ?_
                      exact ⟨_, by first | rfl | (simp [errW_none, errW_some] <;> rfl) | (simp [*, errW_none, errW_some] <;> rfl), by (with_reducible repeat (first | apply Kd.R_alloc | apply Kd.R_drewN | apply Kd.R_drew)); exact Kd.R_mono (Kd.R_far (p := ⟨gb124, 2, none⟩) (Kd.R_far (p := ⟨gb124, 1, none⟩) (Kd.R_far (p := ⟨gb124, 0, none⟩) (Kd.R_types HO_126002.out BK124.out (by decide)) (fun _ hk => hk.2) (.bool false)) (fun _ hk => hk.2) (.bool x126001_8)) (fun _ hk => hk.2) (.slice Ao21 x126002_3.length co21)) (fun _ hk => trivial), by repeat (first | (with_reducible first | exact HB.out | apply below_alloc | apply pw_below_drewN | apply below_drew1 | refine below_set ?_ GE124.out | refine below_set ?_ GE125.out) | exact HB.out)⟩
                    · rw [if_neg c17] at H
                      have c17b0 : decide (0 < (x126002_3.length : Int)) = false := decide_eq_false c17
                      have c17b1 : decide (0 < x126002_3.length) = false := decide_eq_false (by omega)
                      clear c17
                      have c23b0 := eq_true (of_decide_eq_true (by first | (with_reducible assumption) | assumption) : 0 ≤ x6_3)
                      by_cases c24 : x6_3 ≤ (l0.length : Int)
                      · rw [if_pos c24] at H
                        have c24b0 := eq_true c24
                        have c24b1 : decide (x6_3 ≤ (l0.length : Int)) = true := decide_eq_true c24
                        clear c24
                        obtain ⟨y130, hy130⟩ : ∃ y_ : List (S57), y_ = (l0.drop (x6_3 : Int).toNat) := ⟨_, rfl⟩
                        replace H : ((glob_item.f y130).bind fun bt134 => (if x126002_3.length < 17592186044416 then (glob_bracket.l0 k3 l0 (wrap64 (x6_3 + bt134.2.2)) false x126001_8 (x126002_3 ++ [(⟨bt134.1, bt134.2.1⟩ : S76)])) else (none))) = some (r1, r2, r3, r4, r5) := by first | (rw [hy130]; with_reducible exact H) | (have H2_ := (Option.bind_some _ _).symm.trans H; rw [hy130]; with_reducible exact H2_) | (have H2_ := (Option.bind_some _ _).symm.trans H; with_reducible exact H2_) | with_reducible exact H | (rw [hy130]; exact H) | exact H
                        have Ny130 := Aside0.mk hy130
                        clear hy130
                        replace H := Option.bind_eq_some_iff.mp H
                        obtain ⟨⟨t134, t135, t136⟩, A250, H⟩ := H
                        replace H : (if x126002_3.length < 17592186044416 then (glob_bracket.l0 k3 l0 (wrap64 (x6_3 + t136)) false x126001_8 (x126002_3 ++ [(⟨t134, t135⟩ : S76)])) else (none)) = some (r1, r2, r3, r4, r5) := H
                        have A25 := Aside0.mk A250
                        clear A250
                        by_cases c26 : x126002_3.length < 17592186044416
                        · rw [if_pos c26] at H
                          have LMc26 := Aside0.mk c26
                          clear c26
                          obtain ⟨y138, hy138⟩ : ∃ y_ : List (S76), y_ = (x126002_3 ++ [(⟨t134, t135⟩ : S76)]) := ⟨_, rfl⟩
                          replace H : (glob_bracket.l0 k3 l0 (wrap64 (x6_3 + t136)) false x126001_8 y138) = some (r1, r2, r3, r4, r5) := by first | (rw [hy138]; with_reducible exact H) | (have H2_ := (Option.bind_some _ _).symm.trans H; rw [hy138]; with_reducible exact H2_) | (have H2_ := (Option.bind_some _ _).symm.trans H; with_reducible exact H2_) | with_reducible exact H | (rw [hy138]; exact H) | exact H
                          have Ny138 := Aside0.mk hy138
                          clear hy138
                          have H' := Aside0.mk H
                          clear H
                          have p128 : 0 ≤ (x6_3 : Int) := of_decide_eq_true (by first | (with_reducible assumption) | assumption)
                          have q128 : x6_3 < (l0.length : Int) := of_decide_eq_true (by first | (with_reducible assumption) | assumption)
                          obtain ⟨ad128, e128, hx128_0, hx128_1⟩ := at_T57 HR0.out x6_3 p128 q128
                          cases e128
                          replace hx128_0 := (HB.out.cell (World.block_lt_of_cell? w _ hx128_0)).trans hx128_0
                          replace hx128_1 := (HB.out.cell (World.block_lt_of_cell? w _ hx128_1)).trans hx128_1
                          replace p128 := eq_true p128
                          replace q128 := eq_true q128
                          go_wp2_with (first | ((with_reducible refine gate_callee (f := 47) rfl ?_); refine goesL_ (some 29) rfl rfl Tryd.func47 (by kernel_rfl) rfl #[.agg #[.int .i32 ((rd_T57 l0 x6_3).f0), .bool ((rd_T57 l0 x6_3).f1)], .int .i32 93] rfl (by (try simp only [List.map_toArray, List.map_cons, List.map_nil]); first | done | rfl | (simp only [List.length_drop, List.length_take]; rfl)) ?_; (with_reducible refine (glob_is.calls ((rd_T57 l0 x6_3).f0) ((rd_T57 l0 x6_3).f1) 93 true _ A15.out).mono ?_); rintro e w27 ⟨rfl, hb⟩; refine ⟨_, rfl, ?_⟩; have n0_ := Aside0.mk (Kd.R_below (by (with_reducible repeat (first | apply Kd.R_alloc | apply Kd.R_drewN | apply Kd.R_drew)); exact HO_126002.out) hb); have n1_ := Aside0.mk (blk_below (g := gb124) (o := .cells #[.bool x125000_3, .bool x125001_3, .slice none 0 0] 63 (0, 0)) (by (with_reducible repeat (first | refine blk_drewN ?_ _ | refine blk_drew ?_ | refine blk_alloc ?_ _)); exact BK124.out) hb); have n2_ := Aside0.mk (blk_below (g := gb125) (o := .cells #[.bool false, .bool x126001_8, u126002] 63 (0, 0)) (by (with_reducible repeat (first | refine blk_drewN ?_ _ | refine blk_drew ?_ | refine blk_alloc ?_ _)); exact BK125.out) hb); have n3_ := Aside0.mk (below_step (by repeat (first | (with_reducible first | exact HB.out | apply below_alloc | apply pw_below_drewN | apply below_drew1 | refine below_set ?_ GE124.out | refine below_set ?_ GE125.out) | exact HB.out)) hb); clear HO_126002; clear BK124; clear BK125; clear HB; have HO_126002 := n0_; have BK124 := n1_; have BK125 := n2_; have HB := n3_; clear n0_ n1_ n2_ n3_; (try clear hb); (try clear hb2); (try clear hk); (try clear hi); have hnb28 := NB125_124.out; have hnc28 := NB124_125.out; have hcz29_0 : w27.cell? ⟨gb125, 0, none⟩ = some (.bool false) := (blk_cell BK125.out 0).trans rfl; have hcz29_1 : w27.cell? ⟨gb125, 1, none⟩ = some (.bool x126001_8) := (blk_cell BK125.out 1).trans rfl; have hcz29_2 : w27.cell? ⟨gb125, 2, none⟩ = some (u126002) := (blk_cell BK125.out 2).trans rfl; have hfz29_0 := blk_frozen BK125.out 0; have hfz29_1 := blk_frozen BK125.out 1; have hfz29_2 := blk_frozen BK125.out 2; obtain ⟨Ao30, co30, eo30⟩ := Kd.R_slice HO_126002.out; subst eo30; have q31 : (x6_3 : Int) ≤ ((l0.length : Int) : Int) := of_decide_eq_true (by first | (with_reducible assumption) | assumption); obtain ⟨i031, hi031, _, hsz31, _⟩ := info_parts info57; have hroom31 : l0.length ≤ c0 := HC0.out; have hC31 : Kd.C k57 _ (some ad128) l0.length l0 := HR0.out; have q031 : (0 : Int) ≤ (x6_3 : Int) := of_decide_eq_true (by first | (with_reducible assumption) | assumption); have hcut31 := cut_from (P := Tryd.prog) 33 57 .i64 Tryd.underlying33 hi031 2 hsz31 (some ad128) l0.length c0 x6_3 q031 q31; have hr31 := Kd.C_drop (m := (x6_3 : Int).toNat) (c := c0) hC31 (by omega) hroom31; obtain ⟨A31, hA31⟩ : ∃ A1, A1 = (if c0 = (x6_3 : Int).toNat then (some ad128) else ((some ad128) : Option Addr).map (·.add ((x6_3 : Int).toNat * 2))) := ⟨_, rfl⟩; obtain ⟨c31, hc31⟩ : ∃ c1, c1 = c0 - (x6_3 : Int).toNat := ⟨_, rfl⟩; have hy31 : y130.length = l0.length - (x6_3 : Int).toNat := (by rw [Ny130.out, List.length_drop] <;> omega); rw [show (l0).drop (x6_3 : Int).toNat = y130 from Ny130.out.symm] at hr31; replace hr31 : Kd.C k57 _ A31 y130.length y130 := (by rw [hA31]; exact hr31); rw [← hy31, ← hA31, ← hc31] at hcut31; have HR133 := Aside0.mk hr31; have HC133 := Aside0.mk (show y130.length ≤ c31 from by rw [hy31, hc31]; exact Nat.sub_le_sub_right hroom31 _); clear hr31 hC31 hroom31 hi031 hsz31 hc31; have KY31 := Aside0.mk hy31; have KA31 := Aside0.mk hA31; clear hy31 hA31; replace q31 := eq_true q31) | ((with_reducible refine gate_callee (f := 56) rfl ?_); refine goesL_ (some 43) rfl rfl Tryd.func56 (by kernel_rfl) rfl #[.slice A31 y130.length c31] rfl (by (try simp only [List.map_toArray, List.map_cons, List.map_nil]); first | done | rfl | (simp only [List.length_drop, List.length_take]; rfl)) ?_; (with_reducible refine (glob_item.calls _ _ y130 t134 t135 t136 _ ?side1 ?side2 A25.out).mono ?_); (case side1 => repeat (first | (with_reducible exact HR133.out) | exact (Kd.C_below HR133.out HB.out) | (with_reducible refine Kd.C_alloc ?_ _) | (with_reducible refine Kd.C_drewN ?_ _) | (with_reducible refine Kd.C_drew ?_))); (case side2 => exact HC133.out); rintro e w32 ⟨rfl, hb⟩; refine ⟨_, rfl, ?_⟩; have n0_ := Aside0.mk (Kd.R_below (by (with_reducible repeat (first | apply Kd.R_alloc | apply Kd.R_drewN | apply Kd.R_drew)); exact HO_126002.out) hb); have n1_ := Aside0.mk (blk_below (g := gb124) (o := .cells #[.bool x125000_3, .bool x125001_3, .slice none 0 0] 63 (0, 0)) (by (with_reducible repeat (first | refine blk_drewN ?_ _ | refine blk_drew ?_ | refine blk_alloc ?_ _)); exact BK124.out) hb); have n2_ := Aside0.mk (blk_below (g := gb125) (o := .cells #[.bool false, .bool x126001_8, .slice Ao30 x126002_3.length co30] 63 (0, 0)) (by (with_reducible repeat (first | refine blk_drewN ?_ _ | refine blk_drew ?_ | refine blk_alloc ?_ _)); exact BK125.out) hb); have n3_ := Aside0.mk (below_step (by repeat (first | (with_reducible first | exact HB.out | apply below_alloc | apply pw_below_drewN | apply below_drew1 | refine below_set ?_ GE124.out | refine below_set ?_ GE125.out) | exact HB.out)) hb); clear HO_126002; clear BK124; clear BK125; clear HB; have HO_126002 := n0_; have BK124 := n1_; have BK125 := n2_; have HB := n3_; clear n0_ n1_ n2_ n3_; (try clear hb); (try clear hb2); (try clear hk); (try clear hi)) | ((with_reducible refine gate_dst (N := 7) rfl ?_); (try (refine gate_guard (by rfl) ?_; dsimp only)); refine box_event ?hg (N := 7) ?hd (cs := #[.int .i32 0, .int .i32 0]) (t := 76) ?hr ?_; (case hd => rfl); (case hg => rfl); (case hr => first | (go_simp; done) | (go_simp; rfl)); intro gb137 hg w33 hbox hb; have n0_ := Aside0.mk (Kd.R_below (Kd.R_elderB (by (with_reducible repeat (first | apply Kd.R_alloc | apply Kd.R_drewN | apply Kd.R_drew)); exact HO_126002.out) gb137 (Nat.le_of_eq hg.symm)) hb); have n1_ := Aside0.mk (blk_below (g := gb124) (o := .cells #[.bool x125000_3, .bool x125001_3, .slice none 0 0] 63 (0, 0)) (by (with_reducible repeat (first | refine blk_drewN ?_ _ | refine blk_drew ?_ | refine blk_alloc ?_ _)); exact BK124.out) hb); have n2_ := Aside0.mk (blk_below (g := gb125) (o := .cells #[.bool false, .bool x126001_8, .slice Ao30 x126002_3.length co30] 63 (0, 0)) (by (with_reducible repeat (first | refine blk_drewN ?_ _ | refine blk_drew ?_ | refine blk_alloc ?_ _)); exact BK125.out) hb); have n3_ := Aside0.mk (below_step (by repeat (first | (with_reducible first | exact HB.out | apply below_alloc | apply pw_below_drewN | apply below_drew1 | refine below_set ?_ GE124.out | refine below_set ?_ GE125.out) | exact HB.out)) hb); have n4_ := Aside0.mk (hbox); have n5_ := Aside0.mk ((by rw [hg]; exact (below_size (by repeat (first | (with_reducible first | exact HB.out | apply below_alloc | apply pw_below_drewN | apply below_drew1 | refine below_set ?_ GE124.out | refine below_set ?_ GE125.out) | exact HB.out))) : w.heap.size ≤ gb137)); have n6_ := Aside0.mk ((by rw [hg]; exact (below_size (by repeat (first | (with_reducible first | exact HB.out | apply below_alloc | apply pw_below_drewN | apply below_drew1 | refine below_set ?_ GE124.out | refine below_set ?_ GE125.out) | exact HB.out))) : w.heap.size ≤ gb137)); have n7_ := Aside0.mk ((by rw [hg]; exact Nat.ne_of_lt (blk_lt (g := gb124) (o := .cells #[.bool x125000_3, .bool x125001_3, .slice none 0 0] 63 (0, 0)) (by (with_reducible repeat (first | refine blk_drewN ?_ _ | refine blk_drew ?_ | refine blk_alloc ?_ _)); exact BK124.out)) : gb124 ≠ gb137)); have n8_ := Aside0.mk ((by rw [hg]; exact Nat.ne_of_gt (blk_lt (g := gb124) (o := .cells #[.bool x125000_3, .bool x125001_3, .slice none 0 0] 63 (0, 0)) (by (with_reducible repeat (first | refine blk_drewN ?_ _ | refine blk_drew ?_ | refine blk_alloc ?_ _)); exact BK124.out)) : gb137 ≠ gb124)); have n9_ := Aside0.mk ((by rw [hg]; exact Nat.ne_of_lt (blk_lt (g := gb125) (o := .cells #[.bool false, .bool x126001_8, .slice Ao30 x126002_3.length co30] 63 (0, 0)) (by (with_reducible repeat (first | refine blk_drewN ?_ _ | refine blk_drew ?_ | refine blk_alloc ?_ _)); exact BK125.out)) : gb125 ≠ gb137)); have n10_ := Aside0.mk ((by rw [hg]; exact Nat.ne_of_gt (blk_lt (g := gb125) (o := .cells #[.bool false, .bool x126001_8, .slice Ao30 x126002_3.length co30] 63 (0, 0)) (by (with_reducible repeat (first | refine blk_drewN ?_ _ | refine blk_drew ?_ | refine blk_alloc ?_ _)); exact BK125.out)) : gb137 ≠ gb125)); clear HO_126002; clear BK124; clear BK125; clear HB; have HO_126002 := n0_; have BK124 := n1_; have BK125 := n2_; have HB := n3_; have BK137 := n4_; have GW137 := n5_; have GE137 := n6_; have NB124_137 := n7_; have NB137_124 := n8_; have NB125_137 := n9_; have NB137_125 := n10_; clear n0_ n1_ n2_ n3_ n4_ n5_ n6_ n7_ n8_ n9_ n10_; clear hb hbox hg; have hnb34 := NB137_124.out; have hnc34 := NB124_137.out; have hnb35 := NB137_125.out; have hnc35 := NB125_137.out; have hcz36_0 : w33.cell? ⟨gb137, 0, none⟩ = some (.int .i32 0) := (blk_cell BK137.out 0).trans rfl; have hcz36_1 : w33.cell? ⟨gb137, 1, none⟩ = some (.int .i32 0) := (blk_cell BK137.out 1).trans rfl; have hfz36_0 := blk_frozen BK137.out 0; have hfz36_1 := blk_frozen BK137.out 1; have hcz37_0 : w33.cell? ⟨gb125, 0, none⟩ = some (.bool false) := (blk_cell BK125.out 0).trans rfl; have hcz37_1 : w33.cell? ⟨gb125, 1, none⟩ = some (.bool x126001_8) := (blk_cell BK125.out 1).trans rfl; have hcz37_2 : w33.cell? ⟨gb125, 2, none⟩ = some (.slice Ao30 x126002_3.length co30) := (blk_cell BK125.out 2).trans rfl; have hfz37_0 := blk_frozen BK125.out 0; have hfz37_1 := blk_frozen BK125.out 1; have hfz37_2 := blk_frozen BK125.out 2) | ((with_reducible refine gate_builtin (b := .append) (xs := #[.tmp 47, .tmp 49]) rfl ?_); (try (refine gate_guard (by rfl) ?_; dsimp only)); at_builtin; refine Kd.R_append k76 (w0 := w) w.heap.size rfl (.tmp 47) (.tmp 49) 61 76 (.agg #[(.int .i32 0), (.int .i32 0)]) 8 rfl Tryd.underlying61 info76 rfl (by decide) (by omega) (.slice Ao30 x126002_3.length co30) x126002_3 (⟨t134, t135⟩ : S76) [.int .i32 t134, .int .i32 t135] (fun k_ => k_ ≠ gb137) (fun _ => False) rfl (by first | (go_simp; done) | (go_simp; rfl)) ?aP (fun _ hk => hk.elim) ?aF ?aO ?aB ?aS ?aL ?_; (case aP => exact k76_mkM _ _ _ (⟨t134, t135⟩ : S76)); (case aB => exact (by repeat (first | (with_reducible first | exact HB.out | apply below_alloc | apply pw_below_drewN | apply below_drew1 | refine below_set ?_ GE124.out | refine below_set ?_ GE125.out | refine below_set ?_ GE137.out) | exact HB.out))); (case aF => exact (fun k_ hk => Kd.freshB (g := gb137) (o := .cells #[.int .i32 t134, .int .i32 t135] 76 (0, 0)) (by (with_reducible repeat (first | refine blk_drewN ?_ _ | refine blk_drew ?_ | refine blk_alloc ?_ _)); refine blk_put (cs := #[.int .i32 t134, .int .i32 0]) ?_ 1 _ rfl; (with_reducible repeat (first | refine blk_drewN ?_ _ | refine blk_drew ?_ | refine blk_alloc ?_ _)); refine blk_put (cs := #[.int .i32 0, .int .i32 0]) ?_ 0 _ rfl; (with_reducible repeat (first | refine blk_drewN ?_ _ | refine blk_drew ?_ | refine blk_alloc ?_ _)); exact BK137.out) k_ hk)); (case aO => exact (by (with_reducible repeat (first | apply Kd.R_alloc | apply Kd.R_drewN | apply Kd.R_drew)); exact Kd.R_mono (Kd.R_far (p := ⟨gb137, 1, none⟩) (Kd.R_far (p := ⟨gb137, 0, none⟩) (Kd.R_mono HO_126002.out (fun k_ hk => (⟨hk, hk.2⟩ : _ ∧ k_ ≠ gb137))) (fun _ hk => hk.2) (.int .i32 t134)) (fun _ hk => hk.2) (.int .i32 t135)) (fun _ hk => hk.1.2))); (case aS => exact (below_size (by repeat (first | (with_reducible first | exact HB.out | apply below_alloc | apply pw_below_drewN | apply below_drew1 | refine below_set ?_ GE124.out | refine below_set ?_ GE125.out | refine below_set ?_ GE137.out) | exact HB.out)))); (case aL => have := LMc26.out; omega); intro v139 w38 ho hb hg hat; rw [← Ny138.out] at ho; have n0_ := Aside0.mk (blk_grown (g := gb124) (o := .cells #[.bool x125000_3, .bool x125001_3, .slice none 0 0] 63 (0, 0)) (by (with_reducible repeat (first | refine blk_drewN ?_ _ | refine blk_drew ?_ | refine blk_alloc ?_ _)); refine blk_far ?_ NB124_137.out _; (with_reducible repeat (first | refine blk_drewN ?_ _ | refine blk_drew ?_ | refine blk_alloc ?_ _)); refine blk_far ?_ NB124_137.out _; (with_reducible repeat (first | refine blk_drewN ?_ _ | refine blk_drew ?_ | refine blk_alloc ?_ _)); exact BK124.out) hg (Kd.R_ne HO_126002.out BK124.out (by decide))); have n1_ := Aside0.mk (blk_grown (g := gb125) (o := .cells #[.bool false, .bool x126001_8, .slice Ao30 x126002_3.length co30] 63 (0, 0)) (by (with_reducible repeat (first | refine blk_drewN ?_ _ | refine blk_drew ?_ | refine blk_alloc ?_ _)); refine blk_far ?_ NB125_137.out _; (with_reducible repeat (first | refine blk_drewN ?_ _ | refine blk_drew ?_ | refine blk_alloc ?_ _)); refine blk_far ?_ NB125_137.out _; (with_reducible repeat (first | refine blk_drewN ?_ _ | refine blk_drew ?_ | refine blk_alloc ?_ _)); exact BK125.out) hg (Kd.R_ne HO_126002.out BK125.out (by decide))); have n2_ := Aside0.mk (blk_grown (g := gb137) (o := .cells #[.int .i32 t134, .int .i32 t135] 76 (0, 0)) (by (with_reducible repeat (first | refine blk_drewN ?_ _ | refine blk_drew ?_ | refine blk_alloc ?_ _)); refine blk_put (cs := #[.int .i32 t134, .int .i32 0]) ?_ 1 _ rfl; (with_reducible repeat (first | refine blk_drewN ?_ _ | refine blk_drew ?_ | refine blk_alloc ?_ _)); refine blk_put (cs := #[.int .i32 0, .int .i32 0]) ?_ 0 _ rfl; (with_reducible repeat (first | refine blk_drewN ?_ _ | refine blk_drew ?_ | refine blk_alloc ?_ _)); exact BK137.out) hg (Kd.R_away HO_126002.out (fun _ hk => hk.2))); have n3_ := Aside0.mk (hb); have n4_ := Aside0.mk (ho); clear BK124; clear BK125; clear BK137; clear HB; clear HO_126002; have BK124 := n0_; have BK125 := n1_; have BK137 := n2_; have HB := n3_; have HO140 := n4_; clear n0_ n1_ n2_ n3_ n4_; clear ho hb hg hat; obtain ⟨Ao39, co39, eo39⟩ := Kd.R_slice HO140.out; subst eo39; have hcz40_0 : w38.cell? ⟨gb125, 0, none⟩ = some (.bool false) := (blk_cell BK125.out 0).trans rfl; have hcz40_1 : w38.cell? ⟨gb125, 1, none⟩ = some (.bool x126001_8) := (blk_cell BK125.out 1).trans rfl; have hcz40_2 : w38.cell? ⟨gb125, 2, none⟩ = some (.slice Ao30 x126002_3.length co30) := (blk_cell BK125.out 2).trans rfl; have hfz40_0 := blk_frozen BK125.out 0; have hfz40_1 := blk_frozen BK125.out 1; have hfz40_2 := blk_frozen BK125.out 2))
                          go_roundg k3
                          case measure => have := HJ1.out; have := HJ8.out; have := HK3.out; omega
                          case rel => exact ⟨(wrap64 (x6_3 + t136)), (x125000_3), (x125001_3), (y138), (.slice Ao39 y138.length co39), (by first | rfl | (simp; done) | (simp [*]; done) | (simp; unfold wrap64; omega)), H', ⟨by have := HJ1.out; have := HJ8.out; have := HK3.out; omega⟩, ⟨by (with_reducible repeat (first | apply Kd.R_alloc | apply Kd.R_drewN | apply Kd.R_drew)); exact Kd.R_mono (Kd.R_far (p := ⟨gb125, 2, none⟩) (Kd.R_types HO140.out BK125.out (by decide)) (fun _ hk => hk.2) (.slice Ao39 y138.length co39)) (fun _ hk => trivial)⟩, ⟨by (with_reducible repeat (first | refine blk_drewN ?_ _ | refine blk_drew ?_ | refine blk_alloc ?_ _)); refine blk_far ?_ NB124_125.out _; (with_reducible repeat (first | refine blk_drewN ?_ _ | refine blk_drew ?_ | refine blk_alloc ?_ _)); exact BK124.out⟩, ⟨by (with_reducible repeat (first | refine blk_drewN ?_ _ | refine blk_drew ?_ | refine blk_alloc ?_ _)); refine blk_put (cs := #[.bool false, .bool x126001_8, .slice Ao30 x126002_3.length co30]) ?_ 2 _ rfl; (with_reducible repeat (first | refine blk_drewN ?_ _ | refine blk_drew ?_ | refine blk_alloc ?_ _)); exact BK125.out⟩, ⟨by repeat (first | (with_reducible first | exact HB.out | apply below_alloc | apply pw_below_drewN | apply below_drew1 | refine below_set ?_ GE124.out | refine below_set ?_ GE125.out | refine below_set ?_ GE137.out) | exact HB.out)⟩⟩
                        · rw [if_neg c26] at H
                          exact absurd H (by simp)
                      · rw [if_neg c24] at H
                        exact absurd H (by simp)
                  · replace c16 := Bool.eq_false_iff.mpr c16
                    subst c16
                    have H1 : (if x6_3 ≤ (l0.length : Int) then ((glob_item.f (l0.drop (x6_3 : Int).toNat)).bind fun bt145 => (if x126002_3.length < 17592186044416 then (glob_bracket.l0 k3 l0 (wrap64 (x6_3 + bt145.2.2)) false x126001_8 (x126002_3 ++ [(⟨bt145.1, bt145.2.1⟩ : S76)])) else (none))) else (none)) = some (r1, r2, r3, r4, r5) := by rw [if_neg (show ¬ (false = true) by decide)] at H; exact H
                    clear H
                    have H := H1
                    clear H1
                    have c41b0 := eq_true (of_decide_eq_true (by first | (with_reducible assumption) | assumption) : 0 ≤ x6_3)
                    by_cases c42 : x6_3 ≤ (l0.length : Int)
                    · rw [if_pos c42] at H
                      have c42b0 := eq_true c42
                      have c42b1 : decide (x6_3 ≤ (l0.length : Int)) = true := decide_eq_true c42
                      clear c42
                      obtain ⟨y141, hy141⟩ : ∃ y_ : List (S57), y_ = (l0.drop (x6_3 : Int).toNat) := ⟨_, rfl⟩
                      replace H : ((glob_item.f y141).bind fun bt145 => (if x126002_3.length < 17592186044416 then (glob_bracket.l0 k3 l0 (wrap64 (x6_3 + bt145.2.2)) false x126001_8 (x126002_3 ++ [(⟨bt145.1, bt145.2.1⟩ : S76)])) else (none))) = some (r1, r2, r3, r4, r5) := by first | (rw [hy141]; with_reducible exact H) | (have H2_ := (Option.bind_some _ _).symm.trans H; rw [hy141]; with_reducible exact H2_) | (have H2_ := (Option.bind_some _ _).symm.trans H; with_reducible exact H2_) | with_reducible exact H | (rw [hy141]; exact H) | exact H
                      have Ny141 := Aside0.mk hy141
                      clear hy141
                      replace H := Option.bind_eq_some_iff.mp H
                      obtain ⟨⟨t145, t146, t147⟩, A430, H⟩ := H
                      replace H : (if x126002_3.length < 17592186044416 then (glob_bracket.l0 k3 l0 (wrap64 (x6_3 + t147)) false x126001_8 (x126002_3 ++ [(⟨t145, t146⟩ : S76)])) else (none)) = some (r1, r2, r3, r4, r5) := H
                      have A43 := Aside0.mk A430
                      clear A430
                      by_cases c44 : x126002_3.length < 17592186044416
                      · rw [if_pos c44] at H
                        have LMc44 := Aside0.mk c44
                        clear c44
                        obtain ⟨y149, hy149⟩ : ∃ y_ : List (S76), y_ = (x126002_3 ++ [(⟨t145, t146⟩ : S76)]) := ⟨_, rfl⟩
                        replace H : (glob_bracket.l0 k3 l0 (wrap64 (x6_3 + t147)) false x126001_8 y149) = some (r1, r2, r3, r4, r5) := by first | (rw [hy149]; with_reducible exact H) | (have H2_ := (Option.bind_some _ _).symm.trans H; rw [hy149]; with_reducible exact H2_) | (have H2_ := (Option.bind_some _ _).symm.trans H; with_reducible exact H2_) | with_reducible exact H | (rw [hy149]; exact H) | exact H
                        have Ny149 := Aside0.mk hy149
                        clear hy149
                        have H' := Aside0.mk H
                        clear H
                        have p128 : 0 ≤ (x6_3 : Int) := of_decide_eq_true (by first | (with_reducible assumption) | assumption)
                        have q128 : x6_3 < (l0.length : Int) := of_decide_eq_true (by first | (with_reducible assumption) | assumption)
                        obtain ⟨ad128, e128, hx128_0, hx128_1⟩ := at_T57 HR0.out x6_3 p128 q128
                        cases e128
                        replace hx128_0 := (HB.out.cell (World.block_lt_of_cell? w _ hx128_0)).trans hx128_0
                        replace hx128_1 := (HB.out.cell (World.block_lt_of_cell? w _ hx128_1)).trans hx128_1
                        replace p128 := eq_true p128
                        replace q128 := eq_true q128
                        go_wp2_with (first | ((with_reducible refine gate_callee (f := 47) rfl ?_); refine goesL_ (some 29) rfl rfl Tryd.func47 (by kernel_rfl) rfl #[.agg #[.int .i32 ((rd_T57 l0 x6_3).f0), .bool ((rd_T57 l0 x6_3).f1)], .int .i32 93] rfl (by (try simp only [List.map_toArray, List.map_cons, List.map_nil]); first | done | rfl | (simp only [List.length_drop, List.length_take]; rfl)) ?_; (with_reducible refine (glob_is.calls ((rd_T57 l0 x6_3).f0) ((rd_T57 l0 x6_3).f1) 93 false _ A15.out).mono ?_); rintro e w45 ⟨rfl, hb⟩; refine ⟨_, rfl, ?_⟩; have n0_ := Aside0.mk (Kd.R_below (by (with_reducible repeat (first | apply Kd.R_alloc | apply Kd.R_drewN | apply Kd.R_drew)); exact HO_126002.out) hb); have n1_ := Aside0.mk (blk_below (g := gb124) (o := .cells #[.bool x125000_3, .bool x125001_3, .slice none 0 0] 63 (0, 0)) (by (with_reducible repeat (first | refine blk_drewN ?_ _ | refine blk_drew ?_ | refine blk_alloc ?_ _)); exact BK124.out) hb); have n2_ := Aside0.mk (blk_below (g := gb125) (o := .cells #[.bool false, .bool x126001_8, u126002] 63 (0, 0)) (by (with_reducible repeat (first | refine blk_drewN ?_ _ | refine blk_drew ?_ | refine blk_alloc ?_ _)); exact BK125.out) hb); have n3_ := Aside0.mk (below_step (by repeat (first | (with_reducible first | exact HB.out | apply below_alloc | apply pw_below_drewN | apply below_drew1 | refine below_set ?_ GE124.out | refine below_set ?_ GE125.out) | exact HB.out)) hb); clear HO_126002; clear BK124; clear BK125; clear HB; have HO_126002 := n0_; have BK124 := n1_; have BK125 := n2_; have HB := n3_; clear n0_ n1_ n2_ n3_; (try clear hb); (try clear hb2); (try clear hk); (try clear hi); have q46 : (x6_3 : Int) ≤ ((l0.length : Int) : Int) := of_decide_eq_true (by first | (with_reducible assumption) | assumption); obtain ⟨i046, hi046, _, hsz46, _⟩ := info_parts info57; have hroom46 : l0.length ≤ c0 := HC0.out; have hC46 : Kd.C k57 _ (some ad128) l0.length l0 := HR0.out; have q046 : (0 : Int) ≤ (x6_3 : Int) := of_decide_eq_true (by first | (with_reducible assumption) | assumption); have hcut46 := cut_from (P := Tryd.prog) 33 57 .i64 Tryd.underlying33 hi046 2 hsz46 (some ad128) l0.length c0 x6_3 q046 q46; have hr46 := Kd.C_drop (m := (x6_3 : Int).toNat) (c := c0) hC46 (by omega) hroom46; obtain ⟨A46, hA46⟩ : ∃ A1, A1 = (if c0 = (x6_3 : Int).toNat then (some ad128) else ((some ad128) : Option Addr).map (·.add ((x6_3 : Int).toNat * 2))) := ⟨_, rfl⟩; obtain ⟨c46, hc46⟩ : ∃ c1, c1 = c0 - (x6_3 : Int).toNat := ⟨_, rfl⟩; have hy46 : y141.length = l0.length - (x6_3 : Int).toNat := (by rw [Ny141.out, List.length_drop] <;> omega); rw [show (l0).drop (x6_3 : Int).toNat = y141 from Ny141.out.symm] at hr46; replace hr46 : Kd.C k57 _ A46 y141.length y141 := (by rw [hA46]; exact hr46); rw [← hy46, ← hA46, ← hc46] at hcut46; have HR144 := Aside0.mk hr46; have HC144 := Aside0.mk (show y141.length ≤ c46 from by rw [hy46, hc46]; exact Nat.sub_le_sub_right hroom46 _); clear hr46 hC46 hroom46 hi046 hsz46 hc46; have KY46 := Aside0.mk hy46; have KA46 := Aside0.mk hA46; clear hy46 hA46; replace q46 := eq_true q46) | ((with_reducible refine gate_callee (f := 56) rfl ?_); refine goesL_ (some 43) rfl rfl Tryd.func56 (by kernel_rfl) rfl #[.slice A46 y141.length c46] rfl (by (try simp only [List.map_toArray, List.map_cons, List.map_nil]); first | done | rfl | (simp only [List.length_drop, List.length_take]; rfl)) ?_; (with_reducible refine (glob_item.calls _ _ y141 t145 t146 t147 _ ?side1 ?side2 A43.out).mono ?_); (case side1 => repeat (first | (with_reducible exact HR144.out) | exact (Kd.C_below HR144.out HB.out) | (with_reducible refine Kd.C_alloc ?_ _) | (with_reducible refine Kd.C_drewN ?_ _) | (with_reducible refine Kd.C_drew ?_))); (case side2 => exact HC144.out); rintro e w47 ⟨rfl, hb⟩; refine ⟨_, rfl, ?_⟩; have n0_ := Aside0.mk (Kd.R_below (by (with_reducible repeat (first | apply Kd.R_alloc | apply Kd.R_drewN | apply Kd.R_drew)); exact HO_126002.out) hb); have n1_ := Aside0.mk (blk_below (g := gb124) (o := .cells #[.bool x125000_3, .bool x125001_3, .slice none 0 0] 63 (0, 0)) (by (with_reducible repeat (first | refine blk_drewN ?_ _ | refine blk_drew ?_ | refine blk_alloc ?_ _)); exact BK124.out) hb); have n2_ := Aside0.mk (blk_below (g := gb125) (o := .cells #[.bool false, .bool x126001_8, u126002] 63 (0, 0)) (by (with_reducible repeat (first | refine blk_drewN ?_ _ | refine blk_drew ?_ | refine blk_alloc ?_ _)); exact BK125.out) hb); have n3_ := Aside0.mk (below_step (by repeat (first | (with_reducible first | exact HB.out | apply below_alloc | apply pw_below_drewN | apply below_drew1 | refine below_set ?_ GE124.out | refine below_set ?_ GE125.out) | exact HB.out)) hb); clear HO_126002; clear BK124; clear BK125; clear HB; have HO_126002 := n0_; have BK124 := n1_; have BK125 := n2_; have HB := n3_; clear n0_ n1_ n2_ n3_; (try clear hb); (try clear hb2); (try clear hk); (try clear hi)) | ((with_reducible refine gate_dst (N := 7) rfl ?_); (try (refine gate_guard (by rfl) ?_; dsimp only)); refine box_event ?hg (N := 7) ?hd (cs := #[.int .i32 0, .int .i32 0]) (t := 76) ?hr ?_; (case hd => rfl); (case hg => rfl); (case hr => first | (go_simp; done) | (go_simp; rfl)); intro gb148 hg w48 hbox hb; have n0_ := Aside0.mk (Kd.R_below (Kd.R_elderB (by (with_reducible repeat (first | apply Kd.R_alloc | apply Kd.R_drewN | apply Kd.R_drew)); exact HO_126002.out) gb148 (Nat.le_of_eq hg.symm)) hb); have n1_ := Aside0.mk (blk_below (g := gb124) (o := .cells #[.bool x125000_3, .bool x125001_3, .slice none 0 0] 63 (0, 0)) (by (with_reducible repeat (first | refine blk_drewN ?_ _ | refine blk_drew ?_ | refine blk_alloc ?_ _)); exact BK124.out) hb); have n2_ := Aside0.mk (blk_below (g := gb125) (o := .cells #[.bool false, .bool x126001_8, u126002] 63 (0, 0)) (by (with_reducible repeat (first | refine blk_drewN ?_ _ | refine blk_drew ?_ | refine blk_alloc ?_ _)); exact BK125.out) hb); have n3_ := Aside0.mk (below_step (by repeat (first | (with_reducible first | exact HB.out | apply below_alloc | apply pw_below_drewN | apply below_drew1 | refine below_set ?_ GE124.out | refine below_set ?_ GE125.out) | exact HB.out)) hb); have n4_ := Aside0.mk (hbox); have n5_ := Aside0.mk ((by rw [hg]; exact (below_size (by repeat (first | (with_reducible first | exact HB.out | apply below_alloc | apply pw_below_drewN | apply below_drew1 | refine below_set ?_ GE124.out | refine below_set ?_ GE125.out) | exact HB.out))) : w.heap.size ≤ gb148)); have n6_ := Aside0.mk ((by rw [hg]; exact (below_size (by repeat (first | (with_reducible first | exact HB.out | apply below_alloc | apply pw_below_drewN | apply below_drew1 | refine below_set ?_ GE124.out | refine below_set ?_ GE125.out) | exact HB.out))) : w.heap.size ≤ gb148)); have n7_ := Aside0.mk ((by rw [hg]; exact Nat.ne_of_lt (blk_lt (g := gb124) (o := .cells #[.bool x125000_3, .bool x125001_3, .slice none 0 0] 63 (0, 0)) (by (with_reducible repeat (first | refine blk_drewN ?_ _ | refine blk_drew ?_ | refine blk_alloc ?_ _)); exact BK124.out)) : gb124 ≠ gb148)); have n8_ := Aside0.mk ((by rw [hg]; exact Nat.ne_of_gt (blk_lt (g := gb124) (o := .cells #[.bool x125000_3, .bool x125001_3, .slice none 0 0] 63 (0, 0)) (by (with_reducible repeat (first | refine blk_drewN ?_ _ | refine blk_drew ?_ | refine blk_alloc ?_ _)); exact BK124.out)) : gb148 ≠ gb124)); have n9_ := Aside0.mk ((by rw [hg]; exact Nat.ne_of_lt (blk_lt (g := gb125) (o := .cells #[.bool false, .bool x126001_8, u126002] 63 (0, 0)) (by (with_reducible repeat (first | refine blk_drewN ?_ _ | refine blk_drew ?_ | refine blk_alloc ?_ _)); exact BK125.out)) : gb125 ≠ gb148)); have n10_ := Aside0.mk ((by rw [hg]; exact Nat.ne_of_gt (blk_lt (g := gb125) (o := .cells #[.bool false, .bool x126001_8, u126002] 63 (0, 0)) (by (with_reducible repeat (first | refine blk_drewN ?_ _ | refine blk_drew ?_ | refine blk_alloc ?_ _)); exact BK125.out)) : gb148 ≠ gb125)); clear HO_126002; clear BK124; clear BK125; clear HB; have HO_126002 := n0_; have BK124 := n1_; have BK125 := n2_; have HB := n3_; have BK148 := n4_; have GW148 := n5_; have GE148 := n6_; have NB124_148 := n7_; have NB148_124 := n8_; have NB125_148 := n9_; have NB148_125 := n10_; clear n0_ n1_ n2_ n3_ n4_ n5_ n6_ n7_ n8_ n9_ n10_; clear hb hbox hg; have hnb49 := NB148_124.out; have hnc49 := NB124_148.out; have hnb50 := NB148_125.out; have hnc50 := NB125_148.out; have hcz51_0 : w48.cell? ⟨gb148, 0, none⟩ = some (.int .i32 0) := (blk_cell BK148.out 0).trans rfl; have hcz51_1 : w48.cell? ⟨gb148, 1, none⟩ = some (.int .i32 0) := (blk_cell BK148.out 1).trans rfl; have hfz51_0 := blk_frozen BK148.out 0; have hfz51_1 := blk_frozen BK148.out 1; have hnb52 := NB125_124.out; have hnc52 := NB124_125.out; have hcz53_0 : w48.cell? ⟨gb125, 0, none⟩ = some (.bool false) := (blk_cell BK125.out 0).trans rfl; have hcz53_1 : w48.cell? ⟨gb125, 1, none⟩ = some (.bool x126001_8) := (blk_cell BK125.out 1).trans rfl; have hcz53_2 : w48.cell? ⟨gb125, 2, none⟩ = some (u126002) := (blk_cell BK125.out 2).trans rfl; have hfz53_0 := blk_frozen BK125.out 0; have hfz53_1 := blk_frozen BK125.out 1; have hfz53_2 := blk_frozen BK125.out 2) | ((with_reducible refine gate_builtin (b := .append) (xs := #[.tmp 47, .tmp 49]) rfl ?_); (try (refine gate_guard (by rfl) ?_; dsimp only)); at_builtin; refine Kd.R_append k76 (w0 := w) w.heap.size rfl (.tmp 47) (.tmp 49) 61 76 (.agg #[(.int .i32 0), (.int .i32 0)]) 8 rfl Tryd.underlying61 info76 rfl (by decide) (by omega) u126002 x126002_3 (⟨t145, t146⟩ : S76) [.int .i32 t145, .int .i32 t146] (fun k_ => k_ ≠ gb148) (fun _ => False) rfl (by first | (go_simp; done) | (go_simp; rfl)) ?aP (fun _ hk => hk.elim) ?aF ?aO ?aB ?aS ?aL ?_; (case aP => exact k76_mkM _ _ _ (⟨t145, t146⟩ : S76)); (case aB => exact (by repeat (first | (with_reducible first | exact HB.out | apply below_alloc | apply pw_below_drewN | apply below_drew1 | refine below_set ?_ GE124.out | refine below_set ?_ GE125.out | refine below_set ?_ GE148.out) | exact HB.out))); (case aF => exact (fun k_ hk => Kd.freshB (g := gb148) (o := .cells #[.int .i32 t145, .int .i32 t146] 76 (0, 0)) (by (with_reducible repeat (first | refine blk_drewN ?_ _ | refine blk_drew ?_ | refine blk_alloc ?_ _)); refine blk_put (cs := #[.int .i32 t145, .int .i32 0]) ?_ 1 _ rfl; (with_reducible repeat (first | refine blk_drewN ?_ _ | refine blk_drew ?_ | refine blk_alloc ?_ _)); refine blk_put (cs := #[.int .i32 0, .int .i32 0]) ?_ 0 _ rfl; (with_reducible repeat (first | refine blk_drewN ?_ _ | refine blk_drew ?_ | refine blk_alloc ?_ _)); exact BK148.out) k_ hk)); (case aO => exact (by (with_reducible repeat (first | apply Kd.R_alloc | apply Kd.R_drewN | apply Kd.R_drew)); exact Kd.R_mono (Kd.R_far (p := ⟨gb148, 1, none⟩) (Kd.R_far (p := ⟨gb148, 0, none⟩) (Kd.R_mono HO_126002.out (fun k_ hk => (⟨hk, hk.2⟩ : _ ∧ k_ ≠ gb148))) (fun _ hk => hk.2) (.int .i32 t145)) (fun _ hk => hk.2) (.int .i32 t146)) (fun _ hk => hk.1.2))); (case aS => exact (below_size (by repeat (first | (with_reducible first | exact HB.out | apply below_alloc | apply pw_below_drewN | apply below_drew1 | refine below_set ?_ GE124.out | refine below_set ?_ GE125.out | refine below_set ?_ GE148.out) | exact HB.out)))); (case aL => have := LMc44.out; omega); intro v150 w54 ho hb hg hat; rw [← Ny149.out] at ho; have n0_ := Aside0.mk (blk_grown (g := gb124) (o := .cells #[.bool x125000_3, .bool x125001_3, .slice none 0 0] 63 (0, 0)) (by (with_reducible repeat (first | refine blk_drewN ?_ _ | refine blk_drew ?_ | refine blk_alloc ?_ _)); refine blk_far ?_ NB124_148.out _; (with_reducible repeat (first | refine blk_drewN ?_ _ | refine blk_drew ?_ | refine blk_alloc ?_ _)); refine blk_far ?_ NB124_148.out _; (with_reducible repeat (first | refine blk_drewN ?_ _ | refine blk_drew ?_ | refine blk_alloc ?_ _)); exact BK124.out) hg (Kd.R_ne HO_126002.out BK124.out (by decide))); have n1_ := Aside0.mk (blk_grown (g := gb125) (o := .cells #[.bool false, .bool x126001_8, u126002] 63 (0, 0)) (by (with_reducible repeat (first | refine blk_drewN ?_ _ | refine blk_drew ?_ | refine blk_alloc ?_ _)); refine blk_far ?_ NB125_148.out _; (with_reducible repeat (first | refine blk_drewN ?_ _ | refine blk_drew ?_ | refine blk_alloc ?_ _)); refine blk_far ?_ NB125_148.out _; (with_reducible repeat (first | refine blk_drewN ?_ _ | refine blk_drew ?_ | refine blk_alloc ?_ _)); exact BK125.out) hg (Kd.R_ne HO_126002.out BK125.out (by decide))); have n2_ := Aside0.mk (blk_grown (g := gb148) (o := .cells #[.int .i32 t145, .int .i32 t146] 76 (0, 0)) (by (with_reducible repeat (first | refine blk_drewN ?_ _ | refine blk_drew ?_ | refine blk_alloc ?_ _)); refine blk_put (cs := #[.int .i32 t145, .int .i32 0]) ?_ 1 _ rfl; (with_reducible repeat (first | refine blk_drewN ?_ _ | refine blk_drew ?_ | refine blk_alloc ?_ _)); refine blk_put (cs := #[.int .i32 0, .int .i32 0]) ?_ 0 _ rfl; (with_reducible repeat (first | refine blk_drewN ?_ _ | refine blk_drew ?_ | refine blk_alloc ?_ _)); exact BK148.out) hg (Kd.R_away HO_126002.out (fun _ hk => hk.2))); have n3_ := Aside0.mk (hb); have n4_ := Aside0.mk (ho); clear BK124; clear BK125; clear BK148; clear HB; clear HO_126002; have BK124 := n0_; have BK125 := n1_; have BK148 := n2_; have HB := n3_; have HO151 := n4_; clear n0_ n1_ n2_ n3_ n4_; clear ho hb hg hat; obtain ⟨Ao55, co55, eo55⟩ := Kd.R_slice HO151.out; subst eo55; have hcz56_0 : w54.cell? ⟨gb125, 0, none⟩ = some (.bool false) := (blk_cell BK125.out 0).trans rfl; have hcz56_1 : w54.cell? ⟨gb125, 1, none⟩ = some (.bool x126001_8) := (blk_cell BK125.out 1).trans rfl; have hcz56_2 : w54.cell? ⟨gb125, 2, none⟩ = some (u126002) := (blk_cell BK125.out 2).trans rfl; have hfz56_0 := blk_frozen BK125.out 0; have hfz56_1 := blk_frozen BK125.out 1; have hfz56_2 := blk_frozen BK125.out 2))
                        go_roundg k3
                        case measure => have := HJ1.out; have := HJ8.out; have := HK3.out; omega
                        case rel => exact ⟨(wrap64 (x6_3 + t147)), (x125000_3), (x125001_3), (y149), (.slice Ao55 y149.length co55), (by first | rfl | (simp; done) | (simp [*]; done) | (simp; unfold wrap64; omega)), H', ⟨by have := HJ1.out; have := HJ8.out; have := HK3.out; omega⟩, ⟨by (with_reducible repeat (first | apply Kd.R_alloc | apply Kd.R_drewN | apply Kd.R_drew)); exact Kd.R_mono (Kd.R_far (p := ⟨gb125, 2, none⟩) (Kd.R_types HO151.out BK125.out (by decide)) (fun _ hk => hk.2) (.slice Ao55 y149.length co55)) (fun _ hk => trivial)⟩, ⟨by (with_reducible repeat (first | refine blk_drewN ?_ _ | refine blk_drew ?_ | refine blk_alloc ?_ _)); refine blk_far ?_ NB124_125.out _; (with_reducible repeat (first | refine blk_drewN ?_ _ | refine blk_drew ?_ | refine blk_alloc ?_ _)); exact BK124.out⟩, ⟨by (with_reducible repeat (first | refine blk_drewN ?_ _ | refine blk_drew ?_ | refine blk_alloc ?_ _)); refine blk_put (cs := #[.bool false, .bool x126001_8, u126002]) ?_ 2 _ rfl; (with_reducible repeat (first | refine blk_drewN ?_ _ | refine blk_drew ?_ | refine blk_alloc ?_ _)); exact BK125.out⟩, ⟨by repeat (first | (with_reducible first | exact HB.out | apply below_alloc | apply pw_below_drewN | apply below_drew1 | refine below_set ?_ GE124.out | refine below_set ?_ GE125.out | refine below_set ?_ GE148.out) | exact HB.out)⟩⟩
                      · rw [if_neg c44] at H
                        exact absurd H (by simp)
                    · rw [if_neg c42] at H
                      exact absurd H (by simp)
                · rw [if_neg c14] at H
                  exact absurd H (by simp)
              · rw [if_neg c13] at H
                have c13b0 : decide (x6_3 < (l0.length : Int)) = false := decide_eq_false c13
                clear c13
                simp only [Option.some.injEq, Prod.mk.injEq] at H
                obtain ⟨rfl, rfl, rfl, rfl, rfl⟩ := H
                have hnb57 := NB124_125.out
                have hnc57 := NB125_124.out
                have hcz58_0 : wr.cell? ⟨gb124, 0, none⟩ = some (.bool x125000_3) := (blk_cell BK124.out 0).trans rfl
                have hcz58_1 : wr.cell? ⟨gb124, 1, none⟩ = some (.bool x125001_3) := (blk_cell BK124.out 1).trans rfl
                have hcz58_2 : wr.cell? ⟨gb124, 2, none⟩ = some (.slice none 0 0) := (blk_cell BK124.out 2).trans rfl
                have hfz58_0 := blk_frozen BK124.out 0
                have hfz58_1 := blk_frozen BK124.out 1
                have hfz58_2 := blk_frozen BK124.out 2
                go_wp2
                refine bodyPost_ret (results_ctt rfl _ _ gb124 63 #[.bool false, .bool false, .slice none 0 0] (0, 0) _ rfl (by (with_reducible repeat (first | refine blk_drewN ?_ _ | refine blk_drew ?_ | refine blk_alloc ?_ _)); refine blk_put (cs := #[.bool false, .bool false, .slice none 0 0]) ?_ 2 _ rfl; (with_reducible repeat (first | refine blk_drewN ?_ _ | refine blk_drew ?_ | refine blk_alloc ?_ _)); refine blk_put (cs := #[.bool false, .bool x125001_3, .slice none 0 0]) ?_ 1 _ rfl; (with_reducible repeat (first | refine blk_drewN ?_ _ | refine blk_drew ?_ | refine blk_alloc ?_ _)); refine blk_put (cs := #[.bool x125000_3, .bool x125001_3, .slice none 0 0]) ?_ 0 _ rfl; (with_reducible repeat (first | refine blk_drewN ?_ _ | refine blk_drew ?_ | refine blk_alloc ?_ _)); exact BK124.out) Tryd.underlying63 rfl (by kernel_rfl)) rfl ?_
                exact ⟨_, by first | rfl | (simp [errW_none, errW_some] <;> rfl) | (simp [*, errW_none, errW_some] <;> rfl), by first | exact Kd.R_nil _ _ _ _ _ | exact Kd.N_nil _ _ _ _ _ | exact Kd.V_nil _ _ _ _ _ | exact Kd.Q_nil _ _ _ _ _ | exact Kd.S_nil _ _ _ _ _, by repeat (first | (with_reducible first | exact HB.out | apply below_alloc | apply pw_below_drewN | apply below_drew1 | refine below_set ?_ GE124.out | refine below_set ?_ GE125.out) | exact HB.out)⟩

/-! ### glob_pieces: function 43 -/
def glob_pieces.l0 : Nat → List (S57) → List (S63) → Int → Option ((List (S63)))
  | 0, _, _, _ => none
  | k + 1, x0, x3, x4 => if x4 < (x0.length : Int) then (if 0 ≤ x4 then ((glob_is.f ((rd_T57 x0 x4).f0) ((rd_T57 x0 x4).f1) 42).bind fun t154 => (if t154 = true then (if x3.length < 4398046511104 then (glob_pieces.l0 k x0 (x3 ++ [(⟨true, false, ([] : List (S76))⟩ : S63)]) (wrap64 (x4 + 1))) else (none)) else ((glob_is.f ((rd_T57 x0 x4).f0) ((rd_T57 x0 x4).f1) 63).bind fun t158 => (if t158 = true then (if x3.length < 4398046511104 then (glob_pieces.l0 k x0 (x3 ++ [(⟨false, true, ([] : List (S76))⟩ : S63)]) (wrap64 (x4 + 1))) else (none)) else ((glob_is.f ((rd_T57 x0 x4).f0) ((rd_T57 x0 x4).f1) 91).bind fun t162 => (if t162 = true then (if 0 ≤ (wrap64 (x4 + 1)) then (if (wrap64 (x4 + 1)) ≤ (x0.length : Int) then ((glob_bracket.f k (x0.drop ((wrap64 (x4 + 1)) : Int).toNat)).bind fun bt167 => (if bt167.2.2.2.2 = true then (if x3.length < 4398046511104 then (glob_pieces.l0 k x0 (x3 ++ [(⟨bt167.1, bt167.2.1, bt167.2.2.1⟩ : S63)]) (wrap64 ((wrap64 (x4 + bt167.2.2.2.1)) + 1))) else (none)) else (if x3.length < 4398046511104 then (glob_pieces.l0 k x0 (x3 ++ [(⟨false, false, (([(⟨(rd_T57 x0 x4).f0, (rd_T57 x0 x4).f0⟩ : S76)] : List (S76)))⟩ : S63)]) (wrap64 (x4 + 1))) else (none)))) else (none)) else (none)) else (if x3.length < 4398046511104 then (glob_pieces.l0 k x0 (x3 ++ [(⟨false, false, (([(⟨(rd_T57 x0 x4).f0, (rd_T57 x0 x4).f0⟩ : S76)] : List (S76)))⟩ : S63)]) (wrap64 (x4 + 1))) else (none)))))))) else (none)) else (some x3)
def glob_pieces.f (k : Nat) (l0 : List (S57)) : Option ((List (S63))) := glob_pieces.l0 k l0 ([] : List (S63)) 0
theorem glob_pieces.mono_l : ∀ k, (∀ y0 y1 y2, LeO (glob_pieces.l0 k y0 y1 y2) (glob_pieces.l0 (k + 1) y0 y1 y2))
  | 0 => fun _ _ _ r h => by simp [glob_pieces.l0] at h
  | k + 1 => by
    have ih0 := glob_pieces.mono_l k
    · intro y0 y1 y2
      unfold glob_pieces.l0
      repeat' first
      | (with_reducible exact ih0 _ _ _)
      | (with_reducible exact glob_bracket.mono _ _)
      | (with_reducible exact LeO.refl _)
      | (with_reducible exact LeO.none _)
      | (with_reducible refine LeO.ite ?_ ?_)
      | (with_reducible refine LeO.bind ?_ (fun _ => ?_))
      | exact ih0 _ _ _
      | exact glob_bracket.mono _ _
      | exact LeO.none _
      | refine LeO.ite ?_ ?_
      | refine LeO.bind ?_ (fun _ => ?_)
theorem glob_pieces.mono : ∀ a0 k, LeO (glob_pieces.f k a0) (glob_pieces.f (k + 1) a0) := by
  intro a0 k
  have ih0 := glob_pieces.mono_l k
  unfold glob_pieces.f
  repeat' first
      | (with_reducible exact ih0 _ _ _)
      | (with_reducible exact glob_bracket.mono _ _)
      | (with_reducible exact LeO.refl _)
      | (with_reducible exact LeO.none _)
      | (with_reducible refine LeO.ite ?_ ?_)
      | (with_reducible refine LeO.bind ?_ (fun _ => ?_))
      | exact ih0 _ _ _
      | exact glob_bracket.mono _ _
      | exact LeO.none _
      | refine LeO.ite ?_ ?_
      | refine LeO.bind ?_ (fun _ => ?_)
set_option maxHeartbeats 8000000 in
set_option maxRecDepth 100000 in
theorem glob_pieces.calls (k : Nat) (A0 : Option Addr) (c0 : Nat) (l0 : List (S57)) (r : List (S63)) (w : World) (hr0 : Kd.C k57 w A0 l0.length l0) (hc0 : l0.length ≤ c0) (h : glob_pieces.f k l0 = some r) :
    Calls Tryd.prog 43 #[.slice A0 l0.length c0] w fun e w' => ∃ v0_ : Value, e = .returned (v0_) ∧ Kd.R k63 63 w' w.heap.size (fun _ => True) v0_ r ∧ Below w.heap.size w w' := by
  have hu57 := Tryd.underlying57
  have hu63 := Tryd.underlying63
  have hu76 := Tryd.underlying76
  have HR0 := Aside0.mk hr0
  have HC0 := Aside0.mk hc0
  clear hr0 hc0
  have HB := Aside0.mk (Below.refl w.heap.size w)
  have H : (glob_pieces.l0 k l0 ([] : List (S63)) 0) = some r := h
  clear h
  have H' := Aside0.mk H
  clear H
  go_enter Tryd.func43, Tryd.ntmps43
  go_wp2
  go_loopg [3, 4] k (fun kq v3 v4 w' => ∃ (x3_1 : List (S63)) (x4_1 : Int), v4 = .int .i64 x4_1 ∧ Aside0 (glob_pieces.l0 kq l0 x3_1 x4_1 = some r) ∧ Aside0 (kq ≤ k) ∧ Aside0 (Kd.R k63 63 w' w.heap.size (fun _ => True) v3 x3_1) ∧ Aside0 (Below w.heap.size w w'))
  case atStart => exact ⟨(([] : List (S63))), (0), (by first | rfl | (simp; done) | (simp [*]; done) | (simp; unfold wrap64; omega)), H', ⟨Nat.le_refl _⟩, ⟨by first | exact Kd.R_nil _ _ _ _ _ | exact Kd.N_nil _ _ _ _ _ | exact Kd.V_nil _ _ _ _ _ | exact Kd.Q_nil _ _ _ _ _ | exact Kd.S_nil _ _ _ _ _⟩, ⟨by repeat (first | (with_reducible first | exact HB.out | apply below_alloc | apply pw_below_drewN | apply below_drew1) | exact HB.out)⟩⟩
  case round =>
    clear H'
    obtain ⟨x3_1, x4_1, rfl, HA, HK1, HO_3, HB⟩ := hrel
    cases gk with
    | zero => exact absurd HA.out (by simp [glob_pieces.l0])
    | succ k1 =>
      have H := HA.out
      clear HA
      simp only [glob_pieces.l0] at H
      by_cases c2 : x4_1 < (l0.length : Int)
      · rw [if_pos c2] at H
        have c2b0 : decide (x4_1 < (l0.length : Int)) = true := decide_eq_true c2
        clear c2
        by_cases c3 : 0 ≤ x4_1
        · rw [if_pos c3] at H
          have c3b0 : decide (0 ≤ x4_1) = true := decide_eq_true c3
          clear c3
          replace H := Option.bind_eq_some_iff.mp H
          obtain ⟨t154, A40, H⟩ := H
          replace H : (if t154 = true then (if x3_1.length < 4398046511104 then (glob_pieces.l0 k1 l0 (x3_1 ++ [(⟨true, false, ([] : List (S76))⟩ : S63)]) (wrap64 (x4_1 + 1))) else (none)) else ((glob_is.f ((rd_T57 l0 x4_1).f0) ((rd_T57 l0 x4_1).f1) 63).bind fun t158 => (if t158 = true then (if x3_1.length < 4398046511104 then (glob_pieces.l0 k1 l0 (x3_1 ++ [(⟨false, true, ([] : List (S76))⟩ : S63)]) (wrap64 (x4_1 + 1))) else (none)) else ((glob_is.f ((rd_T57 l0 x4_1).f0) ((rd_T57 l0 x4_1).f1) 91).bind fun t162 => (if t162 = true then (if 0 ≤ (wrap64 (x4_1 + 1)) then (if (wrap64 (x4_1 + 1)) ≤ (l0.length : Int) then ((glob_bracket.f k1 (l0.drop ((wrap64 (x4_1 + 1)) : Int).toNat)).bind fun bt167 => (if bt167.2.2.2.2 = true then (if x3_1.length < 4398046511104 then (glob_pieces.l0 k1 l0 (x3_1 ++ [(⟨bt167.1, bt167.2.1, bt167.2.2.1⟩ : S63)]) (wrap64 ((wrap64 (x4_1 + bt167.2.2.2.1)) + 1))) else (none)) else (if x3_1.length < 4398046511104 then (glob_pieces.l0 k1 l0 (x3_1 ++ [(⟨false, false, (([(⟨(rd_T57 l0 x4_1).f0, (rd_T57 l0 x4_1).f0⟩ : S76)] : List (S76)))⟩ : S63)]) (wrap64 (x4_1 + 1))) else (none)))) else (none)) else (none)) else (if x3_1.length < 4398046511104 then (glob_pieces.l0 k1 l0 (x3_1 ++ [(⟨false, false, (([(⟨(rd_T57 l0 x4_1).f0, (rd_T57 l0 x4_1).f0⟩ : S76)] : List (S76)))⟩ : S63)]) (wrap64 (x4_1 + 1))) else (none))))))) = some r := H
          have A4 := Aside0.mk A40
          clear A40
          by_cases c5 : t154 = true
          · subst c5
            have H1 : (if x3_1.length < 4398046511104 then (glob_pieces.l0 k1 l0 (x3_1 ++ [(⟨true, false, ([] : List (S76))⟩ : S63)]) (wrap64 (x4_1 + 1))) else (none)) = some r := by rw [if_pos rfl] at H; exact H
            clear H
            have H := H1
            clear H1
            by_cases c6 : x3_1.length < 4398046511104
            · rw [if_pos c6] at H
              have LMc6 := Aside0.mk c6
              clear c6
              obtain ⟨y155, hy155⟩ : ∃ y_ : List (S63), y_ = (x3_1 ++ [(⟨true, false, ([] : List (S76))⟩ : S63)]) := ⟨_, rfl⟩
              replace H : (glob_pieces.l0 k1 l0 y155 (wrap64 (x4_1 + 1))) = some r := by first | (rw [hy155]; with_reducible exact H) | (have H2_ := (Option.bind_some _ _).symm.trans H; rw [hy155]; with_reducible exact H2_) | (have H2_ := (Option.bind_some _ _).symm.trans H; with_reducible exact H2_) | with_reducible exact H | (rw [hy155]; exact H) | exact H
              have Ny155 := Aside0.mk hy155
              clear hy155
              have H' := Aside0.mk H
              clear H
              have p152 : 0 ≤ (x4_1 : Int) := of_decide_eq_true (by first | (with_reducible assumption) | assumption)
              have q152 : x4_1 < (l0.length : Int) := of_decide_eq_true (by first | (with_reducible assumption) | assumption)
              obtain ⟨ad152, e152, hx152_0, hx152_1⟩ := at_T57 HR0.out x4_1 p152 q152
              cases e152
              replace hx152_0 := (HB.out.cell (World.block_lt_of_cell? w _ hx152_0)).trans hx152_0
              replace hx152_1 := (HB.out.cell (World.block_lt_of_cell? w _ hx152_1)).trans hx152_1
              replace p152 := eq_true p152
              replace q152 := eq_true q152
              go_wp2_with (first | ((with_reducible refine gate_dst (N := 5) rfl ?_); refine box_event ?hg (N := 5) ?hd (cs := #[.int .i32 0, .bool false]) (t := 57) ?hr ?_; (case hd => rfl); (case hg => rfl); (case hr => first | (go_simp; done) | (go_simp; rfl)); intro gb153 hg w7 hbox hb; have n0_ := Aside0.mk (Kd.R_below (by (with_reducible repeat (first | apply Kd.R_alloc | apply Kd.R_drewN | apply Kd.R_drew)); exact HO_3.out) hb); have n1_ := Aside0.mk (below_step (by repeat (first | (with_reducible first | exact HB.out | apply below_alloc | apply pw_below_drewN | apply below_drew1) | exact HB.out)) hb); have n2_ := Aside0.mk (hbox); have n3_ := Aside0.mk ((by rw [hg]; exact (below_size (by repeat (first | (with_reducible first | exact HB.out | apply below_alloc | apply pw_below_drewN | apply below_drew1) | exact HB.out))) : w.heap.size ≤ gb153)); have n4_ := Aside0.mk ((by rw [hg]; exact (below_size (by repeat (first | (with_reducible first | exact HB.out | apply below_alloc | apply pw_below_drewN | apply below_drew1) | exact HB.out))) : w.heap.size ≤ gb153)); clear HO_3; clear HB; have HO_3 := n0_; have HB := n1_; have BK153 := n2_; have GW153 := n3_; have GE153 := n4_; clear n0_ n1_ n2_ n3_ n4_; clear hb hbox hg; have hcz8_0 : w7.cell? ⟨gb153, 0, none⟩ = some (.int .i32 0) := (blk_cell BK153.out 0).trans rfl; have hcz8_1 : w7.cell? ⟨gb153, 1, none⟩ = some (.bool false) := (blk_cell BK153.out 1).trans rfl; have hfz8_0 := blk_frozen BK153.out 0; have hfz8_1 := blk_frozen BK153.out 1) | ((with_reducible refine gate_callee (f := 47) rfl ?_); refine goesL_ (some 21) rfl rfl Tryd.func47 (by kernel_rfl) rfl #[.agg #[.int .i32 ((rd_T57 l0 x4_1).f0), .bool ((rd_T57 l0 x4_1).f1)], .int .i32 42] rfl (by (try simp only [List.map_toArray, List.map_cons, List.map_nil]); first | done | rfl | (simp only [List.length_drop, List.length_take]; rfl)) ?_; (with_reducible refine (glob_is.calls ((rd_T57 l0 x4_1).f0) ((rd_T57 l0 x4_1).f1) 42 true _ A4.out).mono ?_); rintro e w9 ⟨rfl, hb⟩; refine ⟨_, rfl, ?_⟩; have n0_ := Aside0.mk (Kd.R_below (by (with_reducible repeat (first | apply Kd.R_alloc | apply Kd.R_drewN | apply Kd.R_drew)); exact (Kd.R_mono (Kd.R_far (p := ⟨gb153, 1, none⟩) (Kd.R_far (p := ⟨gb153, 0, none⟩) (Kd.R_types HO_3.out BK153.out (by decide)) (fun _ hk => hk.2) (.int .i32 ((rd_T57 l0 x4_1).f0))) (fun _ hk => hk.2) (.bool ((rd_T57 l0 x4_1).f1))) (fun _ h_ => h_.1))) hb); have n1_ := Aside0.mk (blk_below (g := gb153) (o := .cells #[.int .i32 ((rd_T57 l0 x4_1).f0), .bool ((rd_T57 l0 x4_1).f1)] 57 (0, 0)) (by (with_reducible repeat (first | refine blk_drewN ?_ _ | refine blk_drew ?_ | refine blk_alloc ?_ _)); refine blk_put (cs := #[.int .i32 ((rd_T57 l0 x4_1).f0), .bool false]) ?_ 1 _ rfl; (with_reducible repeat (first | refine blk_drewN ?_ _ | refine blk_drew ?_ | refine blk_alloc ?_ _)); refine blk_put (cs := #[.int .i32 0, .bool false]) ?_ 0 _ rfl; (with_reducible repeat (first | refine blk_drewN ?_ _ | refine blk_drew ?_ | refine blk_alloc ?_ _)); exact BK153.out) hb); have n2_ := Aside0.mk (below_step (by repeat (first | (with_reducible first | exact HB.out | apply below_alloc | apply pw_below_drewN | apply below_drew1 | refine below_set ?_ GE153.out) | exact HB.out)) hb); clear HO_3; clear BK153; clear HB; have HO_3 := n0_; have BK153 := n1_; have HB := n2_; clear n0_ n1_ n2_; (try clear hb); (try clear hb2); (try clear hk); (try clear hi)) | ((with_reducible refine gate_builtin (b := .append) (xs := #[.tmp 22, .tmp 24]) rfl ?_); at_builtin; refine Kd.R_append k63 (w0 := w) w.heap.size rfl (.tmp 22) (.tmp 24) 59 63 (.agg #[(.bool false), (.bool false), (.slice none 0 0)]) 32 rfl Tryd.underlying59 info63 rfl (by decide) (by omega) u3 x3_1 (⟨true, false, ([] : List (S76))⟩ : S63) [.bool true, .bool false, .slice none 0 0] (fun _ => True) (fun k_ => ((fun _ => True)) k_ ∧ some k_ ≠ (u3 : Value).ownBlock) rfl rfl ?aP (fun _ hk => hk) ?aF ?aO ?aB ?aS ?aL ?_; (case aP => exact k63_mkM _ _ _ (⟨true, false, ([] : List (S76))⟩ : S63) (Kd.R_nil _ _ _ _ _)); (case aB => exact (by repeat (first | (with_reducible first | exact HB.out | apply below_alloc | apply pw_below_drewN | apply below_drew1 | refine below_set ?_ GE153.out) | exact HB.out))); (case aF => exact (fun _ _ => trivial)); (case aO => exact (by (with_reducible repeat (first | apply Kd.R_alloc | apply Kd.R_drewN | apply Kd.R_drew)); exact HO_3.out)); (case aS => exact (below_size (by repeat (first | (with_reducible first | exact HB.out | apply below_alloc | apply pw_below_drewN | apply below_drew1 | refine below_set ?_ GE153.out) | exact HB.out)))); (case aL => have := LMc6.out; omega); intro v156 w10 ho hb hg hat; rw [← Ny155.out] at ho; have n0_ := Aside0.mk (blk_grown (g := gb153) (o := .cells #[.int .i32 ((rd_T57 l0 x4_1).f0), .bool ((rd_T57 l0 x4_1).f1)] 57 (0, 0)) (by (with_reducible repeat (first | refine blk_drewN ?_ _ | refine blk_drew ?_ | refine blk_alloc ?_ _)); exact BK153.out) hg (Kd.R_ne HO_3.out BK153.out (by decide))); have n1_ := Aside0.mk (hb); have n2_ := Aside0.mk (ho); clear BK153; clear HB; clear HO_3; have BK153 := n0_; have HB := n1_; have HO157 := n2_; clear n0_ n1_ n2_; clear ho hb hg hat))
              go_roundg k1
              case measure => have := HK1.out; omega
              case rel => exact ⟨(y155), (wrap64 (x4_1 + 1)), (by first | rfl | (simp; done) | (simp [*]; done) | (simp; unfold wrap64; omega)), H', ⟨by have := HK1.out; omega⟩, ⟨by (with_reducible repeat (first | apply Kd.R_alloc | apply Kd.R_drewN | apply Kd.R_drew)); exact HO157.out⟩, ⟨by repeat (first | (with_reducible first | exact HB.out | apply below_alloc | apply pw_below_drewN | apply below_drew1 | refine below_set ?_ GE153.out) | exact HB.out)⟩⟩
            · rw [if_neg c6] at H
              exact absurd H (by simp)
          · replace c5 := Bool.eq_false_iff.mpr c5
            subst c5
            have H1 : ((glob_is.f ((rd_T57 l0 x4_1).f0) ((rd_T57 l0 x4_1).f1) 63).bind fun t158 => (if t158 = true then (if x3_1.length < 4398046511104 then (glob_pieces.l0 k1 l0 (x3_1 ++ [(⟨false, true, ([] : List (S76))⟩ : S63)]) (wrap64 (x4_1 + 1))) else (none)) else ((glob_is.f ((rd_T57 l0 x4_1).f0) ((rd_T57 l0 x4_1).f1) 91).bind fun t162 => (if t162 = true then (if 0 ≤ (wrap64 (x4_1 + 1)) then (if (wrap64 (x4_1 + 1)) ≤ (l0.length : Int) then ((glob_bracket.f k1 (l0.drop ((wrap64 (x4_1 + 1)) : Int).toNat)).bind fun bt167 => (if bt167.2.2.2.2 = true then (if x3_1.length < 4398046511104 then (glob_pieces.l0 k1 l0 (x3_1 ++ [(⟨bt167.1, bt167.2.1, bt167.2.2.1⟩ : S63)]) (wrap64 ((wrap64 (x4_1 + bt167.2.2.2.1)) + 1))) else (none)) else (if x3_1.length < 4398046511104 then (glob_pieces.l0 k1 l0 (x3_1 ++ [(⟨false, false, (([(⟨(rd_T57 l0 x4_1).f0, (rd_T57 l0 x4_1).f0⟩ : S76)] : List (S76)))⟩ : S63)]) (wrap64 (x4_1 + 1))) else (none)))) else (none)) else (none)) else (if x3_1.length < 4398046511104 then (glob_pieces.l0 k1 l0 (x3_1 ++ [(⟨false, false, (([(⟨(rd_T57 l0 x4_1).f0, (rd_T57 l0 x4_1).f0⟩ : S76)] : List (S76)))⟩ : S63)]) (wrap64 (x4_1 + 1))) else (none)))))) = some r := by rw [if_neg (show ¬ (false = true) by decide)] at H; exact H
            clear H
            have H := H1
            clear H1
            replace H := Option.bind_eq_some_iff.mp H
            obtain ⟨t158, A110, H⟩ := H
            replace H : (if t158 = true then (if x3_1.length < 4398046511104 then (glob_pieces.l0 k1 l0 (x3_1 ++ [(⟨false, true, ([] : List (S76))⟩ : S63)]) (wrap64 (x4_1 + 1))) else (none)) else ((glob_is.f ((rd_T57 l0 x4_1).f0) ((rd_T57 l0 x4_1).f1) 91).bind fun t162 => (if t162 = true then (if 0 ≤ (wrap64 (x4_1 + 1)) then (if (wrap64 (x4_1 + 1)) ≤ (l0.length : Int) then ((glob_bracket.f k1 (l0.drop ((wrap64 (x4_1 + 1)) : Int).toNat)).bind fun bt167 => (if bt167.2.2.2.2 = true then (if x3_1.length < 4398046511104 then (glob_pieces.l0 k1 l0 (x3_1 ++ [(⟨bt167.1, bt167.2.1, bt167.2.2.1⟩ : S63)]) (wrap64 ((wrap64 (x4_1 + bt167.2.2.2.1)) + 1))) else (none)) else (if x3_1.length < 4398046511104 then (glob_pieces.l0 k1 l0 (x3_1 ++ [(⟨false, false, (([(⟨(rd_T57 l0 x4_1).f0, (rd_T57 l0 x4_1).f0⟩ : S76)] : List (S76)))⟩ : S63)]) (wrap64 (x4_1 + 1))) else (none)))) else (none)) else (none)) else (if x3_1.length < 4398046511104 then (glob_pieces.l0 k1 l0 (x3_1 ++ [(⟨false, false, (([(⟨(rd_T57 l0 x4_1).f0, (rd_T57 l0 x4_1).f0⟩ : S76)] : List (S76)))⟩ : S63)]) (wrap64 (x4_1 + 1))) else (none))))) = some r := H
            have A11 := Aside0.mk A110
            clear A110
            by_cases c12 : t158 = true
            · subst c12
              have H1 : (if x3_1.length < 4398046511104 then (glob_pieces.l0 k1 l0 (x3_1 ++ [(⟨false, true, ([] : List (S76))⟩ : S63)]) (wrap64 (x4_1 + 1))) else (none)) = some r := by rw [if_pos rfl] at H; exact H
              clear H
              have H := H1
              clear H1
              by_cases c13 : x3_1.length < 4398046511104
              · rw [if_pos c13] at H
                have LMc13 := Aside0.mk c13
                clear c13
                obtain ⟨y159, hy159⟩ : ∃ y_ : List (S63), y_ = (x3_1 ++ [(⟨false, true, ([] : List (S76))⟩ : S63)]) := ⟨_, rfl⟩
                replace H : (glob_pieces.l0 k1 l0 y159 (wrap64 (x4_1 + 1))) = some r := by first | (rw [hy159]; with_reducible exact H) | (have H2_ := (Option.bind_some _ _).symm.trans H; rw [hy159]; with_reducible exact H2_) | (have H2_ := (Option.bind_some _ _).symm.trans H; with_reducible exact H2_) | with_reducible exact H | (rw [hy159]; exact H) | exact H
                have Ny159 := Aside0.mk hy159
                clear hy159
                have H' := Aside0.mk H
                clear H
                have p152 : 0 ≤ (x4_1 : Int) := of_decide_eq_true (by first | (with_reducible assumption) | assumption)
                have q152 : x4_1 < (l0.length : Int) := of_decide_eq_true (by first | (with_reducible assumption) | assumption)
                obtain ⟨ad152, e152, hx152_0, hx152_1⟩ := at_T57 HR0.out x4_1 p152 q152
                cases e152
                replace hx152_0 := (HB.out.cell (World.block_lt_of_cell? w _ hx152_0)).trans hx152_0
                replace hx152_1 := (HB.out.cell (World.block_lt_of_cell? w _ hx152_1)).trans hx152_1
                replace p152 := eq_true p152
                replace q152 := eq_true q152
                go_wp2_with (first | ((with_reducible refine gate_dst (N := 5) rfl ?_); refine box_event ?hg (N := 5) ?hd (cs := #[.int .i32 0, .bool false]) (t := 57) ?hr ?_; (case hd => rfl); (case hg => rfl); (case hr => first | (go_simp; done) | (go_simp; rfl)); intro gb153 hg w14 hbox hb; have n0_ := Aside0.mk (Kd.R_below (by (with_reducible repeat (first | apply Kd.R_alloc | apply Kd.R_drewN | apply Kd.R_drew)); exact HO_3.out) hb); have n1_ := Aside0.mk (below_step (by repeat (first | (with_reducible first | exact HB.out | apply below_alloc | apply pw_below_drewN | apply below_drew1) | exact HB.out)) hb); have n2_ := Aside0.mk (hbox); have n3_ := Aside0.mk ((by rw [hg]; exact (below_size (by repeat (first | (with_reducible first | exact HB.out | apply below_alloc | apply pw_below_drewN | apply below_drew1) | exact HB.out))) : w.heap.size ≤ gb153)); have n4_ := Aside0.mk ((by rw [hg]; exact (below_size (by repeat (first | (with_reducible first | exact HB.out | apply below_alloc | apply pw_below_drewN | apply below_drew1) | exact HB.out))) : w.heap.size ≤ gb153)); clear HO_3; clear HB; have HO_3 := n0_; have HB := n1_; have BK153 := n2_; have GW153 := n3_; have GE153 := n4_; clear n0_ n1_ n2_ n3_ n4_; clear hb hbox hg; have hcz15_0 : w14.cell? ⟨gb153, 0, none⟩ = some (.int .i32 0) := (blk_cell BK153.out 0).trans rfl; have hcz15_1 : w14.cell? ⟨gb153, 1, none⟩ = some (.bool false) := (blk_cell BK153.out 1).trans rfl; have hfz15_0 := blk_frozen BK153.out 0; have hfz15_1 := blk_frozen BK153.out 1) | ((with_reducible refine gate_callee (f := 47) rfl ?_); refine goesL_ (some 21) rfl rfl Tryd.func47 (by kernel_rfl) rfl #[.agg #[.int .i32 ((rd_T57 l0 x4_1).f0), .bool ((rd_T57 l0 x4_1).f1)], .int .i32 42] rfl (by (try simp only [List.map_toArray, List.map_cons, List.map_nil]); first | done | rfl | (simp only [List.length_drop, List.length_take]; rfl)) ?_; (with_reducible refine (glob_is.calls ((rd_T57 l0 x4_1).f0) ((rd_T57 l0 x4_1).f1) 42 false _ A4.out).mono ?_); rintro e w16 ⟨rfl, hb⟩; refine ⟨_, rfl, ?_⟩; have n0_ := Aside0.mk (Kd.R_below (by (with_reducible repeat (first | apply Kd.R_alloc | apply Kd.R_drewN | apply Kd.R_drew)); exact (Kd.R_mono (Kd.R_far (p := ⟨gb153, 1, none⟩) (Kd.R_far (p := ⟨gb153, 0, none⟩) (Kd.R_types HO_3.out BK153.out (by decide)) (fun _ hk => hk.2) (.int .i32 ((rd_T57 l0 x4_1).f0))) (fun _ hk => hk.2) (.bool ((rd_T57 l0 x4_1).f1))) (fun _ h_ => h_.1))) hb); have n1_ := Aside0.mk (blk_below (g := gb153) (o := .cells #[.int .i32 ((rd_T57 l0 x4_1).f0), .bool ((rd_T57 l0 x4_1).f1)] 57 (0, 0)) (by (with_reducible repeat (first | refine blk_drewN ?_ _ | refine blk_drew ?_ | refine blk_alloc ?_ _)); refine blk_put (cs := #[.int .i32 ((rd_T57 l0 x4_1).f0), .bool false]) ?_ 1 _ rfl; (with_reducible repeat (first | refine blk_drewN ?_ _ | refine blk_drew ?_ | refine blk_alloc ?_ _)); refine blk_put (cs := #[.int .i32 0, .bool false]) ?_ 0 _ rfl; (with_reducible repeat (first | refine blk_drewN ?_ _ | refine blk_drew ?_ | refine blk_alloc ?_ _)); exact BK153.out) hb); have n2_ := Aside0.mk (below_step (by repeat (first | (with_reducible first | exact HB.out | apply below_alloc | apply pw_below_drewN | apply below_drew1 | refine below_set ?_ GE153.out) | exact HB.out)) hb); clear HO_3; clear BK153; clear HB; have HO_3 := n0_; have BK153 := n1_; have HB := n2_; clear n0_ n1_ n2_; (try clear hb); (try clear hb2); (try clear hk); (try clear hi); have hcz17_0 : w16.cell? ⟨gb153, 0, none⟩ = some (.int .i32 ((rd_T57 l0 x4_1).f0)) := (blk_cell BK153.out 0).trans rfl; have hcz17_1 : w16.cell? ⟨gb153, 1, none⟩ = some (.bool ((rd_T57 l0 x4_1).f1)) := (blk_cell BK153.out 1).trans rfl; have hfz17_0 := blk_frozen BK153.out 0; have hfz17_1 := blk_frozen BK153.out 1) | ((with_reducible refine gate_callee (f := 47) rfl ?_); refine goesL_ (some 28) rfl rfl Tryd.func47 (by kernel_rfl) rfl #[.agg #[.int .i32 ((rd_T57 l0 x4_1).f0), .bool ((rd_T57 l0 x4_1).f1)], .int .i32 63] rfl (by (try simp only [List.map_toArray, List.map_cons, List.map_nil]); first | done | rfl | (simp only [List.length_drop, List.length_take]; rfl)) ?_; (with_reducible refine (glob_is.calls ((rd_T57 l0 x4_1).f0) ((rd_T57 l0 x4_1).f1) 63 true _ A11.out).mono ?_); rintro e w18 ⟨rfl, hb⟩; refine ⟨_, rfl, ?_⟩; have n0_ := Aside0.mk (Kd.R_below (by (with_reducible repeat (first | apply Kd.R_alloc | apply Kd.R_drewN | apply Kd.R_drew)); exact HO_3.out) hb); have n1_ := Aside0.mk (blk_below (g := gb153) (o := .cells #[.int .i32 ((rd_T57 l0 x4_1).f0), .bool ((rd_T57 l0 x4_1).f1)] 57 (0, 0)) (by (with_reducible repeat (first | refine blk_drewN ?_ _ | refine blk_drew ?_ | refine blk_alloc ?_ _)); exact BK153.out) hb); have n2_ := Aside0.mk (below_step (by repeat (first | (with_reducible first | exact HB.out | apply below_alloc | apply pw_below_drewN | apply below_drew1 | refine below_set ?_ GE153.out) | exact HB.out)) hb); clear HO_3; clear BK153; clear HB; have HO_3 := n0_; have BK153 := n1_; have HB := n2_; clear n0_ n1_ n2_; (try clear hb); (try clear hb2); (try clear hk); (try clear hi)) | ((with_reducible refine gate_builtin (b := .append) (xs := #[.tmp 29, .tmp 31]) rfl ?_); at_builtin; refine Kd.R_append k63 (w0 := w) w.heap.size rfl (.tmp 29) (.tmp 31) 59 63 (.agg #[(.bool false), (.bool false), (.slice none 0 0)]) 32 rfl Tryd.underlying59 info63 rfl (by decide) (by omega) u3 x3_1 (⟨false, true, ([] : List (S76))⟩ : S63) [.bool false, .bool true, .slice none 0 0] (fun _ => True) (fun k_ => ((fun _ => True)) k_ ∧ some k_ ≠ (u3 : Value).ownBlock) rfl rfl ?aP (fun _ hk => hk) ?aF ?aO ?aB ?aS ?aL ?_; (case aP => exact k63_mkM _ _ _ (⟨false, true, ([] : List (S76))⟩ : S63) (Kd.R_nil _ _ _ _ _)); (case aB => exact (by repeat (first | (with_reducible first | exact HB.out | apply below_alloc | apply pw_below_drewN | apply below_drew1 | refine below_set ?_ GE153.out) | exact HB.out))); (case aF => exact (fun _ _ => trivial)); (case aO => exact (by (with_reducible repeat (first | apply Kd.R_alloc | apply Kd.R_drewN | apply Kd.R_drew)); exact HO_3.out)); (case aS => exact (below_size (by repeat (first | (with_reducible first | exact HB.out | apply below_alloc | apply pw_below_drewN | apply below_drew1 | refine below_set ?_ GE153.out) | exact HB.out)))); (case aL => have := LMc13.out; omega); intro v160 w19 ho hb hg hat; rw [← Ny159.out] at ho; have n0_ := Aside0.mk (blk_grown (g := gb153) (o := .cells #[.int .i32 ((rd_T57 l0 x4_1).f0), .bool ((rd_T57 l0 x4_1).f1)] 57 (0, 0)) (by (with_reducible repeat (first | refine blk_drewN ?_ _ | refine blk_drew ?_ | refine blk_alloc ?_ _)); exact BK153.out) hg (Kd.R_ne HO_3.out BK153.out (by decide))); have n1_ := Aside0.mk (hb); have n2_ := Aside0.mk (ho); clear BK153; clear HB; clear HO_3; have BK153 := n0_; have HB := n1_; have HO161 := n2_; clear n0_ n1_ n2_; clear ho hb hg hat))
                go_roundg k1
                case measure => have := HK1.out; omega
                case rel => exact ⟨(y159), (wrap64 (x4_1 + 1)), (by first | rfl | (simp; done) | (simp [*]; done) | (simp; unfold wrap64; omega)), H', ⟨by have := HK1.out; omega⟩, ⟨by (with_reducible repeat (first | apply Kd.R_alloc | apply Kd.R_drewN | apply Kd.R_drew)); exact HO161.out⟩, ⟨by repeat (first | (with_reducible first | exact HB.out | apply below_alloc | apply pw_below_drewN | apply below_drew1 | refine below_set ?_ GE153.out) | exact HB.out)⟩⟩
              · rw [if_neg c13] at H
                exact absurd H (by simp)
            · replace c12 := Bool.eq_false_iff.mpr c12
              subst c12
              have H1 : ((glob_is.f ((rd_T57 l0 x4_1).f0) ((rd_T57 l0 x4_1).f1) 91).bind fun t162 => (if t162 = true then (if 0 ≤ (wrap64 (x4_1 + 1)) then (if (wrap64 (x4_1 + 1)) ≤ (l0.length : Int) then ((glob_bracket.f k1 (l0.drop ((wrap64 (x4_1 + 1)) : Int).toNat)).bind fun bt167 => (if bt167.2.2.2.2 = true then (if x3_1.length < 4398046511104 then (glob_pieces.l0 k1 l0 (x3_1 ++ [(⟨bt167.1, bt167.2.1, bt167.2.2.1⟩ : S63)]) (wrap64 ((wrap64 (x4_1 + bt167.2.2.2.1)) + 1))) else (none)) else (if x3_1.length < 4398046511104 then (glob_pieces.l0 k1 l0 (x3_1 ++ [(⟨false, false, (([(⟨(rd_T57 l0 x4_1).f0, (rd_T57 l0 x4_1).f0⟩ : S76)] : List (S76)))⟩ : S63)]) (wrap64 (x4_1 + 1))) else (none)))) else (none)) else (none)) else (if x3_1.length < 4398046511104 then (glob_pieces.l0 k1 l0 (x3_1 ++ [(⟨false, false, (([(⟨(rd_T57 l0 x4_1).f0, (rd_T57 l0 x4_1).f0⟩ : S76)] : List (S76)))⟩ : S63)]) (wrap64 (x4_1 + 1))) else (none)))) = some r := by rw [if_neg (show ¬ (false = true) by decide)] at H; exact H
              clear H
              have H := H1
              clear H1
              replace H := Option.bind_eq_some_iff.mp H
              obtain ⟨t162, A200, H⟩ := H
              replace H : (if t162 = true then (if 0 ≤ (wrap64 (x4_1 + 1)) then (if (wrap64 (x4_1 + 1)) ≤ (l0.length : Int) then ((glob_bracket.f k1 (l0.drop ((wrap64 (x4_1 + 1)) : Int).toNat)).bind fun bt167 => (if bt167.2.2.2.2 = true then (if x3_1.length < 4398046511104 then (glob_pieces.l0 k1 l0 (x3_1 ++ [(⟨bt167.1, bt167.2.1, bt167.2.2.1⟩ : S63)]) (wrap64 ((wrap64 (x4_1 + bt167.2.2.2.1)) + 1))) else (none)) else (if x3_1.length < 4398046511104 then (glob_pieces.l0 k1 l0 (x3_1 ++ [(⟨false, false, (([(⟨(rd_T57 l0 x4_1).f0, (rd_T57 l0 x4_1).f0⟩ : S76)] : List (S76)))⟩ : S63)]) (wrap64 (x4_1 + 1))) else (none)))) else (none)) else (none)) else (if x3_1.length < 4398046511104 then (glob_pieces.l0 k1 l0 (x3_1 ++ [(⟨false, false, (([(⟨(rd_T57 l0 x4_1).f0, (rd_T57 l0 x4_1).f0⟩ : S76)] : List (S76)))⟩ : S63)]) (wrap64 (x4_1 + 1))) else (none))) = some r := H
              have A20 := Aside0.mk A200
              clear A200
              by_cases c21 : t162 = true
              · subst c21
                have H1 : (if 0 ≤ (wrap64 (x4_1 + 1)) then (if (wrap64 (x4_1 + 1)) ≤ (l0.length : Int) then ((glob_bracket.f k1 (l0.drop ((wrap64 (x4_1 + 1)) : Int).toNat)).bind fun bt167 => (if bt167.2.2.2.2 = true then (if x3_1.length < 4398046511104 then (glob_pieces.l0 k1 l0 (x3_1 ++ [(⟨bt167.1, bt167.2.1, bt167.2.2.1⟩ : S63)]) (wrap64 ((wrap64 (x4_1 + bt167.2.2.2.1)) + 1))) else (none)) else (if x3_1.length < 4398046511104 then (glob_pieces.l0 k1 l0 (x3_1 ++ [(⟨false, false, (([(⟨(rd_T57 l0 x4_1).f0, (rd_T57 l0 x4_1).f0⟩ : S76)] : List (S76)))⟩ : S63)]) (wrap64 (x4_1 + 1))) else (none)))) else (none)) else (none)) = some r := by rw [if_pos rfl] at H; exact H
                clear H
                have H := H1
                clear H1
                obtain ⟨ji22, hji22⟩ : ∃ j_ : Int, (wrap64 (x4_1 + 1)) = j_ := ⟨_, rfl⟩
                replace H : (if 0 ≤ (ji22) then (if (ji22) ≤ (l0.length : Int) then ((glob_bracket.f k1 (l0.drop ((ji22) : Int).toNat)).bind fun bt167 => (if bt167.2.2.2.2 = true then (if x3_1.length < 4398046511104 then (glob_pieces.l0 k1 l0 (x3_1 ++ [(⟨bt167.1, bt167.2.1, bt167.2.2.1⟩ : S63)]) (wrap64 ((wrap64 (x4_1 + bt167.2.2.2.1)) + 1))) else (none)) else (if x3_1.length < 4398046511104 then (glob_pieces.l0 k1 l0 (x3_1 ++ [(⟨false, false, (([(⟨(rd_T57 l0 x4_1).f0, (rd_T57 l0 x4_1).f0⟩ : S76)] : List (S76)))⟩ : S63)]) ji22) else (none)))) else (none)) else (none)) = some r := by first | (rw [hji22] at H; exact H) | (simp only [hji22] at H ⊢; exact H)
                (try rw [hji22] at A4)
                (try rw [hji22] at A11)
                (try rw [hji22] at A20)
                have hji22w : (IntKind.i64.wrap (x4_1 + 1)) = ji22 := (i64_w _).trans hji22
                by_cases c23 : 0 ≤ (ji22)
                · rw [if_pos c23] at H
                  have c23b0 := eq_true c23
                  have c23b1 : decide (0 ≤ (ji22)) = true := decide_eq_true c23
                  clear c23
                  by_cases c24 : (ji22) ≤ (l0.length : Int)
                  · rw [if_pos c24] at H
                    have c24b0 := eq_true c24
                    have c24b1 : decide ((ji22) ≤ (l0.length : Int)) = true := decide_eq_true c24
                    clear c24
                    obtain ⟨y163, hy163⟩ : ∃ y_ : List (S57), y_ = (l0.drop ((ji22) : Int).toNat) := ⟨_, rfl⟩
                    replace H : ((glob_bracket.f k1 y163).bind fun bt167 => (if bt167.2.2.2.2 = true then (if x3_1.length < 4398046511104 then (glob_pieces.l0 k1 l0 (x3_1 ++ [(⟨bt167.1, bt167.2.1, bt167.2.2.1⟩ : S63)]) (wrap64 ((wrap64 (x4_1 + bt167.2.2.2.1)) + 1))) else (none)) else (if x3_1.length < 4398046511104 then (glob_pieces.l0 k1 l0 (x3_1 ++ [(⟨false, false, (([(⟨(rd_T57 l0 x4_1).f0, (rd_T57 l0 x4_1).f0⟩ : S76)] : List (S76)))⟩ : S63)]) ji22) else (none)))) = some r := by first | (rw [hy163]; with_reducible exact H) | (have H2_ := (Option.bind_some _ _).symm.trans H; rw [hy163]; with_reducible exact H2_) | (have H2_ := (Option.bind_some _ _).symm.trans H; with_reducible exact H2_) | with_reducible exact H | (rw [hy163]; exact H) | exact H
                    have Ny163 := Aside0.mk hy163
                    clear hy163
                    replace H := Option.bind_eq_some_iff.mp H
                    obtain ⟨⟨t167, t168, t169, t172, t173⟩, A250, H⟩ := H
                    replace H : (if t173 = true then (if x3_1.length < 4398046511104 then (glob_pieces.l0 k1 l0 (x3_1 ++ [(⟨t167, t168, t169⟩ : S63)]) (wrap64 ((wrap64 (x4_1 + t172)) + 1))) else (none)) else (if x3_1.length < 4398046511104 then (glob_pieces.l0 k1 l0 (x3_1 ++ [(⟨false, false, (([(⟨(rd_T57 l0 x4_1).f0, (rd_T57 l0 x4_1).f0⟩ : S76)] : List (S76)))⟩ : S63)]) ji22) else (none))) = some r := H
                    have A25 := Aside0.mk A250
                    clear A250
                    by_cases c26 : t173 = true
                    · subst c26
                      have H1 : (if x3_1.length < 4398046511104 then (glob_pieces.l0 k1 l0 (x3_1 ++ [(⟨t167, t168, t169⟩ : S63)]) (wrap64 ((wrap64 (x4_1 + t172)) + 1))) else (none)) = some r := by rw [if_pos rfl] at H; exact H
                      clear H
                      have H := H1
                      clear H1
                      by_cases c27 : x3_1.length < 4398046511104
                      · rw [if_pos c27] at H
                        have LMc27 := Aside0.mk c27
                        clear c27
                        obtain ⟨y175, hy175⟩ : ∃ y_ : List (S63), y_ = (x3_1 ++ [(⟨t167, t168, t169⟩ : S63)]) := ⟨_, rfl⟩
                        replace H : (glob_pieces.l0 k1 l0 y175 (wrap64 ((wrap64 (x4_1 + t172)) + 1))) = some r := by first | (rw [hy175]; with_reducible exact H) | (have H2_ := (Option.bind_some _ _).symm.trans H; rw [hy175]; with_reducible exact H2_) | (have H2_ := (Option.bind_some _ _).symm.trans H; with_reducible exact H2_) | with_reducible exact H | (rw [hy175]; exact H) | exact H
                        have Ny175 := Aside0.mk hy175
                        clear hy175
                        have H' := Aside0.mk H
                        clear H
                        have p152 : 0 ≤ (x4_1 : Int) := of_decide_eq_true (by first | (with_reducible assumption) | assumption)
                        have q152 : x4_1 < (l0.length : Int) := of_decide_eq_true (by first | (with_reducible assumption) | assumption)
                        obtain ⟨ad152, e152, hx152_0, hx152_1⟩ := at_T57 HR0.out x4_1 p152 q152
                        cases e152
                        replace hx152_0 := (HB.out.cell (World.block_lt_of_cell? w _ hx152_0)).trans hx152_0
                        replace hx152_1 := (HB.out.cell (World.block_lt_of_cell? w _ hx152_1)).trans hx152_1
                        replace p152 := eq_true p152
                        replace q152 := eq_true q152
                        go_wp2_with (first | ((with_reducible refine gate_dst (N := 5) rfl ?_); refine box_event ?hg (N := 5) ?hd (cs := #[.int .i32 0, .bool false]) (t := 57) ?hr ?_; (case hd => rfl); (case hg => rfl); (case hr => first | (go_simp; done) | (go_simp; rfl)); intro gb153 hg w28 hbox hb; have n0_ := Aside0.mk (Kd.R_below (by (with_reducible repeat (first | apply Kd.R_alloc | apply Kd.R_drewN | apply Kd.R_drew)); exact HO_3.out) hb); have n1_ := Aside0.mk (below_step (by repeat (first | (with_reducible first | exact HB.out | apply below_alloc | apply pw_below_drewN | apply below_drew1) | exact HB.out)) hb); have n2_ := Aside0.mk (hbox); have n3_ := Aside0.mk ((by rw [hg]; exact (below_size (by repeat (first | (with_reducible first | exact HB.out | apply below_alloc | apply pw_below_drewN | apply below_drew1) | exact HB.out))) : w.heap.size ≤ gb153)); have n4_ := Aside0.mk ((by rw [hg]; exact (below_size (by repeat (first | (with_reducible first | exact HB.out | apply below_alloc | apply pw_below_drewN | apply below_drew1) | exact HB.out))) : w.heap.size ≤ gb153)); clear HO_3; clear HB; have HO_3 := n0_; have HB := n1_; have BK153 := n2_; have GW153 := n3_; have GE153 := n4_; clear n0_ n1_ n2_ n3_ n4_; clear hb hbox hg; have hcz29_0 : w28.cell? ⟨gb153, 0, none⟩ = some (.int .i32 0) := (blk_cell BK153.out 0).trans rfl; have hcz29_1 : w28.cell? ⟨gb153, 1, none⟩ = some (.bool false) := (blk_cell BK153.out 1).trans rfl; have hfz29_0 := blk_frozen BK153.out 0; have hfz29_1 := blk_frozen BK153.out 1) | ((with_reducible refine gate_callee (f := 47) rfl ?_); refine goesL_ (some 21) rfl rfl Tryd.func47 (by kernel_rfl) rfl #[.agg #[.int .i32 ((rd_T57 l0 x4_1).f0), .bool ((rd_T57 l0 x4_1).f1)], .int .i32 42] rfl (by (try simp only [List.map_toArray, List.map_cons, List.map_nil]); first | done | rfl | (simp only [List.length_drop, List.length_take]; rfl)) ?_; (with_reducible refine (glob_is.calls ((rd_T57 l0 x4_1).f0) ((rd_T57 l0 x4_1).f1) 42 false _ A4.out).mono ?_); rintro e w30 ⟨rfl, hb⟩; refine ⟨_, rfl, ?_⟩; have n0_ := Aside0.mk (Kd.R_below (by (with_reducible repeat (first | apply Kd.R_alloc | apply Kd.R_drewN | apply Kd.R_drew)); exact (Kd.R_mono (Kd.R_far (p := ⟨gb153, 1, none⟩) (Kd.R_far (p := ⟨gb153, 0, none⟩) (Kd.R_types HO_3.out BK153.out (by decide)) (fun _ hk => hk.2) (.int .i32 ((rd_T57 l0 x4_1).f0))) (fun _ hk => hk.2) (.bool ((rd_T57 l0 x4_1).f1))) (fun _ h_ => h_.1))) hb); have n1_ := Aside0.mk (blk_below (g := gb153) (o := .cells #[.int .i32 ((rd_T57 l0 x4_1).f0), .bool ((rd_T57 l0 x4_1).f1)] 57 (0, 0)) (by (with_reducible repeat (first | refine blk_drewN ?_ _ | refine blk_drew ?_ | refine blk_alloc ?_ _)); refine blk_put (cs := #[.int .i32 ((rd_T57 l0 x4_1).f0), .bool false]) ?_ 1 _ rfl; (with_reducible repeat (first | refine blk_drewN ?_ _ | refine blk_drew ?_ | refine blk_alloc ?_ _)); refine blk_put (cs := #[.int .i32 0, .bool false]) ?_ 0 _ rfl; (with_reducible repeat (first | refine blk_drewN ?_ _ | refine blk_drew ?_ | refine blk_alloc ?_ _)); exact BK153.out) hb); have n2_ := Aside0.mk (below_step (by repeat (first | (with_reducible first | exact HB.out | apply below_alloc | apply pw_below_drewN | apply below_drew1 | refine below_set ?_ GE153.out) | exact HB.out)) hb); clear HO_3; clear BK153; clear HB; have HO_3 := n0_; have BK153 := n1_; have HB := n2_; clear n0_ n1_ n2_; (try clear hb); (try clear hb2); (try clear hk); (try clear hi); have hcz31_0 : w30.cell? ⟨gb153, 0, none⟩ = some (.int .i32 ((rd_T57 l0 x4_1).f0)) := (blk_cell BK153.out 0).trans rfl; have hcz31_1 : w30.cell? ⟨gb153, 1, none⟩ = some (.bool ((rd_T57 l0 x4_1).f1)) := (blk_cell BK153.out 1).trans rfl; have hfz31_0 := blk_frozen BK153.out 0; have hfz31_1 := blk_frozen BK153.out 1) | ((with_reducible refine gate_callee (f := 47) rfl ?_); refine goesL_ (some 28) rfl rfl Tryd.func47 (by kernel_rfl) rfl #[.agg #[.int .i32 ((rd_T57 l0 x4_1).f0), .bool ((rd_T57 l0 x4_1).f1)], .int .i32 63] rfl (by (try simp only [List.map_toArray, List.map_cons, List.map_nil]); first | done | rfl | (simp only [List.length_drop, List.length_take]; rfl)) ?_; (with_reducible refine (glob_is.calls ((rd_T57 l0 x4_1).f0) ((rd_T57 l0 x4_1).f1) 63 false _ A11.out).mono ?_); rintro e w32 ⟨rfl, hb⟩; refine ⟨_, rfl, ?_⟩; have n0_ := Aside0.mk (Kd.R_below (by (with_reducible repeat (first | apply Kd.R_alloc | apply Kd.R_drewN | apply Kd.R_drew)); exact HO_3.out) hb); have n1_ := Aside0.mk (blk_below (g := gb153) (o := .cells #[.int .i32 ((rd_T57 l0 x4_1).f0), .bool ((rd_T57 l0 x4_1).f1)] 57 (0, 0)) (by (with_reducible repeat (first | refine blk_drewN ?_ _ | refine blk_drew ?_ | refine blk_alloc ?_ _)); exact BK153.out) hb); have n2_ := Aside0.mk (below_step (by repeat (first | (with_reducible first | exact HB.out | apply below_alloc | apply pw_below_drewN | apply below_drew1 | refine below_set ?_ GE153.out) | exact HB.out)) hb); clear HO_3; clear BK153; clear HB; have HO_3 := n0_; have BK153 := n1_; have HB := n2_; clear n0_ n1_ n2_; (try clear hb); (try clear hb2); (try clear hk); (try clear hi); have hcz33_0 : w32.cell? ⟨gb153, 0, none⟩ = some (.int .i32 ((rd_T57 l0 x4_1).f0)) := (blk_cell BK153.out 0).trans rfl; have hcz33_1 : w32.cell? ⟨gb153, 1, none⟩ = some (.bool ((rd_T57 l0 x4_1).f1)) := (blk_cell BK153.out 1).trans rfl; have hfz33_0 := blk_frozen BK153.out 0; have hfz33_1 := blk_frozen BK153.out 1) | ((with_reducible refine gate_callee (f := 47) rfl ?_); refine goesL_ (some 35) rfl rfl Tryd.func47 (by kernel_rfl) rfl #[.agg #[.int .i32 ((rd_T57 l0 x4_1).f0), .bool ((rd_T57 l0 x4_1).f1)], .int .i32 91] rfl (by (try simp only [List.map_toArray, List.map_cons, List.map_nil]); first | done | rfl | (simp only [List.length_drop, List.length_take]; rfl)) ?_; (with_reducible refine (glob_is.calls ((rd_T57 l0 x4_1).f0) ((rd_T57 l0 x4_1).f1) 91 true _ A20.out).mono ?_); rintro e w34 ⟨rfl, hb⟩; refine ⟨_, rfl, ?_⟩; have n0_ := Aside0.mk (Kd.R_below (by (with_reducible repeat (first | apply Kd.R_alloc | apply Kd.R_drewN | apply Kd.R_drew)); exact HO_3.out) hb); have n1_ := Aside0.mk (blk_below (g := gb153) (o := .cells #[.int .i32 ((rd_T57 l0 x4_1).f0), .bool ((rd_T57 l0 x4_1).f1)] 57 (0, 0)) (by (with_reducible repeat (first | refine blk_drewN ?_ _ | refine blk_drew ?_ | refine blk_alloc ?_ _)); exact BK153.out) hb); have n2_ := Aside0.mk (below_step (by repeat (first | (with_reducible first | exact HB.out | apply below_alloc | apply pw_below_drewN | apply below_drew1 | refine below_set ?_ GE153.out) | exact HB.out)) hb); clear HO_3; clear BK153; clear HB; have HO_3 := n0_; have BK153 := n1_; have HB := n2_; clear n0_ n1_ n2_; (try clear hb); (try clear hb2); (try clear hk); (try clear hi); have q35 : ((ji22) : Int) ≤ ((l0.length : Int) : Int) := of_decide_eq_true (by first | (with_reducible assumption) | assumption); obtain ⟨i035, hi035, _, hsz35, _⟩ := info_parts info57; have hroom35 : l0.length ≤ c0 := HC0.out; have hC35 : Kd.C k57 _ (some ad152) l0.length l0 := HR0.out; have q035 : (0 : Int) ≤ ((ji22) : Int) := of_decide_eq_true (by first | (with_reducible assumption) | assumption); have hcut35 := cut_from (P := Tryd.prog) 33 57 .i64 Tryd.underlying33 hi035 2 hsz35 (some ad152) l0.length c0 (ji22) q035 q35; have hr35 := Kd.C_drop (m := ((ji22) : Int).toNat) (c := c0) hC35 (by omega) hroom35; obtain ⟨A35, hA35⟩ : ∃ A1, A1 = (if c0 = ((ji22) : Int).toNat then (some ad152) else ((some ad152) : Option Addr).map (·.add (((ji22) : Int).toNat * 2))) := ⟨_, rfl⟩; obtain ⟨c35, hc35⟩ : ∃ c1, c1 = c0 - ((ji22) : Int).toNat := ⟨_, rfl⟩; have hy35 : y163.length = l0.length - ((ji22) : Int).toNat := (by rw [Ny163.out, List.length_drop] <;> omega); rw [show (l0).drop ((ji22) : Int).toNat = y163 from Ny163.out.symm] at hr35; replace hr35 : Kd.C k57 _ A35 y163.length y163 := (by rw [hA35]; exact hr35); rw [← hy35, ← hA35, ← hc35] at hcut35; have HR166 := Aside0.mk hr35; have HC166 := Aside0.mk (show y163.length ≤ c35 from by rw [hy35, hc35]; exact Nat.sub_le_sub_right hroom35 _); clear hr35 hC35 hroom35 hi035 hsz35 hc35; have KY35 := Aside0.mk hy35; have KA35 := Aside0.mk hA35; clear hy35 hA35; replace q35 := eq_true q35) | ((with_reducible refine gate_callee (f := 52) rfl ?_); refine goesL_ (some 41) rfl rfl Tryd.func52 (by kernel_rfl) rfl #[.slice A35 y163.length c35] rfl (by (try simp only [List.map_toArray, List.map_cons, List.map_nil]); first | done | rfl | (simp only [List.length_drop, List.length_take]; rfl)) ?_; (with_reducible refine (glob_bracket.calls k1 _ _ y163 t167 t168 t169 t172 true _ ?side1 ?side2 A25.out).mono ?_); (case side1 => repeat (first | (with_reducible exact HR166.out) | exact (Kd.C_below HR166.out HB.out) | (with_reducible refine Kd.C_alloc ?_ _) | (with_reducible refine Kd.C_drewN ?_ _) | (with_reducible refine Kd.C_drew ?_))); (case side2 => exact HC166.out); rintro e w36 ⟨v170, rfl, ho0, hb⟩; refine ⟨_, rfl, ?_⟩; have n0_ := Aside0.mk (Kd.R_elder' (by (with_reducible repeat (first | apply Kd.R_alloc | apply Kd.R_drewN | apply Kd.R_drew)); exact HO_3.out) (Kd.R_base ho0) hb); have n1_ := Aside0.mk (Kd.R_lower ho0 (below_size (by repeat (first | (with_reducible first | exact HB.out | apply below_alloc | apply pw_below_drewN | apply below_drew1 | refine below_set ?_ GE153.out) | exact HB.out)))); have n2_ := Aside0.mk (blk_below (g := gb153) (o := .cells #[.int .i32 ((rd_T57 l0 x4_1).f0), .bool ((rd_T57 l0 x4_1).f1)] 57 (0, 0)) (by (with_reducible repeat (first | refine blk_drewN ?_ _ | refine blk_drew ?_ | refine blk_alloc ?_ _)); exact BK153.out) hb); have n3_ := Aside0.mk (below_step (by repeat (first | (with_reducible first | exact HB.out | apply below_alloc | apply pw_below_drewN | apply below_drew1 | refine below_set ?_ GE153.out) | exact HB.out)) hb); clear HO_3; clear BK153; clear HB; have HO_3 := n0_; have HO171 := n1_; have BK153 := n2_; have HB := n3_; clear n0_ n1_ n2_ n3_; (try clear hb); (try clear hb2); (try clear hk); (try clear hi); (try clear ho0)) | ((with_reducible refine gate_dst (N := 6) rfl ?_); refine box_event ?hg (N := 6) ?hd (cs := #[.bool false, .bool false, .slice none 0 0]) (t := 63) ?hr ?_; (case hd => rfl); (case hg => rfl); (case hr => first | (go_simp; done) | (go_simp; rfl)); intro gb174 hg w37 hbox hb; have n0_ := Aside0.mk (Kd.R_below (Kd.R_elderB (by (with_reducible repeat (first | apply Kd.R_alloc | apply Kd.R_drewN | apply Kd.R_drew)); exact HO_3.out) gb174 (Nat.le_of_eq hg.symm)) hb); have n1_ := Aside0.mk (Kd.R_below (by (with_reducible repeat (first | apply Kd.R_alloc | apply Kd.R_drewN | apply Kd.R_drew)); exact HO171.out) hb); have n2_ := Aside0.mk (blk_below (g := gb153) (o := .cells #[.int .i32 ((rd_T57 l0 x4_1).f0), .bool ((rd_T57 l0 x4_1).f1)] 57 (0, 0)) (by (with_reducible repeat (first | refine blk_drewN ?_ _ | refine blk_drew ?_ | refine blk_alloc ?_ _)); exact BK153.out) hb); have n3_ := Aside0.mk (below_step (by repeat (first | (with_reducible first | exact HB.out | apply below_alloc | apply pw_below_drewN | apply below_drew1 | refine below_set ?_ GE153.out) | exact HB.out)) hb); have n4_ := Aside0.mk (hbox); have n5_ := Aside0.mk ((by rw [hg]; exact (below_size (by repeat (first | (with_reducible first | exact HB.out | apply below_alloc | apply pw_below_drewN | apply below_drew1 | refine below_set ?_ GE153.out) | exact HB.out))) : w.heap.size ≤ gb174)); have n6_ := Aside0.mk ((by rw [hg]; exact (below_size (by repeat (first | (with_reducible first | exact HB.out | apply below_alloc | apply pw_below_drewN | apply below_drew1 | refine below_set ?_ GE153.out) | exact HB.out))) : w.heap.size ≤ gb174)); have n7_ := Aside0.mk ((by rw [hg]; exact Nat.ne_of_lt (blk_lt (g := gb153) (o := .cells #[.int .i32 ((rd_T57 l0 x4_1).f0), .bool ((rd_T57 l0 x4_1).f1)] 57 (0, 0)) (by (with_reducible repeat (first | refine blk_drewN ?_ _ | refine blk_drew ?_ | refine blk_alloc ?_ _)); exact BK153.out)) : gb153 ≠ gb174)); have n8_ := Aside0.mk ((by rw [hg]; exact Nat.ne_of_gt (blk_lt (g := gb153) (o := .cells #[.int .i32 ((rd_T57 l0 x4_1).f0), .bool ((rd_T57 l0 x4_1).f1)] 57 (0, 0)) (by (with_reducible repeat (first | refine blk_drewN ?_ _ | refine blk_drew ?_ | refine blk_alloc ?_ _)); exact BK153.out)) : gb174 ≠ gb153)); clear HO_3; clear HO171; clear BK153; clear HB; have HO_3 := n0_; have HO171 := n1_; have BK153 := n2_; have HB := n3_; have BK174 := n4_; have GW174 := n5_; have GE174 := n6_; have NB153_174 := n7_; have NB174_153 := n8_; clear n0_ n1_ n2_ n3_ n4_ n5_ n6_ n7_ n8_; clear hb hbox hg; have hnb38 := NB174_153.out; have hnc38 := NB153_174.out; have hcz39_0 : w37.cell? ⟨gb174, 0, none⟩ = some (.bool false) := (blk_cell BK174.out 0).trans rfl; have hcz39_1 : w37.cell? ⟨gb174, 1, none⟩ = some (.bool false) := (blk_cell BK174.out 1).trans rfl; have hcz39_2 : w37.cell? ⟨gb174, 2, none⟩ = some (.slice none 0 0) := (blk_cell BK174.out 2).trans rfl; have hfz39_0 := blk_frozen BK174.out 0; have hfz39_1 := blk_frozen BK174.out 1; have hfz39_2 := blk_frozen BK174.out 2; obtain ⟨Ao40, co40, eo40⟩ := Kd.R_slice HO171.out; subst eo40) | ((with_reducible refine gate_store (t := 63) (p := 6) rfl ?_); refine store_event (t := 63) (p := 6) (v := ?vo_w41) (w1 := (((w37.setCell ⟨gb174, 0, none⟩ (.bool t167)).setCell ⟨gb174, 1, none⟩ (.bool t168)).setCell ⟨gb174, 2, none⟩ (.slice Ao40 t169.length co40))) ?hg ?ho ?hn ?hr ?_; (case ho => rfl); (case hg => rfl); (case hn => rfl); (case hr => first | (go_simp; done) | (go_simp; rfl)); intro w41 hw; have n0_ : Aside0 (Kd.R k63 63 w41 w.heap.size (fun k_ => some k_ ≠ (.slice Ao40 t169.length co40 : Value).ownBlock ∧ k_ ≠ gb174) u3 x3_1) := ⟨(by rw [hw]; exact (by (with_reducible repeat (first | apply Kd.R_alloc | apply Kd.R_drewN | apply Kd.R_drew)); exact Kd.R_mono (Kd.R_far (p := ⟨gb174, 2, none⟩) (Kd.R_far (p := ⟨gb174, 1, none⟩) (Kd.R_far (p := ⟨gb174, 0, none⟩) (Kd.R_mono HO_3.out (fun k_ hk => (⟨hk, hk.2⟩ : _ ∧ k_ ≠ gb174))) (fun _ hk => hk.2) (.bool t167)) (fun _ hk => hk.2) (.bool t168)) (fun _ hk => hk.2) (.slice Ao40 t169.length co40)) (fun _ hk => ⟨hk.1.1.2, hk.1.2⟩)))⟩; have n1_ : Aside0 (Kd.R k76 76 w41 w.heap.size (fun _ => True) (.slice Ao40 t169.length co40) t169) := ⟨(by rw [hw]; exact (by (with_reducible repeat (first | apply Kd.R_alloc | apply Kd.R_drewN | apply Kd.R_drew)); exact Kd.R_mono (Kd.R_far (p := ⟨gb174, 2, none⟩) (Kd.R_far (p := ⟨gb174, 1, none⟩) (Kd.R_far (p := ⟨gb174, 0, none⟩) (Kd.R_types HO171.out BK174.out (by decide)) (fun _ hk => hk.2) (.bool t167)) (fun _ hk => hk.2) (.bool t168)) (fun _ hk => hk.2) (.slice Ao40 t169.length co40)) (fun _ hk => trivial)))⟩; have n2_ : Aside0 (w41.heap[gb153]? = some (.cells #[.int .i32 ((rd_T57 l0 x4_1).f0), .bool ((rd_T57 l0 x4_1).f1)] 57 (0, 0))) := ⟨(by rw [hw]; exact (by (with_reducible repeat (first | refine blk_drewN ?_ _ | refine blk_drew ?_ | refine blk_alloc ?_ _)); refine blk_far ?_ NB153_174.out _; (with_reducible repeat (first | refine blk_drewN ?_ _ | refine blk_drew ?_ | refine blk_alloc ?_ _)); refine blk_far ?_ NB153_174.out _; (with_reducible repeat (first | refine blk_drewN ?_ _ | refine blk_drew ?_ | refine blk_alloc ?_ _)); refine blk_far ?_ NB153_174.out _; (with_reducible repeat (first | refine blk_drewN ?_ _ | refine blk_drew ?_ | refine blk_alloc ?_ _)); exact BK153.out))⟩; have n3_ : Aside0 (w41.heap[gb174]? = some (.cells #[.bool t167, .bool t168, .slice Ao40 t169.length co40] 63 (0, 0))) := ⟨(by rw [hw]; exact (by (with_reducible repeat (first | refine blk_drewN ?_ _ | refine blk_drew ?_ | refine blk_alloc ?_ _)); refine blk_put (cs := #[.bool t167, .bool t168, .slice none 0 0]) ?_ 2 _ rfl; (with_reducible repeat (first | refine blk_drewN ?_ _ | refine blk_drew ?_ | refine blk_alloc ?_ _)); refine blk_put (cs := #[.bool t167, .bool false, .slice none 0 0]) ?_ 1 _ rfl; (with_reducible repeat (first | refine blk_drewN ?_ _ | refine blk_drew ?_ | refine blk_alloc ?_ _)); refine blk_put (cs := #[.bool false, .bool false, .slice none 0 0]) ?_ 0 _ rfl; (with_reducible repeat (first | refine blk_drewN ?_ _ | refine blk_drew ?_ | refine blk_alloc ?_ _)); exact BK174.out))⟩; have n4_ : Aside0 (Below w.heap.size w w41) := ⟨(by rw [hw]; exact (by repeat (first | (with_reducible first | exact HB.out | apply below_alloc | apply pw_below_drewN | apply below_drew1 | refine below_set ?_ GE153.out | refine below_set ?_ GE174.out) | exact HB.out)))⟩; clear hw; clear HO_3; clear HO171; clear BK153; clear BK174; clear HB; have HO_3 := n0_; have HO171 := n1_; have BK153 := n2_; have BK174 := n3_; have HB := n4_; clear n0_ n1_ n2_ n3_ n4_; have hcz42_0 : w41.cell? ⟨gb174, 0, none⟩ = some (.bool t167) := (blk_cell BK174.out 0).trans rfl; have hcz42_1 : w41.cell? ⟨gb174, 1, none⟩ = some (.bool t168) := (blk_cell BK174.out 1).trans rfl; have hcz42_2 : w41.cell? ⟨gb174, 2, none⟩ = some (.slice Ao40 t169.length co40) := (blk_cell BK174.out 2).trans rfl; have hfz42_0 := blk_frozen BK174.out 0; have hfz42_1 := blk_frozen BK174.out 1; have hfz42_2 := blk_frozen BK174.out 2) | ((with_reducible refine gate_builtin (b := .append) (xs := #[.tmp 46, .tmp 48]) rfl ?_); at_builtin; refine Kd.R_append k63 (w0 := w) w.heap.size rfl (.tmp 46) (.tmp 48) 59 63 (.agg #[(.bool false), (.bool false), (.slice none 0 0)]) 32 rfl Tryd.underlying59 info63 rfl (by decide) (by omega) u3 x3_1 (⟨t167, t168, t169⟩ : S63) [.bool t167, .bool t168, .slice Ao40 t169.length co40] (fun k_ => k_ ≠ gb174) (fun k_ => ((fun k_ => k_ ≠ gb174)) k_ ∧ some k_ ≠ (u3 : Value).ownBlock) rfl rfl ?aP (fun _ hk => hk) ?aF ?aO ?aB ?aS ?aL ?_; (case aP => exact k63_mkM _ _ _ (⟨t167, t168, t169⟩ : S63) (Kd.R_mono (Kd.R_types (Kd.R_apart' (HO171.out) (Kd.R_typed HO_3.out) (by decide)) BK174.out (by decide)) (fun k_ hk => ⟨hk.2, hk.1.2⟩))); (case aB => exact (by repeat (first | (with_reducible first | exact HB.out | apply below_alloc | apply pw_below_drewN | apply below_drew1 | refine below_set ?_ GE153.out | refine below_set ?_ GE174.out) | exact HB.out))); (case aF => exact (fun k_ hk => Kd.freshB (g := gb174) (o := .cells #[.bool t167, .bool t168, .slice Ao40 t169.length co40] 63 (0, 0)) (by (with_reducible repeat (first | refine blk_drewN ?_ _ | refine blk_drew ?_ | refine blk_alloc ?_ _)); exact BK174.out) k_ hk)); (case aO => exact (by (with_reducible repeat (first | apply Kd.R_alloc | apply Kd.R_drewN | apply Kd.R_drew)); exact Kd.R_mono HO_3.out (fun _ hk => hk.2))); (case aS => exact (below_size (by repeat (first | (with_reducible first | exact HB.out | apply below_alloc | apply pw_below_drewN | apply below_drew1 | refine below_set ?_ GE153.out | refine below_set ?_ GE174.out) | exact HB.out)))); (case aL => have := LMc27.out; omega); intro v176 w43 ho hb hg hat; rw [← Ny175.out] at ho; have n0_ := Aside0.mk (blk_grown (g := gb153) (o := .cells #[.int .i32 ((rd_T57 l0 x4_1).f0), .bool ((rd_T57 l0 x4_1).f1)] 57 (0, 0)) (by (with_reducible repeat (first | refine blk_drewN ?_ _ | refine blk_drew ?_ | refine blk_alloc ?_ _)); exact BK153.out) hg (Kd.R_ne HO_3.out BK153.out (by decide))); have n1_ := Aside0.mk (blk_grown (g := gb174) (o := .cells #[.bool t167, .bool t168, .slice Ao40 t169.length co40] 63 (0, 0)) (by (with_reducible repeat (first | refine blk_drewN ?_ _ | refine blk_drew ?_ | refine blk_alloc ?_ _)); exact BK174.out) hg (Kd.R_away HO_3.out (fun _ hk => hk.2))); have n2_ := Aside0.mk (hb); have n3_ := Aside0.mk (ho); clear BK153; clear BK174; clear HB; clear HO_3; clear HO171; have BK153 := n0_; have BK174 := n1_; have HB := n2_; have HO177 := n3_; clear n0_ n1_ n2_ n3_; clear ho hb hg hat))
                        go_roundg k1
                        case measure => have := HK1.out; omega
                        case rel => exact ⟨(y175), (wrap64 ((wrap64 (x4_1 + t172)) + 1)), (by first | rfl | (simp; done) | (simp [*]; done) | (simp; unfold wrap64; omega)), H', ⟨by have := HK1.out; omega⟩, ⟨by (with_reducible repeat (first | apply Kd.R_alloc | apply Kd.R_drewN | apply Kd.R_drew)); exact Kd.R_mono HO177.out (fun _ hk => trivial)⟩, ⟨by repeat (first | (with_reducible first | exact HB.out | apply below_alloc | apply pw_below_drewN | apply below_drew1 | refine below_set ?_ GE153.out | refine below_set ?_ GE174.out) | exact HB.out)⟩⟩
                      · rw [if_neg c27] at H
                        exact absurd H (by simp)
                    · replace c26 := Bool.eq_false_iff.mpr c26
                      subst c26
                      have H1 : (if x3_1.length < 4398046511104 then (glob_pieces.l0 k1 l0 (x3_1 ++ [(⟨false, false, (([(⟨(rd_T57 l0 x4_1).f0, (rd_T57 l0 x4_1).f0⟩ : S76)] : List (S76)))⟩ : S63)]) ji22) else (none)) = some r := by rw [if_neg (show ¬ (false = true) by decide)] at H; exact H
                      clear H
                      have H := H1
                      clear H1
                      obtain ⟨y178, hy178⟩ : ∃ y_ : List (S76), y_ = (([(⟨(rd_T57 l0 x4_1).f0, (rd_T57 l0 x4_1).f0⟩ : S76)] : List (S76))) := ⟨_, rfl⟩
                      replace H : (if x3_1.length < 4398046511104 then (glob_pieces.l0 k1 l0 (x3_1 ++ [(⟨false, false, y178⟩ : S63)]) ji22) else (none)) = some r := by first | (rw [hy178]; with_reducible exact H) | (have H2_ := (Option.bind_some _ _).symm.trans H; rw [hy178]; with_reducible exact H2_) | (have H2_ := (Option.bind_some _ _).symm.trans H; with_reducible exact H2_) | with_reducible exact H | (rw [hy178]; exact H) | exact H
                      have Ny178 := Aside0.mk hy178
                      clear hy178
                      by_cases c44 : x3_1.length < 4398046511104
                      · rw [if_pos c44] at H
                        have LMc44 := Aside0.mk c44
                        clear c44
                        obtain ⟨y181, hy181⟩ : ∃ y_ : List (S63), y_ = (x3_1 ++ [(⟨false, false, y178⟩ : S63)]) := ⟨_, rfl⟩
                        replace H : (glob_pieces.l0 k1 l0 y181 ji22) = some r := by first | (rw [hy181]; with_reducible exact H) | (have H2_ := (Option.bind_some _ _).symm.trans H; rw [hy181]; with_reducible exact H2_) | (have H2_ := (Option.bind_some _ _).symm.trans H; with_reducible exact H2_) | with_reducible exact H | (rw [hy181]; exact H) | exact H
                        have Ny181 := Aside0.mk hy181
                        clear hy181
                        have H' := Aside0.mk H
                        clear H
                        have p152 : 0 ≤ (x4_1 : Int) := of_decide_eq_true (by first | (with_reducible assumption) | assumption)
                        have q152 : x4_1 < (l0.length : Int) := of_decide_eq_true (by first | (with_reducible assumption) | assumption)
                        obtain ⟨ad152, e152, hx152_0, hx152_1⟩ := at_T57 HR0.out x4_1 p152 q152
                        cases e152
                        replace hx152_0 := (HB.out.cell (World.block_lt_of_cell? w _ hx152_0)).trans hx152_0
                        replace hx152_1 := (HB.out.cell (World.block_lt_of_cell? w _ hx152_1)).trans hx152_1
                        replace p152 := eq_true p152
                        replace q152 := eq_true q152
                        go_wp2_with (first | ((with_reducible refine gate_dst (N := 5) rfl ?_); refine box_event ?hg (N := 5) ?hd (cs := #[.int .i32 0, .bool false]) (t := 57) ?hr ?_; (case hd => rfl); (case hg => rfl); (case hr => first | (go_simp; done) | (go_simp; rfl)); intro gb153 hg w45 hbox hb; have n0_ := Aside0.mk (Kd.R_below (by (with_reducible repeat (first | apply Kd.R_alloc | apply Kd.R_drewN | apply Kd.R_drew)); exact HO_3.out) hb); have n1_ := Aside0.mk (below_step (by repeat (first | (with_reducible first | exact HB.out | apply below_alloc | apply pw_below_drewN | apply below_drew1) | exact HB.out)) hb); have n2_ := Aside0.mk (hbox); have n3_ := Aside0.mk ((by rw [hg]; exact (below_size (by repeat (first | (with_reducible first | exact HB.out | apply below_alloc | apply pw_below_drewN | apply below_drew1) | exact HB.out))) : w.heap.size ≤ gb153)); have n4_ := Aside0.mk ((by rw [hg]; exact (below_size (by repeat (first | (with_reducible first | exact HB.out | apply below_alloc | apply pw_below_drewN | apply below_drew1) | exact HB.out))) : w.heap.size ≤ gb153)); clear HO_3; clear HB; have HO_3 := n0_; have HB := n1_; have BK153 := n2_; have GW153 := n3_; have GE153 := n4_; clear n0_ n1_ n2_ n3_ n4_; clear hb hbox hg; have hcz46_0 : w45.cell? ⟨gb153, 0, none⟩ = some (.int .i32 0) := (blk_cell BK153.out 0).trans rfl; have hcz46_1 : w45.cell? ⟨gb153, 1, none⟩ = some (.bool false) := (blk_cell BK153.out 1).trans rfl; have hfz46_0 := blk_frozen BK153.out 0; have hfz46_1 := blk_frozen BK153.out 1) | ((with_reducible refine gate_callee (f := 47) rfl ?_); refine goesL_ (some 21) rfl rfl Tryd.func47 (by kernel_rfl) rfl #[.agg #[.int .i32 ((rd_T57 l0 x4_1).f0), .bool ((rd_T57 l0 x4_1).f1)], .int .i32 42] rfl (by (try simp only [List.map_toArray, List.map_cons, List.map_nil]); first | done | rfl | (simp only [List.length_drop, List.length_take]; rfl)) ?_; (with_reducible refine (glob_is.calls ((rd_T57 l0 x4_1).f0) ((rd_T57 l0 x4_1).f1) 42 false _ A4.out).mono ?_); rintro e w47 ⟨rfl, hb⟩; refine ⟨_, rfl, ?_⟩; have n0_ := Aside0.mk (Kd.R_below (by (with_reducible repeat (first | apply Kd.R_alloc | apply Kd.R_drewN | apply Kd.R_drew)); exact (Kd.R_mono (Kd.R_far (p := ⟨gb153, 1, none⟩) (Kd.R_far (p := ⟨gb153, 0, none⟩) (Kd.R_types HO_3.out BK153.out (by decide)) (fun _ hk => hk.2) (.int .i32 ((rd_T57 l0 x4_1).f0))) (fun _ hk => hk.2) (.bool ((rd_T57 l0 x4_1).f1))) (fun _ h_ => h_.1))) hb); have n1_ := Aside0.mk (blk_below (g := gb153) (o := .cells #[.int .i32 ((rd_T57 l0 x4_1).f0), .bool ((rd_T57 l0 x4_1).f1)] 57 (0, 0)) (by (with_reducible repeat (first | refine blk_drewN ?_ _ | refine blk_drew ?_ | refine blk_alloc ?_ _)); refine blk_put (cs := #[.int .i32 ((rd_T57 l0 x4_1).f0), .bool false]) ?_ 1 _ rfl; (with_reducible repeat (first | refine blk_drewN ?_ _ | refine blk_drew ?_ | refine blk_alloc ?_ _)); refine blk_put (cs := #[.int .i32 0, .bool false]) ?_ 0 _ rfl; (with_reducible repeat (first | refine blk_drewN ?_ _ | refine blk_drew ?_ | refine blk_alloc ?_ _)); exact BK153.out) hb); have n2_ := Aside0.mk (below_step (by repeat (first | (with_reducible first | exact HB.out | apply below_alloc | apply pw_below_drewN | apply below_drew1 | refine below_set ?_ GE153.out) | exact HB.out)) hb); clear HO_3; clear BK153; clear HB; have HO_3 := n0_; have BK153 := n1_; have HB := n2_; clear n0_ n1_ n2_; (try clear hb); (try clear hb2); (try clear hk); (try clear hi); have hcz48_0 : w47.cell? ⟨gb153, 0, none⟩ = some (.int .i32 ((rd_T57 l0 x4_1).f0)) := (blk_cell BK153.out 0).trans rfl; have hcz48_1 : w47.cell? ⟨gb153, 1, none⟩ = some (.bool ((rd_T57 l0 x4_1).f1)) := (blk_cell BK153.out 1).trans rfl; have hfz48_0 := blk_frozen BK153.out 0; have hfz48_1 := blk_frozen BK153.out 1) | ((with_reducible refine gate_callee (f := 47) rfl ?_); refine goesL_ (some 28) rfl rfl Tryd.func47 (by kernel_rfl) rfl #[.agg #[.int .i32 ((rd_T57 l0 x4_1).f0), .bool ((rd_T57 l0 x4_1).f1)], .int .i32 63] rfl (by (try simp only [List.map_toArray, List.map_cons, List.map_nil]); first | done | rfl | (simp only [List.length_drop, List.length_take]; rfl)) ?_; (with_reducible refine (glob_is.calls ((rd_T57 l0 x4_1).f0) ((rd_T57 l0 x4_1).f1) 63 false _ A11.out).mono ?_); rintro e w49 ⟨rfl, hb⟩; refine ⟨_, rfl, ?_⟩; have n0_ := Aside0.mk (Kd.R_below (by (with_reducible repeat (first | apply Kd.R_alloc | apply Kd.R_drewN | apply Kd.R_drew)); exact HO_3.out) hb); have n1_ := Aside0.mk (blk_below (g := gb153) (o := .cells #[.int .i32 ((rd_T57 l0 x4_1).f0), .bool ((rd_T57 l0 x4_1).f1)] 57 (0, 0)) (by (with_reducible repeat (first | refine blk_drewN ?_ _ | refine blk_drew ?_ | refine blk_alloc ?_ _)); exact BK153.out) hb); have n2_ := Aside0.mk (below_step (by repeat (first | (with_reducible first | exact HB.out | apply below_alloc | apply pw_below_drewN | apply below_drew1 | refine below_set ?_ GE153.out) | exact HB.out)) hb); clear HO_3; clear BK153; clear HB; have HO_3 := n0_; have BK153 := n1_; have HB := n2_; clear n0_ n1_ n2_; (try clear hb); (try clear hb2); (try clear hk); (try clear hi); have hcz50_0 : w49.cell? ⟨gb153, 0, none⟩ = some (.int .i32 ((rd_T57 l0 x4_1).f0)) := (blk_cell BK153.out 0).trans rfl; have hcz50_1 : w49.cell? ⟨gb153, 1, none⟩ = some (.bool ((rd_T57 l0 x4_1).f1)) := (blk_cell BK153.out 1).trans rfl; have hfz50_0 := blk_frozen BK153.out 0; have hfz50_1 := blk_frozen BK153.out 1) | ((with_reducible refine gate_callee (f := 47) rfl ?_); refine goesL_ (some 35) rfl rfl Tryd.func47 (by kernel_rfl) rfl #[.agg #[.int .i32 ((rd_T57 l0 x4_1).f0), .bool ((rd_T57 l0 x4_1).f1)], .int .i32 91] rfl (by (try simp only [List.map_toArray, List.map_cons, List.map_nil]); first | done | rfl | (simp only [List.length_drop, List.length_take]; rfl)) ?_; (with_reducible refine (glob_is.calls ((rd_T57 l0 x4_1).f0) ((rd_T57 l0 x4_1).f1) 91 true _ A20.out).mono ?_); rintro e w51 ⟨rfl, hb⟩; refine ⟨_, rfl, ?_⟩; have n0_ := Aside0.mk (Kd.R_below (by (with_reducible repeat (first | apply Kd.R_alloc | apply Kd.R_drewN | apply Kd.R_drew)); exact HO_3.out) hb); have n1_ := Aside0.mk (blk_below (g := gb153) (o := .cells #[.int .i32 ((rd_T57 l0 x4_1).f0), .bool ((rd_T57 l0 x4_1).f1)] 57 (0, 0)) (by (with_reducible repeat (first | refine blk_drewN ?_ _ | refine blk_drew ?_ | refine blk_alloc ?_ _)); exact BK153.out) hb); have n2_ := Aside0.mk (below_step (by repeat (first | (with_reducible first | exact HB.out | apply below_alloc | apply pw_below_drewN | apply below_drew1 | refine below_set ?_ GE153.out) | exact HB.out)) hb); clear HO_3; clear BK153; clear HB; have HO_3 := n0_; have BK153 := n1_; have HB := n2_; clear n0_ n1_ n2_; (try clear hb); (try clear hb2); (try clear hk); (try clear hi); have q52 : ((ji22) : Int) ≤ ((l0.length : Int) : Int) := of_decide_eq_true (by first | (with_reducible assumption) | assumption); obtain ⟨i052, hi052, _, hsz52, _⟩ := info_parts info57; have hroom52 : l0.length ≤ c0 := HC0.out; have hC52 : Kd.C k57 _ (some ad152) l0.length l0 := HR0.out; have q052 : (0 : Int) ≤ ((ji22) : Int) := of_decide_eq_true (by first | (with_reducible assumption) | assumption); have hcut52 := cut_from (P := Tryd.prog) 33 57 .i64 Tryd.underlying33 hi052 2 hsz52 (some ad152) l0.length c0 (ji22) q052 q52; have hr52 := Kd.C_drop (m := ((ji22) : Int).toNat) (c := c0) hC52 (by omega) hroom52; obtain ⟨A52, hA52⟩ : ∃ A1, A1 = (if c0 = ((ji22) : Int).toNat then (some ad152) else ((some ad152) : Option Addr).map (·.add (((ji22) : Int).toNat * 2))) := ⟨_, rfl⟩; obtain ⟨c52, hc52⟩ : ∃ c1, c1 = c0 - ((ji22) : Int).toNat := ⟨_, rfl⟩; have hy52 : y163.length = l0.length - ((ji22) : Int).toNat := (by rw [Ny163.out, List.length_drop] <;> omega); rw [show (l0).drop ((ji22) : Int).toNat = y163 from Ny163.out.symm] at hr52; replace hr52 : Kd.C k57 _ A52 y163.length y163 := (by rw [hA52]; exact hr52); rw [← hy52, ← hA52, ← hc52] at hcut52; have HR166 := Aside0.mk hr52; have HC166 := Aside0.mk (show y163.length ≤ c52 from by rw [hy52, hc52]; exact Nat.sub_le_sub_right hroom52 _); clear hr52 hC52 hroom52 hi052 hsz52 hc52; have KY52 := Aside0.mk hy52; have KA52 := Aside0.mk hA52; clear hy52 hA52; replace q52 := eq_true q52) | ((with_reducible refine gate_callee (f := 52) rfl ?_); refine goesL_ (some 41) rfl rfl Tryd.func52 (by kernel_rfl) rfl #[.slice A52 y163.length c52] rfl (by (try simp only [List.map_toArray, List.map_cons, List.map_nil]); first | done | rfl | (simp only [List.length_drop, List.length_take]; rfl)) ?_; (with_reducible refine (glob_bracket.calls k1 _ _ y163 t167 t168 t169 t172 false _ ?side1 ?side2 A25.out).mono ?_); (case side1 => repeat (first | (with_reducible exact HR166.out) | exact (Kd.C_below HR166.out HB.out) | (with_reducible refine Kd.C_alloc ?_ _) | (with_reducible refine Kd.C_drewN ?_ _) | (with_reducible refine Kd.C_drew ?_))); (case side2 => exact HC166.out); rintro e w53 ⟨v170, rfl, ho0, hb⟩; refine ⟨_, rfl, ?_⟩; have n0_ := Aside0.mk (Kd.R_elder' (by (with_reducible repeat (first | apply Kd.R_alloc | apply Kd.R_drewN | apply Kd.R_drew)); exact HO_3.out) (Kd.R_base ho0) hb); have n1_ := Aside0.mk (Kd.R_lower ho0 (below_size (by repeat (first | (with_reducible first | exact HB.out | apply below_alloc | apply pw_below_drewN | apply below_drew1 | refine below_set ?_ GE153.out) | exact HB.out)))); have n2_ := Aside0.mk (blk_below (g := gb153) (o := .cells #[.int .i32 ((rd_T57 l0 x4_1).f0), .bool ((rd_T57 l0 x4_1).f1)] 57 (0, 0)) (by (with_reducible repeat (first | refine blk_drewN ?_ _ | refine blk_drew ?_ | refine blk_alloc ?_ _)); exact BK153.out) hb); have n3_ := Aside0.mk (below_step (by repeat (first | (with_reducible first | exact HB.out | apply below_alloc | apply pw_below_drewN | apply below_drew1 | refine below_set ?_ GE153.out) | exact HB.out)) hb); clear HO_3; clear BK153; clear HB; have HO_3 := n0_; have HO171 := n1_; have BK153 := n2_; have HB := n3_; clear n0_ n1_ n2_ n3_; (try clear hb); (try clear hb2); (try clear hk); (try clear hi); (try clear ho0)) | ((with_reducible refine gate_dst (N := 6) rfl ?_); refine box_event ?hg (N := 6) ?hd (cs := #[.bool false, .bool false, .slice none 0 0]) (t := 63) ?hr ?_; (case hd => rfl); (case hg => rfl); (case hr => first | (go_simp; done) | (go_simp; rfl)); intro gb174 hg w54 hbox hb; have n0_ := Aside0.mk (Kd.R_below (Kd.R_elderB (by (with_reducible repeat (first | apply Kd.R_alloc | apply Kd.R_drewN | apply Kd.R_drew)); exact HO_3.out) gb174 (Nat.le_of_eq hg.symm)) hb); have n1_ := Aside0.mk (Kd.R_below (by (with_reducible repeat (first | apply Kd.R_alloc | apply Kd.R_drewN | apply Kd.R_drew)); exact HO171.out) hb); have n2_ := Aside0.mk (blk_below (g := gb153) (o := .cells #[.int .i32 ((rd_T57 l0 x4_1).f0), .bool ((rd_T57 l0 x4_1).f1)] 57 (0, 0)) (by (with_reducible repeat (first | refine blk_drewN ?_ _ | refine blk_drew ?_ | refine blk_alloc ?_ _)); exact BK153.out) hb); have n3_ := Aside0.mk (below_step (by repeat (first | (with_reducible first | exact HB.out | apply below_alloc | apply pw_below_drewN | apply below_drew1 | refine below_set ?_ GE153.out) | exact HB.out)) hb); have n4_ := Aside0.mk (hbox); have n5_ := Aside0.mk ((by rw [hg]; exact (below_size (by repeat (first | (with_reducible first | exact HB.out | apply below_alloc | apply pw_below_drewN | apply below_drew1 | refine below_set ?_ GE153.out) | exact HB.out))) : w.heap.size ≤ gb174)); have n6_ := Aside0.mk ((by rw [hg]; exact (below_size (by repeat (first | (with_reducible first | exact HB.out | apply below_alloc | apply pw_below_drewN | apply below_drew1 | refine below_set ?_ GE153.out) | exact HB.out))) : w.heap.size ≤ gb174)); have n7_ := Aside0.mk ((by rw [hg]; exact Nat.ne_of_lt (blk_lt (g := gb153) (o := .cells #[.int .i32 ((rd_T57 l0 x4_1).f0), .bool ((rd_T57 l0 x4_1).f1)] 57 (0, 0)) (by (with_reducible repeat (first | refine blk_drewN ?_ _ | refine blk_drew ?_ | refine blk_alloc ?_ _)); exact BK153.out)) : gb153 ≠ gb174)); have n8_ := Aside0.mk ((by rw [hg]; exact Nat.ne_of_gt (blk_lt (g := gb153) (o := .cells #[.int .i32 ((rd_T57 l0 x4_1).f0), .bool ((rd_T57 l0 x4_1).f1)] 57 (0, 0)) (by (with_reducible repeat (first | refine blk_drewN ?_ _ | refine blk_drew ?_ | refine blk_alloc ?_ _)); exact BK153.out)) : gb174 ≠ gb153)); clear HO_3; clear HO171; clear BK153; clear HB; have HO_3 := n0_; have HO171 := n1_; have BK153 := n2_; have HB := n3_; have BK174 := n4_; have GW174 := n5_; have GE174 := n6_; have NB153_174 := n7_; have NB174_153 := n8_; clear n0_ n1_ n2_ n3_ n4_ n5_ n6_ n7_ n8_; clear hb hbox hg; have hnb55 := NB174_153.out; have hnc55 := NB153_174.out; have hcz56_0 : w54.cell? ⟨gb174, 0, none⟩ = some (.bool false) := (blk_cell BK174.out 0).trans rfl; have hcz56_1 : w54.cell? ⟨gb174, 1, none⟩ = some (.bool false) := (blk_cell BK174.out 1).trans rfl; have hcz56_2 : w54.cell? ⟨gb174, 2, none⟩ = some (.slice none 0 0) := (blk_cell BK174.out 2).trans rfl; have hfz56_0 := blk_frozen BK174.out 0; have hfz56_1 := blk_frozen BK174.out 1; have hfz56_2 := blk_frozen BK174.out 2; obtain ⟨Ao57, co57, eo57⟩ := Kd.R_slice HO171.out; subst eo57; have hcz58_0 : w54.cell? ⟨gb153, 0, none⟩ = some (.int .i32 ((rd_T57 l0 x4_1).f0)) := (blk_cell BK153.out 0).trans rfl; have hcz58_1 : w54.cell? ⟨gb153, 1, none⟩ = some (.bool ((rd_T57 l0 x4_1).f1)) := (blk_cell BK153.out 1).trans rfl; have hfz58_0 := blk_frozen BK153.out 0; have hfz58_1 := blk_frozen BK153.out 1) | ((with_reducible refine gate_dst (N := 59) rfl ?_); refine Kd.R_lit k76 _ 76 ?hg (N := 59) ?hd (xs := ([(⟨(rd_T57 l0 x4_1).f0, (rd_T57 l0 x4_1).f0⟩ : S76)] : List (S76))) (inner := [.int .i32 ((rd_T57 l0 x4_1).f0), .int .i32 ((rd_T57 l0 x4_1).f0)]) (ok := fun _ => True) (okp := fun _ => True) ?hr ?hp (fun _ hk => hk) trivial (Below.refl _ _) (Nat.le_refl _) (by simp) ?_; (case hd => rfl); (case hg => rfl); (case hr => first | (go_simp; done) | (go_simp; rfl)); (case hp => exact (Reps.c2 (show Kd.M k76 _ _ _ (⟨(rd_T57 l0 x4_1).f0, (rd_T57 l0 x4_1).f0⟩ : S76) [.int .i32 ((rd_T57 l0 x4_1).f0), .int .i32 ((rd_T57 l0 x4_1).f0)] from (k76_mkM _ _ _ (⟨(rd_T57 l0 x4_1).f0, (rd_T57 l0 x4_1).f0⟩ : S76) )) (Reps.none _ _))); intro v179 w59 ho60 hb hg_ hnew_; clear hg_ hnew_; (first | rw [← Ny178.out] at ho60 | (simp only [Int.reduceToNat] at ho60; rw [← Ny178.out] at ho60)); have n0_ := Aside0.mk (Kd.R_elder' (by (with_reducible repeat (first | apply Kd.R_alloc | apply Kd.R_drewN | apply Kd.R_drew)); exact (Kd.R_mono (Kd.R_far (p := ⟨gb174, 2, none⟩) (Kd.R_far (p := ⟨gb174, 1, none⟩) (Kd.R_far (p := ⟨gb174, 0, none⟩) (Kd.R_mono HO_3.out (fun k_ hk => (⟨hk, hk.2⟩ : _ ∧ k_ ≠ gb174))) (fun _ hk => hk.2) (.bool t167)) (fun _ hk => hk.2) (.bool t168)) (fun _ hk => hk.2) (.slice Ao57 t169.length co57)) (fun _ h_ => h_.1))) (Kd.R_base ho60) hb); have n1_ := Aside0.mk (Kd.R_elder' (by (with_reducible repeat (first | apply Kd.R_alloc | apply Kd.R_drewN | apply Kd.R_drew)); exact (Kd.R_mono (Kd.R_far (p := ⟨gb174, 2, none⟩) (Kd.R_far (p := ⟨gb174, 1, none⟩) (Kd.R_far (p := ⟨gb174, 0, none⟩) (Kd.R_types HO171.out BK174.out (by decide)) (fun _ hk => hk.2) (.bool t167)) (fun _ hk => hk.2) (.bool t168)) (fun _ hk => hk.2) (.slice Ao57 t169.length co57)) (fun _ h_ => h_.1))) (Kd.R_base ho60) hb); have n2_ := Aside0.mk (Kd.R_lower (Kd.R_new' ho60 (Kd.R_lt (by (with_reducible repeat (first | apply Kd.R_alloc | apply Kd.R_drewN | apply Kd.R_drew)); exact (Kd.R_mono (Kd.R_far (p := ⟨gb174, 2, none⟩) (Kd.R_far (p := ⟨gb174, 1, none⟩) (Kd.R_far (p := ⟨gb174, 0, none⟩) (Kd.R_types HO171.out BK174.out (by decide)) (fun _ hk => hk.2) (.bool t167)) (fun _ hk => hk.2) (.bool t168)) (fun _ hk => hk.2) (.slice Ao57 t169.length co57)) (fun _ h_ => h_.1))))) (below_size (by repeat (first | (with_reducible first | exact HB.out | apply below_alloc | apply pw_below_drewN | apply below_drew1 | refine below_set ?_ GE153.out | refine below_set ?_ GE174.out) | exact HB.out)))); have n3_ := Aside0.mk (blk_below (g := gb153) (o := .cells #[.int .i32 ((rd_T57 l0 x4_1).f0), .bool ((rd_T57 l0 x4_1).f1)] 57 (0, 0)) (by (with_reducible repeat (first | refine blk_drewN ?_ _ | refine blk_drew ?_ | refine blk_alloc ?_ _)); refine blk_far ?_ NB153_174.out _; (with_reducible repeat (first | refine blk_drewN ?_ _ | refine blk_drew ?_ | refine blk_alloc ?_ _)); refine blk_far ?_ NB153_174.out _; (with_reducible repeat (first | refine blk_drewN ?_ _ | refine blk_drew ?_ | refine blk_alloc ?_ _)); refine blk_far ?_ NB153_174.out _; (with_reducible repeat (first | refine blk_drewN ?_ _ | refine blk_drew ?_ | refine blk_alloc ?_ _)); exact BK153.out) hb); have n4_ := Aside0.mk (blk_below (g := gb174) (o := .cells #[.bool t167, .bool t168, .slice Ao57 t169.length co57] 63 (0, 0)) (by (with_reducible repeat (first | refine blk_drewN ?_ _ | refine blk_drew ?_ | refine blk_alloc ?_ _)); refine blk_put (cs := #[.bool t167, .bool t168, .slice none 0 0]) ?_ 2 _ rfl; (with_reducible repeat (first | refine blk_drewN ?_ _ | refine blk_drew ?_ | refine blk_alloc ?_ _)); refine blk_put (cs := #[.bool t167, .bool false, .slice none 0 0]) ?_ 1 _ rfl; (with_reducible repeat (first | refine blk_drewN ?_ _ | refine blk_drew ?_ | refine blk_alloc ?_ _)); refine blk_put (cs := #[.bool false, .bool false, .slice none 0 0]) ?_ 0 _ rfl; (with_reducible repeat (first | refine blk_drewN ?_ _ | refine blk_drew ?_ | refine blk_alloc ?_ _)); exact BK174.out) hb); have n5_ := Aside0.mk (below_step (by repeat (first | (with_reducible first | exact HB.out | apply below_alloc | apply pw_below_drewN | apply below_drew1 | refine below_set ?_ GE153.out | refine below_set ?_ GE174.out) | exact HB.out)) hb); clear HO_3; clear HO171; clear BK153; clear BK174; clear HB; have HO_3 := n0_; have HO171 := n1_; have HO180 := n2_; have BK153 := n3_; have BK174 := n4_; have HB := n5_; clear n0_ n1_ n2_ n3_ n4_ n5_; clear hb ho60; obtain ⟨Ao61, co61, eo61⟩ := Kd.R_slice HO180.out; subst eo61) | ((with_reducible refine gate_builtin (b := .append) (xs := #[.tmp 53, .tmp 61]) rfl ?_); at_builtin; refine Kd.R_append k63 (w0 := w) w.heap.size rfl (.tmp 53) (.tmp 61) 59 63 (.agg #[(.bool false), (.bool false), (.slice none 0 0)]) 32 rfl Tryd.underlying59 info63 rfl (by decide) (by omega) u3 x3_1 (⟨false, false, y178⟩ : S63) [.bool false, .bool false, .slice Ao61 y178.length co61] (fun k_ => some k_ ≠ (.slice Ao57 t169.length co57 : Value).ownBlock ∧ k_ ≠ gb174) (fun k_ => ((fun k_ => some k_ ≠ (.slice Ao57 t169.length co57 : Value).ownBlock ∧ k_ ≠ gb174)) k_ ∧ some k_ ≠ (u3 : Value).ownBlock) rfl rfl ?aP (fun _ hk => hk) ?aF ?aO ?aB ?aS ?aL ?_; (case aP => exact k63_mkM _ _ _ (⟨false, false, y178⟩ : S63) (Kd.R_mono (Kd.R_types (Kd.R_apart' (HO180.out) (Kd.R_typed HO_3.out) (by decide)) BK174.out (by decide)) (fun k_ hk => ⟨⟨hk.1.1.2, hk.2⟩, hk.1.2⟩))); (case aB => exact (by repeat (first | (with_reducible first | exact HB.out | apply below_alloc | apply pw_below_drewN | apply below_drew1 | refine below_set ?_ GE153.out | refine below_set ?_ GE174.out) | exact HB.out))); (case aF => exact (fun k_ hk => ⟨Kd.fresh' (Kd.R_lt (by (with_reducible repeat (first | apply Kd.R_alloc | apply Kd.R_drewN | apply Kd.R_drew)); exact HO171.out)) k_ hk, Kd.freshB (g := gb174) (o := .cells #[.bool t167, .bool t168, .slice Ao57 t169.length co57] 63 (0, 0)) (by (with_reducible repeat (first | refine blk_drewN ?_ _ | refine blk_drew ?_ | refine blk_alloc ?_ _)); exact BK174.out) k_ hk⟩)); (case aO => exact (by (with_reducible repeat (first | apply Kd.R_alloc | apply Kd.R_drewN | apply Kd.R_drew)); exact Kd.R_mono HO_3.out (fun _ hk => ⟨hk.1.1.2, hk.1.2⟩))); (case aS => exact (below_size (by repeat (first | (with_reducible first | exact HB.out | apply below_alloc | apply pw_below_drewN | apply below_drew1 | refine below_set ?_ GE153.out | refine below_set ?_ GE174.out) | exact HB.out)))); (case aL => have := LMc44.out; omega); intro v182 w62 ho hb hg hat; rw [← Ny181.out] at ho; have n0_ := Aside0.mk (blk_grown (g := gb153) (o := .cells #[.int .i32 ((rd_T57 l0 x4_1).f0), .bool ((rd_T57 l0 x4_1).f1)] 57 (0, 0)) (by (with_reducible repeat (first | refine blk_drewN ?_ _ | refine blk_drew ?_ | refine blk_alloc ?_ _)); exact BK153.out) hg (Kd.R_ne HO_3.out BK153.out (by decide))); have n1_ := Aside0.mk (Kd.R_over' (by (with_reducible repeat (first | apply Kd.R_alloc | apply Kd.R_drewN | apply Kd.R_drew)); exact HO171.out) (Kd.R_typed (by (with_reducible repeat (first | apply Kd.R_alloc | apply Kd.R_drewN | apply Kd.R_drew)); exact HO_3.out)) (by decide) hg); have n2_ := Aside0.mk (blk_grown (g := gb174) (o := .cells #[.bool t167, .bool t168, .slice Ao57 t169.length co57] 63 (0, 0)) (by (with_reducible repeat (first | refine blk_drewN ?_ _ | refine blk_drew ?_ | refine blk_alloc ?_ _)); exact BK174.out) hg (Kd.R_away HO_3.out (fun _ hk => hk.1.2))); have n3_ := Aside0.mk (hb); have n4_ := Aside0.mk (ho); clear BK153; clear HO171; clear BK174; clear HB; clear HO_3; clear HO180; have BK153 := n0_; have HO171 := n1_; have BK174 := n2_; have HB := n3_; have HO183 := n4_; clear n0_ n1_ n2_ n3_ n4_; clear ho hb hg hat))
                        go_roundg k1
                        case measure => have := HK1.out; omega
                        case rel => exact ⟨(y181), (ji22), (by first | rfl | (simp; done) | (simp only [← hji22] <;> (first | rfl | simp)) | (simp [*]; done)), H', ⟨by have := HK1.out; omega⟩, ⟨by (with_reducible repeat (first | apply Kd.R_alloc | apply Kd.R_drewN | apply Kd.R_drew)); exact Kd.R_mono HO183.out (fun _ hk => trivial)⟩, ⟨by repeat (first | (with_reducible first | exact HB.out | apply below_alloc | apply pw_below_drewN | apply below_drew1 | refine below_set ?_ GE153.out | refine below_set ?_ GE174.out) | exact HB.out)⟩⟩
                      · rw [if_neg c44] at H
                        exact absurd H (by simp)
                  · rw [if_neg c24] at H
                    exact absurd H (by simp)
                · rw [if_neg c23] at H
                  exact absurd H (by simp)
              · replace c21 := Bool.eq_false_iff.mpr c21
                subst c21
                have H1 : (if x3_1.length < 4398046511104 then (glob_pieces.l0 k1 l0 (x3_1 ++ [(⟨false, false, (([(⟨(rd_T57 l0 x4_1).f0, (rd_T57 l0 x4_1).f0⟩ : S76)] : List (S76)))⟩ : S63)]) (wrap64 (x4_1 + 1))) else (none)) = some r := by rw [if_neg (show ¬ (false = true) by decide)] at H; exact H
                clear H
                have H := H1
                clear H1
                obtain ⟨y184, hy184⟩ : ∃ y_ : List (S76), y_ = (([(⟨(rd_T57 l0 x4_1).f0, (rd_T57 l0 x4_1).f0⟩ : S76)] : List (S76))) := ⟨_, rfl⟩
                replace H : (if x3_1.length < 4398046511104 then (glob_pieces.l0 k1 l0 (x3_1 ++ [(⟨false, false, y184⟩ : S63)]) (wrap64 (x4_1 + 1))) else (none)) = some r := by first | (rw [hy184]; with_reducible exact H) | (have H2_ := (Option.bind_some _ _).symm.trans H; rw [hy184]; with_reducible exact H2_) | (have H2_ := (Option.bind_some _ _).symm.trans H; with_reducible exact H2_) | with_reducible exact H | (rw [hy184]; exact H) | exact H
                have Ny184 := Aside0.mk hy184
                clear hy184
                by_cases c63 : x3_1.length < 4398046511104
                · rw [if_pos c63] at H
                  have LMc63 := Aside0.mk c63
                  clear c63
                  obtain ⟨y187, hy187⟩ : ∃ y_ : List (S63), y_ = (x3_1 ++ [(⟨false, false, y184⟩ : S63)]) := ⟨_, rfl⟩
                  replace H : (glob_pieces.l0 k1 l0 y187 (wrap64 (x4_1 + 1))) = some r := by first | (rw [hy187]; with_reducible exact H) | (have H2_ := (Option.bind_some _ _).symm.trans H; rw [hy187]; with_reducible exact H2_) | (have H2_ := (Option.bind_some _ _).symm.trans H; with_reducible exact H2_) | with_reducible exact H | (rw [hy187]; exact H) | exact H
                  have Ny187 := Aside0.mk hy187
                  clear hy187
                  have H' := Aside0.mk H
                  clear H
                  have p152 : 0 ≤ (x4_1 : Int) := of_decide_eq_true (by first | (with_reducible assumption) | assumption)
                  have q152 : x4_1 < (l0.length : Int) := of_decide_eq_true (by first | (with_reducible assumption) | assumption)
                  obtain ⟨ad152, e152, hx152_0, hx152_1⟩ := at_T57 HR0.out x4_1 p152 q152
                  cases e152
                  replace hx152_0 := (HB.out.cell (World.block_lt_of_cell? w _ hx152_0)).trans hx152_0
                  replace hx152_1 := (HB.out.cell (World.block_lt_of_cell? w _ hx152_1)).trans hx152_1
                  replace p152 := eq_true p152
                  replace q152 := eq_true q152
                  go_wp2_with (first | ((with_reducible refine gate_dst (N := 5) rfl ?_); refine box_event ?hg (N := 5) ?hd (cs := #[.int .i32 0, .bool false]) (t := 57) ?hr ?_; (case hd => rfl); (case hg => rfl); (case hr => first | (go_simp; done) | (go_simp; rfl)); intro gb153 hg w64 hbox hb; have n0_ := Aside0.mk (Kd.R_below (by (with_reducible repeat (first | apply Kd.R_alloc | apply Kd.R_drewN | apply Kd.R_drew)); exact HO_3.out) hb); have n1_ := Aside0.mk (below_step (by repeat (first | (with_reducible first | exact HB.out | apply below_alloc | apply pw_below_drewN | apply below_drew1) | exact HB.out)) hb); have n2_ := Aside0.mk (hbox); have n3_ := Aside0.mk ((by rw [hg]; exact (below_size (by repeat (first | (with_reducible first | exact HB.out | apply below_alloc | apply pw_below_drewN | apply below_drew1) | exact HB.out))) : w.heap.size ≤ gb153)); have n4_ := Aside0.mk ((by rw [hg]; exact (below_size (by repeat (first | (with_reducible first | exact HB.out | apply below_alloc | apply pw_below_drewN | apply below_drew1) | exact HB.out))) : w.heap.size ≤ gb153)); clear HO_3; clear HB; have HO_3 := n0_; have HB := n1_; have BK153 := n2_; have GW153 := n3_; have GE153 := n4_; clear n0_ n1_ n2_ n3_ n4_; clear hb hbox hg; have hcz65_0 : w64.cell? ⟨gb153, 0, none⟩ = some (.int .i32 0) := (blk_cell BK153.out 0).trans rfl; have hcz65_1 : w64.cell? ⟨gb153, 1, none⟩ = some (.bool false) := (blk_cell BK153.out 1).trans rfl; have hfz65_0 := blk_frozen BK153.out 0; have hfz65_1 := blk_frozen BK153.out 1) | ((with_reducible refine gate_callee (f := 47) rfl ?_); refine goesL_ (some 21) rfl rfl Tryd.func47 (by kernel_rfl) rfl #[.agg #[.int .i32 ((rd_T57 l0 x4_1).f0), .bool ((rd_T57 l0 x4_1).f1)], .int .i32 42] rfl (by (try simp only [List.map_toArray, List.map_cons, List.map_nil]); first | done | rfl | (simp only [List.length_drop, List.length_take]; rfl)) ?_; (with_reducible refine (glob_is.calls ((rd_T57 l0 x4_1).f0) ((rd_T57 l0 x4_1).f1) 42 false _ A4.out).mono ?_); rintro e w66 ⟨rfl, hb⟩; refine ⟨_, rfl, ?_⟩; have n0_ := Aside0.mk (Kd.R_below (by (with_reducible repeat (first | apply Kd.R_alloc | apply Kd.R_drewN | apply Kd.R_drew)); exact (Kd.R_mono (Kd.R_far (p := ⟨gb153, 1, none⟩) (Kd.R_far (p := ⟨gb153, 0, none⟩) (Kd.R_types HO_3.out BK153.out (by decide)) (fun _ hk => hk.2) (.int .i32 ((rd_T57 l0 x4_1).f0))) (fun _ hk => hk.2) (.bool ((rd_T57 l0 x4_1).f1))) (fun _ h_ => h_.1))) hb); have n1_ := Aside0.mk (blk_below (g := gb153) (o := .cells #[.int .i32 ((rd_T57 l0 x4_1).f0), .bool ((rd_T57 l0 x4_1).f1)] 57 (0, 0)) (by (with_reducible repeat (first | refine blk_drewN ?_ _ | refine blk_drew ?_ | refine blk_alloc ?_ _)); refine blk_put (cs := #[.int .i32 ((rd_T57 l0 x4_1).f0), .bool false]) ?_ 1 _ rfl; (with_reducible repeat (first | refine blk_drewN ?_ _ | refine blk_drew ?_ | refine blk_alloc ?_ _)); refine blk_put (cs := #[.int .i32 0, .bool false]) ?_ 0 _ rfl; (with_reducible repeat (first | refine blk_drewN ?_ _ | refine blk_drew ?_ | refine blk_alloc ?_ _)); exact BK153.out) hb); have n2_ := Aside0.mk (below_step (by repeat (first | (with_reducible first | exact HB.out | apply below_alloc | apply pw_below_drewN | apply below_drew1 | refine below_set ?_ GE153.out) | exact HB.out)) hb); clear HO_3; clear BK153; clear HB; have HO_3 := n0_; have BK153 := n1_; have HB := n2_; clear n0_ n1_ n2_; (try clear hb); (try clear hb2); (try clear hk); (try clear hi); have hcz67_0 : w66.cell? ⟨gb153, 0, none⟩ = some (.int .i32 ((rd_T57 l0 x4_1).f0)) := (blk_cell BK153.out 0).trans rfl; have hcz67_1 : w66.cell? ⟨gb153, 1, none⟩ = some (.bool ((rd_T57 l0 x4_1).f1)) := (blk_cell BK153.out 1).trans rfl; have hfz67_0 := blk_frozen BK153.out 0; have hfz67_1 := blk_frozen BK153.out 1) | ((with_reducible refine gate_callee (f := 47) rfl ?_); refine goesL_ (some 28) rfl rfl Tryd.func47 (by kernel_rfl) rfl #[.agg #[.int .i32 ((rd_T57 l0 x4_1).f0), .bool ((rd_T57 l0 x4_1).f1)], .int .i32 63] rfl (by (try simp only [List.map_toArray, List.map_cons, List.map_nil]); first | done | rfl | (simp only [List.length_drop, List.length_take]; rfl)) ?_; (with_reducible refine (glob_is.calls ((rd_T57 l0 x4_1).f0) ((rd_T57 l0 x4_1).f1) 63 false _ A11.out).mono ?_); rintro e w68 ⟨rfl, hb⟩; refine ⟨_, rfl, ?_⟩; have n0_ := Aside0.mk (Kd.R_below (by (with_reducible repeat (first | apply Kd.R_alloc | apply Kd.R_drewN | apply Kd.R_drew)); exact HO_3.out) hb); have n1_ := Aside0.mk (blk_below (g := gb153) (o := .cells #[.int .i32 ((rd_T57 l0 x4_1).f0), .bool ((rd_T57 l0 x4_1).f1)] 57 (0, 0)) (by (with_reducible repeat (first | refine blk_drewN ?_ _ | refine blk_drew ?_ | refine blk_alloc ?_ _)); exact BK153.out) hb); have n2_ := Aside0.mk (below_step (by repeat (first | (with_reducible first | exact HB.out | apply below_alloc | apply pw_below_drewN | apply below_drew1 | refine below_set ?_ GE153.out) | exact HB.out)) hb); clear HO_3; clear BK153; clear HB; have HO_3 := n0_; have BK153 := n1_; have HB := n2_; clear n0_ n1_ n2_; (try clear hb); (try clear hb2); (try clear hk); (try clear hi); have hcz69_0 : w68.cell? ⟨gb153, 0, none⟩ = some (.int .i32 ((rd_T57 l0 x4_1).f0)) := (blk_cell BK153.out 0).trans rfl; have hcz69_1 : w68.cell? ⟨gb153, 1, none⟩ = some (.bool ((rd_T57 l0 x4_1).f1)) := (blk_cell BK153.out 1).trans rfl; have hfz69_0 := blk_frozen BK153.out 0; have hfz69_1 := blk_frozen BK153.out 1) | ((with_reducible refine gate_callee (f := 47) rfl ?_); refine goesL_ (some 35) rfl rfl Tryd.func47 (by kernel_rfl) rfl #[.agg #[.int .i32 ((rd_T57 l0 x4_1).f0), .bool ((rd_T57 l0 x4_1).f1)], .int .i32 91] rfl (by (try simp only [List.map_toArray, List.map_cons, List.map_nil]); first | done | rfl | (simp only [List.length_drop, List.length_take]; rfl)) ?_; (with_reducible refine (glob_is.calls ((rd_T57 l0 x4_1).f0) ((rd_T57 l0 x4_1).f1) 91 false _ A20.out).mono ?_); rintro e w70 ⟨rfl, hb⟩; refine ⟨_, rfl, ?_⟩; have n0_ := Aside0.mk (Kd.R_below (by (with_reducible repeat (first | apply Kd.R_alloc | apply Kd.R_drewN | apply Kd.R_drew)); exact HO_3.out) hb); have n1_ := Aside0.mk (blk_below (g := gb153) (o := .cells #[.int .i32 ((rd_T57 l0 x4_1).f0), .bool ((rd_T57 l0 x4_1).f1)] 57 (0, 0)) (by (with_reducible repeat (first | refine blk_drewN ?_ _ | refine blk_drew ?_ | refine blk_alloc ?_ _)); exact BK153.out) hb); have n2_ := Aside0.mk (below_step (by repeat (first | (with_reducible first | exact HB.out | apply below_alloc | apply pw_below_drewN | apply below_drew1 | refine below_set ?_ GE153.out) | exact HB.out)) hb); clear HO_3; clear BK153; clear HB; have HO_3 := n0_; have BK153 := n1_; have HB := n2_; clear n0_ n1_ n2_; (try clear hb); (try clear hb2); (try clear hk); (try clear hi); have hcz71_0 : w70.cell? ⟨gb153, 0, none⟩ = some (.int .i32 ((rd_T57 l0 x4_1).f0)) := (blk_cell BK153.out 0).trans rfl; have hcz71_1 : w70.cell? ⟨gb153, 1, none⟩ = some (.bool ((rd_T57 l0 x4_1).f1)) := (blk_cell BK153.out 1).trans rfl; have hfz71_0 := blk_frozen BK153.out 0; have hfz71_1 := blk_frozen BK153.out 1) | ((with_reducible refine gate_dst (N := 59) rfl ?_); refine Kd.R_lit k76 _ 76 ?hg (N := 59) ?hd (xs := ([(⟨(rd_T57 l0 x4_1).f0, (rd_T57 l0 x4_1).f0⟩ : S76)] : List (S76))) (inner := [.int .i32 ((rd_T57 l0 x4_1).f0), .int .i32 ((rd_T57 l0 x4_1).f0)]) (ok := fun _ => True) (okp := fun _ => True) ?hr ?hp (fun _ hk => hk) trivial (Below.refl _ _) (Nat.le_refl _) (by simp) ?_; (case hd => rfl); (case hg => rfl); (case hr => first | (go_simp; done) | (go_simp; rfl)); (case hp => exact (Reps.c2 (show Kd.M k76 _ _ _ (⟨(rd_T57 l0 x4_1).f0, (rd_T57 l0 x4_1).f0⟩ : S76) [.int .i32 ((rd_T57 l0 x4_1).f0), .int .i32 ((rd_T57 l0 x4_1).f0)] from (k76_mkM _ _ _ (⟨(rd_T57 l0 x4_1).f0, (rd_T57 l0 x4_1).f0⟩ : S76) )) (Reps.none _ _))); intro v185 w72 ho73 hb hg_ hnew_; clear hg_ hnew_; (first | rw [← Ny184.out] at ho73 | (simp only [Int.reduceToNat] at ho73; rw [← Ny184.out] at ho73)); have n0_ := Aside0.mk (Kd.R_elder' (by (with_reducible repeat (first | apply Kd.R_alloc | apply Kd.R_drewN | apply Kd.R_drew)); exact HO_3.out) (Kd.R_base ho73) hb); have n1_ := Aside0.mk (Kd.R_lower ho73 (below_size (by repeat (first | (with_reducible first | exact HB.out | apply below_alloc | apply pw_below_drewN | apply below_drew1 | refine below_set ?_ GE153.out) | exact HB.out)))); have n2_ := Aside0.mk (blk_below (g := gb153) (o := .cells #[.int .i32 ((rd_T57 l0 x4_1).f0), .bool ((rd_T57 l0 x4_1).f1)] 57 (0, 0)) (by (with_reducible repeat (first | refine blk_drewN ?_ _ | refine blk_drew ?_ | refine blk_alloc ?_ _)); exact BK153.out) hb); have n3_ := Aside0.mk (below_step (by repeat (first | (with_reducible first | exact HB.out | apply below_alloc | apply pw_below_drewN | apply below_drew1 | refine below_set ?_ GE153.out) | exact HB.out)) hb); clear HO_3; clear BK153; clear HB; have HO_3 := n0_; have HO186 := n1_; have BK153 := n2_; have HB := n3_; clear n0_ n1_ n2_ n3_; clear hb ho73; obtain ⟨Ao74, co74, eo74⟩ := Kd.R_slice HO186.out; subst eo74) | ((with_reducible refine gate_builtin (b := .append) (xs := #[.tmp 53, .tmp 61]) rfl ?_); at_builtin; refine Kd.R_append k63 (w0 := w) w.heap.size rfl (.tmp 53) (.tmp 61) 59 63 (.agg #[(.bool false), (.bool false), (.slice none 0 0)]) 32 rfl Tryd.underlying59 info63 rfl (by decide) (by omega) u3 x3_1 (⟨false, false, y184⟩ : S63) [.bool false, .bool false, .slice Ao74 y184.length co74] (fun _ => True) (fun k_ => ((fun _ => True)) k_ ∧ some k_ ≠ (u3 : Value).ownBlock) rfl rfl ?aP (fun _ hk => hk) ?aF ?aO ?aB ?aS ?aL ?_; (case aP => exact k63_mkM _ _ _ (⟨false, false, y184⟩ : S63) (Kd.R_mono (Kd.R_apart' (HO186.out) (Kd.R_typed HO_3.out) (by decide)) (fun k_ hk => ⟨trivial, hk.2⟩))); (case aB => exact (by repeat (first | (with_reducible first | exact HB.out | apply below_alloc | apply pw_below_drewN | apply below_drew1 | refine below_set ?_ GE153.out) | exact HB.out))); (case aF => exact (fun _ _ => trivial)); (case aO => exact (by (with_reducible repeat (first | apply Kd.R_alloc | apply Kd.R_drewN | apply Kd.R_drew)); exact Kd.R_mono HO_3.out (fun _ hk => trivial))); (case aS => exact (below_size (by repeat (first | (with_reducible first | exact HB.out | apply below_alloc | apply pw_below_drewN | apply below_drew1 | refine below_set ?_ GE153.out) | exact HB.out)))); (case aL => have := LMc63.out; omega); intro v188 w75 ho hb hg hat; rw [← Ny187.out] at ho; have n0_ := Aside0.mk (blk_grown (g := gb153) (o := .cells #[.int .i32 ((rd_T57 l0 x4_1).f0), .bool ((rd_T57 l0 x4_1).f1)] 57 (0, 0)) (by (with_reducible repeat (first | refine blk_drewN ?_ _ | refine blk_drew ?_ | refine blk_alloc ?_ _)); exact BK153.out) hg (Kd.R_ne HO_3.out BK153.out (by decide))); have n1_ := Aside0.mk (hb); have n2_ := Aside0.mk (ho); clear BK153; clear HB; clear HO_3; clear HO186; have BK153 := n0_; have HB := n1_; have HO189 := n2_; clear n0_ n1_ n2_; clear ho hb hg hat))
                  go_roundg k1
                  case measure => have := HK1.out; omega
                  case rel => exact ⟨(y187), (wrap64 (x4_1 + 1)), (by first | rfl | (simp; done) | (simp [*]; done) | (simp; unfold wrap64; omega)), H', ⟨by have := HK1.out; omega⟩, ⟨by (with_reducible repeat (first | apply Kd.R_alloc | apply Kd.R_drewN | apply Kd.R_drew)); exact HO189.out⟩, ⟨by repeat (first | (with_reducible first | exact HB.out | apply below_alloc | apply pw_below_drewN | apply below_drew1 | refine below_set ?_ GE153.out) | exact HB.out)⟩⟩
                · rw [if_neg c63] at H
                  exact absurd H (by simp)
        · rw [if_neg c3] at H
          exact absurd H (by simp)
      · rw [if_neg c2] at H
        have c2b0 : decide (x4_1 < (l0.length : Int)) = false := decide_eq_false c2
        clear c2
        obtain rfl := Option.some.inj H
        go_wp2
        go_ret
        exact ⟨_, by first | rfl | (simp [errW_none, errW_some] <;> rfl) | (simp [*, errW_none, errW_some] <;> rfl), by (with_reducible repeat (first | apply Kd.R_alloc | apply Kd.R_drewN | apply Kd.R_drew)); exact HO_3.out, by repeat (first | (with_reducible first | exact HB.out | apply below_alloc | apply pw_below_drewN | apply below_drew1) | exact HB.out)⟩

-- NOT PRINTED: function 57 (glob_span_57)

-- NOT PRINTED: function 53 (glob_span_53)

/-! ### glob_piece_fits: function 44 -/
theorem glob_piece_fits.cl_any (a b c : Int) (r : Bool) (hr : (decide (a ≤ c) && decide (c ≤ b)) = r) (p : Nat) (w : World) (hp : w.cell? ⟨p, 0, none⟩ = some (.int .i32 c)) (hlt : p < w.heap.size) :
    Calls Tryd.prog 54 #[.agg #[.int .i32 a, .int .i32 b], .pointer (some ⟨p, 0, none⟩)] w fun e w' => e = .returned (.bool r) ∧ Below w.heap.size w w' := by
  by_cases h1 : a ≤ c
  · have h1d : decide (a ≤ c) = true := decide_eq_true h1
    by_cases h2 : c ≤ b
    · have h2d : decide (c ≤ b) = true := decide_eq_true h2
      obtain rfl : true = r := by rw [← hr, h1d, h2d]; rfl
      clear hr h1 h2
      go_enter Tryd.func54, Tryd.ntmps54
      go_wp2
      go_ret
      exact ⟨rfl, below_alloc (Below.refl _ _) _⟩
    · have h2d : decide (c ≤ b) = false := decide_eq_false h2
      obtain rfl : false = r := by rw [← hr, h1d, h2d]; rfl
      clear hr h1 h2
      go_enter Tryd.func54, Tryd.ntmps54
      go_wp2
      go_ret
      exact ⟨rfl, below_alloc (Below.refl _ _) _⟩
  · have h1d : decide (a ≤ c) = false := decide_eq_false h1
    obtain rfl : false = r := by rw [← hr, h1d]; rfl
    clear hr h1
    go_enter Tryd.func54, Tryd.ntmps54
    go_wp2
    go_ret
    exact ⟨rfl, below_alloc (Below.refl _ _) _⟩
def glob_piece_fits.p (c : Int) (x : S76) : Bool := decide (x.f0 ≤ c) && decide (c ≤ x.f1)
set_option maxHeartbeats 1000000 in
theorem glob_piece_fits.ix_any (A : Option Addr) (c : Nat) (l : List S76) (y : Int) (p : Nat) (w : World) (hr : Kd.C k76 w A l.length l) (hc : l.length ≤ c) (hp : w.cell? ⟨p, 0, none⟩ = some (.int .i32 y)) (hlt : p < w.heap.size) :
    Calls Tryd.prog 57 #[.slice A l.length c, .func (.func 54) #[] #[.pointer (some ⟨p, 0, none⟩)]] w fun e w' => e = .returned (.int .i64 (Kd.idxN (glob_piece_fits.p y) l 0)) ∧ Below w.heap.size w w' := by
  have HM : l.length ≤ 9223372036854775807 := hr.2.1
  have HR := Aside0.mk hr
  have HC := Aside0.mk hc
  have HPC := Aside0.mk hp
  have HPL := Aside0.mk hlt
  clear hr hc hp hlt
  go_enter Tryd.func57, Tryd.ntmps57
  go_wp2
  go_loopw [8] (fun v wr => ∃ i : Nat, i ≤ l.length ∧ v = .int .i64 i ∧ Aside0 (Kd.idxN (glob_piece_fits.p y) (l.drop i) i = Kd.idxN (glob_piece_fits.p y) l 0) ∧ Aside0 (Below w.heap.size w wr)) (fun v _ => (l.length - intOf v).toNat)
  case atStart => exact ⟨0, Nat.zero_le _, rfl, ⟨rfl⟩, ⟨Below.refl _ _⟩⟩
  case round =>
    obtain ⟨i, hil, rfl, HI, HB⟩ := hrel
    have HP1 := Aside0.mk (pw_cell_below HB.out HPC.out)
    have HL1 := Aside0.mk (Nat.lt_of_lt_of_le HPL.out HB.out.size)
    by_cases hlt : i < l.length
    · obtain ⟨ad, e0, hx0, hx1⟩ := at_T76 (Kd.C_below HR.out HB.out) (i : Int) (by omega) (by omega)
      subst e0
      have e1 : rd_T76 l (i : Int) = l.getD i z76 := rfl
      rw [e1] at hx0 hx1
      simp only [Int.toNat_natCast] at hx0 hx1
      have hd : decide ((i : Int) < (l.length : Int)) = true := by simpa using hlt
      have hd2 : decide (i < l.length) = true := by simpa using hlt
      have HI2 := Aside0.mk ((Kd.idxN_at (glob_piece_fits.p y) l z76 i hlt).symm.trans HI.out)
      have hq0 : (0 ≤ (i : Int)) = True := eq_true (by omega)
      have hq1 : ((i : Int) < (l.length : Int)) = True := eq_true (by omega)
      have hq2 : (i < l.length) = True := eq_true hlt
      have hi1 := Aside0.mk (Nat.succ_le_of_lt hlt)
      have hw1 : IntKind.i64.wrap ((i : Int) + 1) = (i : Int) + 1 := by rw [IntKind.wrap_i64]; omega
      clear hlt e1 HI
      generalize l.getD i z76 = x at hx0 hx1 HI2
      cases hp : glob_piece_fits.p y x with
      | true =>
        rw [hp, if_pos rfl] at HI2
        have HP : Aside0 ((decide (x.f0 ≤ y) && decide (y ≤ x.f1)) = true) := Aside0.mk hp
        clear hp
        go_wp2_with (go_at_call 54; go_must ((with_reducible refine (glob_piece_fits.cl_any x.f0 x.f1 y true HP.out p _ HP1.out HL1.out).mono ?_); rintro e w1 ⟨rfl, hb1⟩; have HB1 := Aside0.mk (below_step HB.out hb1); clear hb1))
        go_ret
        rw [← HI2.out]
        exact ⟨rfl, HB1.out⟩
      | false =>
        rw [hp, if_neg (by simp)] at HI2
        have HP : Aside0 ((decide (x.f0 ≤ y) && decide (y ≤ x.f1)) = false) := Aside0.mk hp
        clear hp
        go_wp2_with (go_at_call 54; go_must ((with_reducible refine (glob_piece_fits.cl_any x.f0 x.f1 y false HP.out p _ HP1.out HL1.out).mono ?_); rintro e w1 ⟨rfl, hb1⟩; have HB1 := Aside0.mk (below_step HB.out hb1); clear hb1))
        exact ⟨⟨i + 1, hi1.out, rfl, HI2, HB1⟩, by have := hi1.out; simp [intOf]; omega⟩
    · have e := HI.out
      rw [Kd.idxN_end _ _ _ hlt] at e
      have HE := Aside0.mk e
      have hd : decide ((i : Int) < (l.length : Int)) = false := by simpa using hlt
      have hd2 : decide (i < l.length) = false := by simpa using hlt
      clear hlt HI e
      go_wp2
      go_ret
      rw [← HE.out]
      exact ⟨rfl, HB.out⟩
theorem glob_piece_fits.co_any (A : Option Addr) (c : Nat) (l : List S76) (y : Int) (p : Nat) (w : World) (hr : Kd.C k76 w A l.length l) (hc : l.length ≤ c) (hp : w.cell? ⟨p, 0, none⟩ = some (.int .i32 y)) (hlt : p < w.heap.size) :
    Calls Tryd.prog 53 #[.slice A l.length c, .func (.func 54) #[] #[.pointer (some ⟨p, 0, none⟩)]] w fun e w' => e = .returned (.bool (l.any (glob_piece_fits.p y))) ∧ Below w.heap.size w w' := by
  have HM : l.length ≤ 9223372036854775807 := hr.2.1
  have HR := Aside0.mk hr
  have HC := Aside0.mk hc
  have HPC := Aside0.mk hp
  have HPL := Aside0.mk hlt
  have HA := Aside0.mk (Kd.idxN_any (glob_piece_fits.p y) l 0)
  clear hr hc hp hlt
  go_enter Tryd.func53, Tryd.ntmps53
  go_wp2_with (go_at_call 57; go_must ((with_reducible refine (glob_piece_fits.ix_any A c l y p _ HR.out HC.out HPC.out HPL.out).mono ?_); rintro e w1 ⟨rfl, hb1⟩; have HB1 := Aside0.mk hb1; clear hb1))
  go_ret
  rw [← HA.out]
  exact ⟨rfl, HB1.out⟩
def glob_piece_fits.f (a0_0 : Bool) (a0_1 : Bool) (l0_2 : List S76) (a1 : Int) : Option Bool := some (l0_2.any (glob_piece_fits.p a1) != a0_1)
set_option maxHeartbeats 1000000 in
theorem glob_piece_fits.calls (a0_0 : Bool) (a0_1 : Bool) (A0_2 : Option Addr) (c0_2 : Nat) (l0_2 : List S76) (a1 : Int) (r : Bool) (w : World) (hr0_2 : Kd.C k76 w A0_2 l0_2.length l0_2) (hc0_2 : l0_2.length ≤ c0_2) (h : glob_piece_fits.f a0_0 a0_1 l0_2 a1 = some r) :
    Calls Tryd.prog 44 #[.agg #[.bool a0_0, .bool a0_1, .slice A0_2 l0_2.length c0_2], .int .i32 a1] w fun e w' => e = .returned (.bool r) ∧ Below w.heap.size w w' := by
  unfold glob_piece_fits.f at h
  injection h with h
  have HRR := Aside0.mk h
  have hmf : ∀ (fn : Fn) (first cap : Array Value) (w : World), (Instr.makeFunc fn first cap).run Tryd.prog w = .ok (.func fn first cap) w := fun _ _ _ _ => rfl
  have HR := Aside0.mk hr0_2
  have HC := Aside0.mk hc0_2
  clear hr0_2 hc0_2 h
  go_enter Tryd.func44, Tryd.ntmps44
  go_wp2_with (go_at_call 53; go_must ((with_reducible refine (glob_piece_fits.co_any A0_2 c0_2 l0_2 a1 (w.heap.size + 1) _ ?s1 HC.out ?s2 ?s3).mono ?_); (case s1 => exact Kd.C_below (Kd.C_below HR.out (below_alloc (Below.refl _ _) _)) (below_alloc (Below.refl _ _) _)); (case s2 => simp); (case s3 => simp); rintro e w1 ⟨rfl, hb1⟩; have HB1 := Aside0.mk (below_then (below_alloc (below_alloc (Below.refl _ _) _) _) (by simp; omega) hb1); have hf1 := pw_cell_below hb1 (pw_cell_below (below_alloc (Below.refl _ _) _) (Kd.heap_cell (heap_alloc_new _ _) 1)); clear hb1))
  go_ret
  rw [← HRR.out]
  exact ⟨rfl, HB1.out⟩


end Go.Proofs.YtnhmfeihnjdcpaaDoor.QGlobStar
