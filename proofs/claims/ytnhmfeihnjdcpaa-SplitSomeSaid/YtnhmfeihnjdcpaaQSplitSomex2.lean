-- Written by a program of this session (wip/tools), out of the kit's print of the loaded program: functions, and proofs that the calls come to them.
import Derived.Test.YtnhmfeihnjdcpaaQSplitSomex0
import Derived.Test.YtnhmfeihnjdcpaaQSplitSomex1
namespace Go.Proofs.Ytnhmfeihnjdcpaa.QSplitSome
open Go.RowKit Go.Proofs.YtnhmfeihnjdcpaaW.PrintWords Go.Proofs.YtnhmfeihnjdcpaaW.PrintLast Go.Proofs.YtnhmfeihnjdcpaaW.PrintMore
attribute [local go_sem] max2_int min2_int max_two min_two max_three min_three max_four min_four   -- for this text's walks alone
set_option linter.unusedVariables false
set_option linter.unusedSimpArgs false

/-! ### lazaruslaw15_SplitSome: function 4 -/
mutual
def lazaruslaw15_SplitSome.l0 : Nat → List (S30) → Bool → Bool → Int → Int → Option (Bool)
  | 0, _, _, _, _, _ => none
  | k + 1, x0, x3, x4, x5, x6 => if x6 < (x0.length : Int) then (if x3 = true then (if x4 = true then (if 0 ≤ x6 then (if (wrap64 (x5 + (((rd_T30 x0 x6).f0).size : Int))) > 300 then (some true) else (if x6 > 50 then (some true) else (lazaruslaw15_SplitSome.l0 k x0 true true (wrap64 (x5 + (((rd_T30 x0 x6).f0).size : Int))) (wrap64 (x6 + 1))))) else (none)) else (if 0 ≤ x6 then (if ((rd_T30 x0 x6).f1 = true) then (if (wrap64 (x5 + (((rd_T30 x0 x6).f0).size : Int))) > 300 then (some true) else (if x6 > 50 then (some true) else (lazaruslaw15_SplitSome.l0 k x0 true false (wrap64 (x5 + (((rd_T30 x0 x6).f0).size : Int))) (wrap64 (x6 + 1))))) else (if ((rd_T30 x0 x6).f2 = true) then (if (wrap64 (x5 + (((rd_T30 x0 x6).f0).size : Int))) > 300 then (some true) else (if x6 > 50 then (some true) else (lazaruslaw15_SplitSome.l0 k x0 true false (wrap64 (x5 + (((rd_T30 x0 x6).f0).size : Int))) (wrap64 (x6 + 1))))) else (if (wrap64 (x5 + (((rd_T30 x0 x6).f0).size : Int))) > 300 then (some true) else (if x6 > 50 then (some true) else (lazaruslaw15_SplitSome.l0 k x0 true (!((rd_T30 x0 x6).f3)) (wrap64 (x5 + (((rd_T30 x0 x6).f0).size : Int))) (wrap64 (x6 + 1))))))) else (none))) else (if 0 ≤ x6 then (if x4 = true then (if (wrap64 (x5 + (((rd_T30 x0 x6).f0).size : Int))) > 300 then (some true) else (if x6 > 50 then (some true) else (lazaruslaw15_SplitSome.l0 k x0 ((rd_T30 x0 x6).f1) true (wrap64 (x5 + (((rd_T30 x0 x6).f0).size : Int))) (wrap64 (x6 + 1))))) else (if ((rd_T30 x0 x6).f1 = true) then (if (wrap64 (x5 + (((rd_T30 x0 x6).f0).size : Int))) > 300 then (some true) else (if x6 > 50 then (some true) else (lazaruslaw15_SplitSome.l0 k x0 ((rd_T30 x0 x6).f1) false (wrap64 (x5 + (((rd_T30 x0 x6).f0).size : Int))) (wrap64 (x6 + 1))))) else (if ((rd_T30 x0 x6).f2 = true) then (if (wrap64 (x5 + (((rd_T30 x0 x6).f0).size : Int))) > 300 then (some true) else (if x6 > 50 then (some true) else (lazaruslaw15_SplitSome.l0 k x0 ((rd_T30 x0 x6).f1) false (wrap64 (x5 + (((rd_T30 x0 x6).f0).size : Int))) (wrap64 (x6 + 1))))) else (if (wrap64 (x5 + (((rd_T30 x0 x6).f0).size : Int))) > 300 then (some true) else (if x6 > 50 then (some true) else (lazaruslaw15_SplitSome.l0 k x0 ((rd_T30 x0 x6).f1) (!((rd_T30 x0 x6).f3)) (wrap64 (x5 + (((rd_T30 x0 x6).f0).size : Int))) (wrap64 (x6 + 1)))))))) else (none))) else ((split_Fields.f x0).bind fun t138 => (lazaruslaw15_SplitSome.l1 k x3 x4 t138 0))
def lazaruslaw15_SplitSome.l1 : Nat → Bool → Bool → List (List (S34)) → Int → Option (Bool)
  | 0, _, _, _, _ => none
  | k + 1, x3, x4, x7, x8 => if x8 < (x7.length : Int) then (if 0 ≤ x8 then (if ((rd_L7 x7 x8).length : Int) = 0 then (lazaruslaw15_SplitSome.j2 k x3 x4 x7 x8 (!x3)) else (lazaruslaw15_SplitSome.j2 k x3 x4 x7 x8 false)) else (none)) else ((lazaruslaw15_known.f k).bind fun t141 => (some t141))
def lazaruslaw15_SplitSome.j2 : Nat → Bool → Bool → List (List (S34)) → Int → Bool → Option (Bool)
  | 0, _, _, _, _, _ => none
  | k + 1, x3, x4, x7, x8, x81 => if x81 = true then (some false) else (lazaruslaw15_SplitSome.l2 k x3 x4 x7 x8 0)
def lazaruslaw15_SplitSome.l2 : Nat → Bool → Bool → List (List (S34)) → Int → Int → Option (Bool)
  | 0, _, _, _, _, _ => none
  | k + 1, x3, x4, x7, x8, x9 => if 0 ≤ x8 then (if x8 < (x7.length : Int) then (if x9 < ((rd_L7 x7 x8).length : Int) then (if 0 ≤ x9 then (if ((rd_T34 (rd_L7 x7 x8) x9).f1 = true) then (lazaruslaw15_SplitSome.l2 k x3 x4 x7 x8 (wrap64 (x9 + 1))) else (if x4 = true then (lazaruslaw15_SplitSome.l2 k x3 x4 x7 x8 (wrap64 (x9 + 1))) else (if ((rd_T34 (rd_L7 x7 x8) x9).f0) = 32 then (some false) else (if ((rd_T34 (rd_L7 x7 x8) x9).f0) = 9 then (some false) else (if ((rd_T34 (rd_L7 x7 x8) x9).f0) = 10 then (some false) else (lazaruslaw15_SplitSome.l2 k x3 x4 x7 x8 (wrap64 (x9 + 1)))))))) else (none)) else (lazaruslaw15_SplitSome.l1 k x3 x4 x7 (wrap64 (x8 + 1)))) else (none)) else (none)
end
def lazaruslaw15_SplitSome.f (k : Nat) (l0 : List (S30)) : Option (Bool) := lazaruslaw15_SplitSome.l0 k l0 false false 0 0
theorem lazaruslaw15_SplitSome.mono_l : ∀ k, (∀ y0 y1 y2 y3 y4, LeO (lazaruslaw15_SplitSome.l0 k y0 y1 y2 y3 y4) (lazaruslaw15_SplitSome.l0 (k + 1) y0 y1 y2 y3 y4)) ∧ (∀ y0 y1 y2 y3, LeO (lazaruslaw15_SplitSome.l1 k y0 y1 y2 y3) (lazaruslaw15_SplitSome.l1 (k + 1) y0 y1 y2 y3)) ∧ (∀ y0 y1 y2 y3 y4, LeO (lazaruslaw15_SplitSome.j2 k y0 y1 y2 y3 y4) (lazaruslaw15_SplitSome.j2 (k + 1) y0 y1 y2 y3 y4)) ∧ (∀ y0 y1 y2 y3 y4, LeO (lazaruslaw15_SplitSome.l2 k y0 y1 y2 y3 y4) (lazaruslaw15_SplitSome.l2 (k + 1) y0 y1 y2 y3 y4))
  | 0 => ⟨fun _ _ _ _ _ r h => by simp [lazaruslaw15_SplitSome.l0] at h, fun _ _ _ _ r h => by simp [lazaruslaw15_SplitSome.l1] at h, fun _ _ _ _ _ r h => by simp [lazaruslaw15_SplitSome.j2] at h, fun _ _ _ _ _ r h => by simp [lazaruslaw15_SplitSome.l2] at h⟩
  | k + 1 => by
    obtain ⟨ih0, ih1, ih2, ih3⟩ := lazaruslaw15_SplitSome.mono_l k
    refine ⟨?_, ?_, ?_, ?_⟩
    · intro y0 y1 y2 y3 y4
      unfold lazaruslaw15_SplitSome.l0
      repeat' first
      | (with_reducible exact ih0 _ _ _ _ _)
      | (with_reducible exact ih1 _ _ _ _)
      | (with_reducible exact ih2 _ _ _ _ _)
      | (with_reducible exact ih3 _ _ _ _ _)
      | (with_reducible exact lazaruslaw15_known.mono _)
      | (with_reducible exact LeO.refl _)
      | (with_reducible exact LeO.none _)
      | (with_reducible refine LeO.ite ?_ ?_)
      | (with_reducible refine LeO.bind ?_ (fun _ => ?_))
      | exact ih0 _ _ _ _ _
      | exact ih1 _ _ _ _
      | exact ih2 _ _ _ _ _
      | exact ih3 _ _ _ _ _
      | exact lazaruslaw15_known.mono _
      | exact LeO.none _
      | refine LeO.ite ?_ ?_
      | refine LeO.bind ?_ (fun _ => ?_)
    · intro y0 y1 y2 y3
      unfold lazaruslaw15_SplitSome.l1
      repeat' first
      | (with_reducible exact ih0 _ _ _ _ _)
      | (with_reducible exact ih1 _ _ _ _)
      | (with_reducible exact ih2 _ _ _ _ _)
      | (with_reducible exact ih3 _ _ _ _ _)
      | (with_reducible exact lazaruslaw15_known.mono _)
      | (with_reducible exact LeO.refl _)
      | (with_reducible exact LeO.none _)
      | (with_reducible refine LeO.ite ?_ ?_)
      | (with_reducible refine LeO.bind ?_ (fun _ => ?_))
      | exact ih0 _ _ _ _ _
      | exact ih1 _ _ _ _
      | exact ih2 _ _ _ _ _
      | exact ih3 _ _ _ _ _
      | exact lazaruslaw15_known.mono _
      | exact LeO.none _
      | refine LeO.ite ?_ ?_
      | refine LeO.bind ?_ (fun _ => ?_)
    · intro y0 y1 y2 y3 y4
      unfold lazaruslaw15_SplitSome.j2
      repeat' first
      | (with_reducible exact ih0 _ _ _ _ _)
      | (with_reducible exact ih1 _ _ _ _)
      | (with_reducible exact ih2 _ _ _ _ _)
      | (with_reducible exact ih3 _ _ _ _ _)
      | (with_reducible exact lazaruslaw15_known.mono _)
      | (with_reducible exact LeO.refl _)
      | (with_reducible exact LeO.none _)
      | (with_reducible refine LeO.ite ?_ ?_)
      | (with_reducible refine LeO.bind ?_ (fun _ => ?_))
      | exact ih0 _ _ _ _ _
      | exact ih1 _ _ _ _
      | exact ih2 _ _ _ _ _
      | exact ih3 _ _ _ _ _
      | exact lazaruslaw15_known.mono _
      | exact LeO.none _
      | refine LeO.ite ?_ ?_
      | refine LeO.bind ?_ (fun _ => ?_)
    · intro y0 y1 y2 y3 y4
      unfold lazaruslaw15_SplitSome.l2
      repeat' first
      | (with_reducible exact ih0 _ _ _ _ _)
      | (with_reducible exact ih1 _ _ _ _)
      | (with_reducible exact ih2 _ _ _ _ _)
      | (with_reducible exact ih3 _ _ _ _ _)
      | (with_reducible exact lazaruslaw15_known.mono _)
      | (with_reducible exact LeO.refl _)
      | (with_reducible exact LeO.none _)
      | (with_reducible refine LeO.ite ?_ ?_)
      | (with_reducible refine LeO.bind ?_ (fun _ => ?_))
      | exact ih0 _ _ _ _ _
      | exact ih1 _ _ _ _
      | exact ih2 _ _ _ _ _
      | exact ih3 _ _ _ _ _
      | exact lazaruslaw15_known.mono _
      | exact LeO.none _
      | refine LeO.ite ?_ ?_
      | refine LeO.bind ?_ (fun _ => ?_)
theorem lazaruslaw15_SplitSome.mono : ∀ a0 k, LeO (lazaruslaw15_SplitSome.f k a0) (lazaruslaw15_SplitSome.f (k + 1) a0) := by
  intro a0 k
  obtain ⟨ih0, ih1, ih2, ih3⟩ := lazaruslaw15_SplitSome.mono_l k
  unfold lazaruslaw15_SplitSome.f
  repeat' first
      | (with_reducible exact ih0 _ _ _ _ _)
      | (with_reducible exact ih1 _ _ _ _)
      | (with_reducible exact ih2 _ _ _ _ _)
      | (with_reducible exact ih3 _ _ _ _ _)
      | (with_reducible exact lazaruslaw15_known.mono _)
      | (with_reducible exact LeO.refl _)
      | (with_reducible exact LeO.none _)
      | (with_reducible refine LeO.ite ?_ ?_)
      | (with_reducible refine LeO.bind ?_ (fun _ => ?_))
      | exact ih0 _ _ _ _ _
      | exact ih1 _ _ _ _
      | exact ih2 _ _ _ _ _
      | exact ih3 _ _ _ _ _
      | exact lazaruslaw15_known.mono _
      | exact LeO.none _
      | refine LeO.ite ?_ ?_
      | refine LeO.bind ?_ (fun _ => ?_)
set_option maxHeartbeats 8000000 in
set_option maxRecDepth 100000 in
theorem lazaruslaw15_SplitSome.calls (k : Nat) (A0 : Option Addr) (c0 : Nat) (l0 : List (S30)) (r : Bool) (w : World) (hr0 : Kd.C k30 w A0 l0.length l0) (hc0 : l0.length ≤ c0) (h : lazaruslaw15_SplitSome.f k l0 = some r) :
    Calls Try.prog 4 #[.slice A0 l0.length c0] w fun e w' => e = .returned (.bool r) ∧ Below w.heap.size w w' := by
  have hu34 := Try.underlying34
  have HR0 := Aside0.mk hr0
  have HC0 := Aside0.mk hc0
  clear hr0 hc0
  have HB := Aside0.mk (Below.refl w.heap.size w)
  have H : (lazaruslaw15_SplitSome.l0 k l0 false false 0 0) = some r := h
  clear h
  have H' := Aside0.mk H
  clear H
  go_enter Try.func4, Try.ntmps4
  go_wp2
  go_loopg [3, 4, 5, 6] k (fun kq v3 v4 v5 v6 w' => ∃ (x3_1 : Bool) (x4_1 : Bool) (x5_1 : Int) (x6_1 : Int), v3 = .bool x3_1 ∧ v4 = .bool x4_1 ∧ v5 = .int .i64 x5_1 ∧ v6 = .int .i64 x6_1 ∧ Aside0 (lazaruslaw15_SplitSome.l0 kq l0 x3_1 x4_1 x5_1 x6_1 = some r) ∧ Aside0 (kq ≤ k) ∧ Aside0 (Below w.heap.size w w'))
  case atStart => exact ⟨(false), (false), (0), (0), (by first | rfl | (simp; done) | (simp [*]; done) | (simp; unfold wrap64; omega)), (by first | rfl | (simp; done) | (simp [*]; done) | (simp; unfold wrap64; omega)), (by first | rfl | (simp; done) | (simp [*]; done) | (simp; unfold wrap64; omega)), (by first | rfl | (simp; done) | (simp [*]; done) | (simp; unfold wrap64; omega)), H', ⟨Nat.le_refl _⟩, ⟨by repeat (first | (with_reducible first | exact HB.out | apply below_alloc | apply pw_below_drewN | apply below_drew1) | exact HB.out)⟩⟩
  case round =>
    clear H'
    obtain ⟨x3_1, x4_1, x5_1, x6_1, rfl, rfl, rfl, rfl, HA, HK1, HB⟩ := hrel
    cases gk with
    | zero => exact absurd HA.out (by simp [lazaruslaw15_SplitSome.l0])
    | succ k1 =>
      have H := HA.out
      clear HA
      simp only [lazaruslaw15_SplitSome.l0] at H
      by_cases c2 : x6_1 < (l0.length : Int)
      · rw [if_pos c2] at H
        have c2b0 : decide (x6_1 < (l0.length : Int)) = true := decide_eq_true c2
        clear c2
        by_cases c3 : x3_1 = true
        · subst c3
          have H1 : (if x4_1 = true then (if 0 ≤ x6_1 then (if (wrap64 (x5_1 + (((rd_T30 l0 x6_1).f0).size : Int))) > 300 then (some true) else (if x6_1 > 50 then (some true) else (lazaruslaw15_SplitSome.l0 k1 l0 true true (wrap64 (x5_1 + (((rd_T30 l0 x6_1).f0).size : Int))) (wrap64 (x6_1 + 1))))) else (none)) else (if 0 ≤ x6_1 then (if ((rd_T30 l0 x6_1).f1 = true) then (if (wrap64 (x5_1 + (((rd_T30 l0 x6_1).f0).size : Int))) > 300 then (some true) else (if x6_1 > 50 then (some true) else (lazaruslaw15_SplitSome.l0 k1 l0 true false (wrap64 (x5_1 + (((rd_T30 l0 x6_1).f0).size : Int))) (wrap64 (x6_1 + 1))))) else (if ((rd_T30 l0 x6_1).f2 = true) then (if (wrap64 (x5_1 + (((rd_T30 l0 x6_1).f0).size : Int))) > 300 then (some true) else (if x6_1 > 50 then (some true) else (lazaruslaw15_SplitSome.l0 k1 l0 true false (wrap64 (x5_1 + (((rd_T30 l0 x6_1).f0).size : Int))) (wrap64 (x6_1 + 1))))) else (if (wrap64 (x5_1 + (((rd_T30 l0 x6_1).f0).size : Int))) > 300 then (some true) else (if x6_1 > 50 then (some true) else (lazaruslaw15_SplitSome.l0 k1 l0 true (!((rd_T30 l0 x6_1).f3)) (wrap64 (x5_1 + (((rd_T30 l0 x6_1).f0).size : Int))) (wrap64 (x6_1 + 1))))))) else (none))) = some r := by rw [if_pos rfl] at H; exact H
          clear H
          have H := H1
          clear H1
          by_cases c4 : x4_1 = true
          · subst c4
            have H1 : (if 0 ≤ x6_1 then (if (wrap64 (x5_1 + (((rd_T30 l0 x6_1).f0).size : Int))) > 300 then (some true) else (if x6_1 > 50 then (some true) else (lazaruslaw15_SplitSome.l0 k1 l0 true true (wrap64 (x5_1 + (((rd_T30 l0 x6_1).f0).size : Int))) (wrap64 (x6_1 + 1))))) else (none)) = some r := by rw [if_pos rfl] at H; exact H
            clear H
            have H := H1
            clear H1
            by_cases c5 : 0 ≤ x6_1
            · rw [if_pos c5] at H
              have c5b0 : decide (0 ≤ x6_1) = true := decide_eq_true c5
              clear c5
              by_cases c6 : (wrap64 (x5_1 + (((rd_T30 l0 x6_1).f0).size : Int))) > 300
              · rw [if_pos c6] at H
                have c6b0 : decide (300 < (wrap64 (x5_1 + (((rd_T30 l0 x6_1).f0).size : Int)))) = true := decide_eq_true c6
                clear c6
                obtain rfl := Option.some.inj H
                have p123 : 0 ≤ (x6_1 : Int) := of_decide_eq_true (by first | (with_reducible assumption) | assumption)
                have q123 : x6_1 < (l0.length : Int) := of_decide_eq_true (by first | (with_reducible assumption) | assumption)
                obtain ⟨ad123, e123, hx123_0, hx123_1, hx123_2, hx123_3⟩ := at_T30 HR0.out x6_1 p123 q123
                cases e123
                replace hx123_0 := (HB.out.cell (World.block_lt_of_cell? w _ hx123_0)).trans hx123_0
                replace hx123_1 := (HB.out.cell (World.block_lt_of_cell? w _ hx123_1)).trans hx123_1
                replace hx123_2 := (HB.out.cell (World.block_lt_of_cell? w _ hx123_2)).trans hx123_2
                replace hx123_3 := (HB.out.cell (World.block_lt_of_cell? w _ hx123_3)).trans hx123_3
                replace p123 := eq_true p123
                replace q123 := eq_true q123
                go_wp2
                go_ret
                exact ⟨by first | rfl | (simp [errW_none, errW_some] <;> rfl) | (simp [*, errW_none, errW_some] <;> rfl), by repeat (first | (with_reducible first | exact HB.out | apply below_alloc | apply pw_below_drewN | apply below_drew1) | exact HB.out)⟩
              · rw [if_neg c6] at H
                have c6b0 : decide (300 < (wrap64 (x5_1 + (((rd_T30 l0 x6_1).f0).size : Int)))) = false := decide_eq_false c6
                clear c6
                by_cases c7 : x6_1 > 50
                · rw [if_pos c7] at H
                  have c7b0 : decide (50 < x6_1) = true := decide_eq_true c7
                  clear c7
                  obtain rfl := Option.some.inj H
                  have p123 : 0 ≤ (x6_1 : Int) := of_decide_eq_true (by first | (with_reducible assumption) | assumption)
                  have q123 : x6_1 < (l0.length : Int) := of_decide_eq_true (by first | (with_reducible assumption) | assumption)
                  obtain ⟨ad123, e123, hx123_0, hx123_1, hx123_2, hx123_3⟩ := at_T30 HR0.out x6_1 p123 q123
                  cases e123
                  replace hx123_0 := (HB.out.cell (World.block_lt_of_cell? w _ hx123_0)).trans hx123_0
                  replace hx123_1 := (HB.out.cell (World.block_lt_of_cell? w _ hx123_1)).trans hx123_1
                  replace hx123_2 := (HB.out.cell (World.block_lt_of_cell? w _ hx123_2)).trans hx123_2
                  replace hx123_3 := (HB.out.cell (World.block_lt_of_cell? w _ hx123_3)).trans hx123_3
                  replace p123 := eq_true p123
                  replace q123 := eq_true q123
                  go_wp2
                  go_ret
                  exact ⟨by first | rfl | (simp [errW_none, errW_some] <;> rfl) | (simp [*, errW_none, errW_some] <;> rfl), by repeat (first | (with_reducible first | exact HB.out | apply below_alloc | apply pw_below_drewN | apply below_drew1) | exact HB.out)⟩
                · rw [if_neg c7] at H
                  have c7b0 : decide (50 < x6_1) = false := decide_eq_false c7
                  clear c7
                  have H' := Aside0.mk H
                  clear H
                  have p123 : 0 ≤ (x6_1 : Int) := of_decide_eq_true (by first | (with_reducible assumption) | assumption)
                  have q123 : x6_1 < (l0.length : Int) := of_decide_eq_true (by first | (with_reducible assumption) | assumption)
                  obtain ⟨ad123, e123, hx123_0, hx123_1, hx123_2, hx123_3⟩ := at_T30 HR0.out x6_1 p123 q123
                  cases e123
                  replace hx123_0 := (HB.out.cell (World.block_lt_of_cell? w _ hx123_0)).trans hx123_0
                  replace hx123_1 := (HB.out.cell (World.block_lt_of_cell? w _ hx123_1)).trans hx123_1
                  replace hx123_2 := (HB.out.cell (World.block_lt_of_cell? w _ hx123_2)).trans hx123_2
                  replace hx123_3 := (HB.out.cell (World.block_lt_of_cell? w _ hx123_3)).trans hx123_3
                  replace p123 := eq_true p123
                  replace q123 := eq_true q123
                  go_wp2
                  go_roundg k1
                  case measure => have := HK1.out; omega
                  case rel => exact ⟨(true), (true), (wrap64 (x5_1 + (((rd_T30 l0 x6_1).f0).size : Int))), (wrap64 (x6_1 + 1)), (by first | rfl | (simp; done) | (simp [*]; done) | (simp; unfold wrap64; omega)), (by first | rfl | (simp; done) | (simp [*]; done) | (simp; unfold wrap64; omega)), (by first | rfl | (simp; done) | (simp [*]; done) | (simp; unfold wrap64; omega)), (by first | rfl | (simp; done) | (simp [*]; done) | (simp; unfold wrap64; omega)), H', ⟨by have := HK1.out; omega⟩, ⟨by repeat (first | (with_reducible first | exact HB.out | apply below_alloc | apply pw_below_drewN | apply below_drew1) | exact HB.out)⟩⟩
            · rw [if_neg c5] at H
              exact absurd H (by simp)
          · replace c4 := Bool.eq_false_iff.mpr c4
            subst c4
            have H1 : (if 0 ≤ x6_1 then (if ((rd_T30 l0 x6_1).f1 = true) then (if (wrap64 (x5_1 + (((rd_T30 l0 x6_1).f0).size : Int))) > 300 then (some true) else (if x6_1 > 50 then (some true) else (lazaruslaw15_SplitSome.l0 k1 l0 true false (wrap64 (x5_1 + (((rd_T30 l0 x6_1).f0).size : Int))) (wrap64 (x6_1 + 1))))) else (if ((rd_T30 l0 x6_1).f2 = true) then (if (wrap64 (x5_1 + (((rd_T30 l0 x6_1).f0).size : Int))) > 300 then (some true) else (if x6_1 > 50 then (some true) else (lazaruslaw15_SplitSome.l0 k1 l0 true false (wrap64 (x5_1 + (((rd_T30 l0 x6_1).f0).size : Int))) (wrap64 (x6_1 + 1))))) else (if (wrap64 (x5_1 + (((rd_T30 l0 x6_1).f0).size : Int))) > 300 then (some true) else (if x6_1 > 50 then (some true) else (lazaruslaw15_SplitSome.l0 k1 l0 true (!((rd_T30 l0 x6_1).f3)) (wrap64 (x5_1 + (((rd_T30 l0 x6_1).f0).size : Int))) (wrap64 (x6_1 + 1))))))) else (none)) = some r := by rw [if_neg (show ¬ (false = true) by decide)] at H; exact H
            clear H
            have H := H1
            clear H1
            by_cases c8 : 0 ≤ x6_1
            · rw [if_pos c8] at H
              have c8b0 : decide (0 ≤ x6_1) = true := decide_eq_true c8
              clear c8
              obtain ⟨bq9, hbq9⟩ : ∃ b_ : Bool, b_ = ((rd_T30 l0 x6_1).f1) := ⟨_, rfl⟩
              replace H : (if (bq9 = true) then (if (wrap64 (x5_1 + (((rd_T30 l0 x6_1).f0).size : Int))) > 300 then (some true) else (if x6_1 > 50 then (some true) else (lazaruslaw15_SplitSome.l0 k1 l0 true false (wrap64 (x5_1 + (((rd_T30 l0 x6_1).f0).size : Int))) (wrap64 (x6_1 + 1))))) else (if ((rd_T30 l0 x6_1).f2 = true) then (if (wrap64 (x5_1 + (((rd_T30 l0 x6_1).f0).size : Int))) > 300 then (some true) else (if x6_1 > 50 then (some true) else (lazaruslaw15_SplitSome.l0 k1 l0 true false (wrap64 (x5_1 + (((rd_T30 l0 x6_1).f0).size : Int))) (wrap64 (x6_1 + 1))))) else (if (wrap64 (x5_1 + (((rd_T30 l0 x6_1).f0).size : Int))) > 300 then (some true) else (if x6_1 > 50 then (some true) else (lazaruslaw15_SplitSome.l0 k1 l0 true (!((rd_T30 l0 x6_1).f3)) (wrap64 (x5_1 + (((rd_T30 l0 x6_1).f0).size : Int))) (wrap64 (x6_1 + 1))))))) = some r := by rw [← hbq9] at H; exact H
              have Nbq9 := Aside0.mk hbq9
              clear hbq9
              by_cases c10 : (bq9 = true)
              · subst c10
                have H1 : (if (wrap64 (x5_1 + (((rd_T30 l0 x6_1).f0).size : Int))) > 300 then (some true) else (if x6_1 > 50 then (some true) else (lazaruslaw15_SplitSome.l0 k1 l0 true false (wrap64 (x5_1 + (((rd_T30 l0 x6_1).f0).size : Int))) (wrap64 (x6_1 + 1))))) = some r := by rw [if_pos rfl] at H; exact H
                clear H
                have H := H1
                clear H1
                by_cases c11 : (wrap64 (x5_1 + (((rd_T30 l0 x6_1).f0).size : Int))) > 300
                · rw [if_pos c11] at H
                  have c11b0 : decide (300 < (wrap64 (x5_1 + (((rd_T30 l0 x6_1).f0).size : Int)))) = true := decide_eq_true c11
                  clear c11
                  obtain rfl := Option.some.inj H
                  have p124 : 0 ≤ (x6_1 : Int) := of_decide_eq_true (by first | (with_reducible assumption) | assumption)
                  have q124 : x6_1 < (l0.length : Int) := of_decide_eq_true (by first | (with_reducible assumption) | assumption)
                  obtain ⟨ad124, e124, hx124_0, hx124_1, hx124_2, hx124_3⟩ := at_T30 HR0.out x6_1 p124 q124
                  (try rw [← Nbq9.out] at hx124_1)
                  (try rw [← Nbq9.out] at hx124_2)
                  (try rw [← Nbq9.out] at hx124_3)
                  cases e124
                  replace hx124_0 := (HB.out.cell (World.block_lt_of_cell? w _ hx124_0)).trans hx124_0
                  replace hx124_1 := (HB.out.cell (World.block_lt_of_cell? w _ hx124_1)).trans hx124_1
                  replace hx124_2 := (HB.out.cell (World.block_lt_of_cell? w _ hx124_2)).trans hx124_2
                  replace hx124_3 := (HB.out.cell (World.block_lt_of_cell? w _ hx124_3)).trans hx124_3
                  replace p124 := eq_true p124
                  replace q124 := eq_true q124
                  have p125 : 0 ≤ (x6_1 : Int) := of_decide_eq_true (by first | (with_reducible assumption) | assumption)
                  have q125 : x6_1 < (l0.length : Int) := of_decide_eq_true (by first | (with_reducible assumption) | assumption)
                  obtain ⟨ad125, e125, hx125_0, hx125_1, hx125_2, hx125_3⟩ := at_T30 HR0.out x6_1 p125 q125
                  (try rw [← Nbq9.out] at hx125_1)
                  (try rw [← Nbq9.out] at hx125_2)
                  (try rw [← Nbq9.out] at hx125_3)
                  obtain rfl : ad124 = ad125 := (by injection e125)
                  replace hx125_0 := (HB.out.cell (World.block_lt_of_cell? w _ hx125_0)).trans hx125_0
                  replace hx125_1 := (HB.out.cell (World.block_lt_of_cell? w _ hx125_1)).trans hx125_1
                  replace hx125_2 := (HB.out.cell (World.block_lt_of_cell? w _ hx125_2)).trans hx125_2
                  replace hx125_3 := (HB.out.cell (World.block_lt_of_cell? w _ hx125_3)).trans hx125_3
                  replace p125 := eq_true p125
                  replace q125 := eq_true q125
                  go_wp2
                  go_ret
                  exact ⟨by first | rfl | (simp [errW_none, errW_some] <;> rfl) | (simp [*, errW_none, errW_some] <;> rfl), by repeat (first | (with_reducible first | exact HB.out | apply below_alloc | apply pw_below_drewN | apply below_drew1) | exact HB.out)⟩
                · rw [if_neg c11] at H
                  have c11b0 : decide (300 < (wrap64 (x5_1 + (((rd_T30 l0 x6_1).f0).size : Int)))) = false := decide_eq_false c11
                  clear c11
                  by_cases c12 : x6_1 > 50
                  · rw [if_pos c12] at H
                    have c12b0 : decide (50 < x6_1) = true := decide_eq_true c12
                    clear c12
                    obtain rfl := Option.some.inj H
                    have p124 : 0 ≤ (x6_1 : Int) := of_decide_eq_true (by first | (with_reducible assumption) | assumption)
                    have q124 : x6_1 < (l0.length : Int) := of_decide_eq_true (by first | (with_reducible assumption) | assumption)
                    obtain ⟨ad124, e124, hx124_0, hx124_1, hx124_2, hx124_3⟩ := at_T30 HR0.out x6_1 p124 q124
                    (try rw [← Nbq9.out] at hx124_1)
                    (try rw [← Nbq9.out] at hx124_2)
                    (try rw [← Nbq9.out] at hx124_3)
                    cases e124
                    replace hx124_0 := (HB.out.cell (World.block_lt_of_cell? w _ hx124_0)).trans hx124_0
                    replace hx124_1 := (HB.out.cell (World.block_lt_of_cell? w _ hx124_1)).trans hx124_1
                    replace hx124_2 := (HB.out.cell (World.block_lt_of_cell? w _ hx124_2)).trans hx124_2
                    replace hx124_3 := (HB.out.cell (World.block_lt_of_cell? w _ hx124_3)).trans hx124_3
                    replace p124 := eq_true p124
                    replace q124 := eq_true q124
                    have p125 : 0 ≤ (x6_1 : Int) := of_decide_eq_true (by first | (with_reducible assumption) | assumption)
                    have q125 : x6_1 < (l0.length : Int) := of_decide_eq_true (by first | (with_reducible assumption) | assumption)
                    obtain ⟨ad125, e125, hx125_0, hx125_1, hx125_2, hx125_3⟩ := at_T30 HR0.out x6_1 p125 q125
                    (try rw [← Nbq9.out] at hx125_1)
                    (try rw [← Nbq9.out] at hx125_2)
                    (try rw [← Nbq9.out] at hx125_3)
                    obtain rfl : ad124 = ad125 := (by injection e125)
                    replace hx125_0 := (HB.out.cell (World.block_lt_of_cell? w _ hx125_0)).trans hx125_0
                    replace hx125_1 := (HB.out.cell (World.block_lt_of_cell? w _ hx125_1)).trans hx125_1
                    replace hx125_2 := (HB.out.cell (World.block_lt_of_cell? w _ hx125_2)).trans hx125_2
                    replace hx125_3 := (HB.out.cell (World.block_lt_of_cell? w _ hx125_3)).trans hx125_3
                    replace p125 := eq_true p125
                    replace q125 := eq_true q125
                    go_wp2
                    go_ret
                    exact ⟨by first | rfl | (simp [errW_none, errW_some] <;> rfl) | (simp [*, errW_none, errW_some] <;> rfl), by repeat (first | (with_reducible first | exact HB.out | apply below_alloc | apply pw_below_drewN | apply below_drew1) | exact HB.out)⟩
                  · rw [if_neg c12] at H
                    have c12b0 : decide (50 < x6_1) = false := decide_eq_false c12
                    clear c12
                    have H' := Aside0.mk H
                    clear H
                    have p124 : 0 ≤ (x6_1 : Int) := of_decide_eq_true (by first | (with_reducible assumption) | assumption)
                    have q124 : x6_1 < (l0.length : Int) := of_decide_eq_true (by first | (with_reducible assumption) | assumption)
                    obtain ⟨ad124, e124, hx124_0, hx124_1, hx124_2, hx124_3⟩ := at_T30 HR0.out x6_1 p124 q124
                    (try rw [← Nbq9.out] at hx124_1)
                    (try rw [← Nbq9.out] at hx124_2)
                    (try rw [← Nbq9.out] at hx124_3)
                    cases e124
                    replace hx124_0 := (HB.out.cell (World.block_lt_of_cell? w _ hx124_0)).trans hx124_0
                    replace hx124_1 := (HB.out.cell (World.block_lt_of_cell? w _ hx124_1)).trans hx124_1
                    replace hx124_2 := (HB.out.cell (World.block_lt_of_cell? w _ hx124_2)).trans hx124_2
                    replace hx124_3 := (HB.out.cell (World.block_lt_of_cell? w _ hx124_3)).trans hx124_3
                    replace p124 := eq_true p124
                    replace q124 := eq_true q124
                    have p125 : 0 ≤ (x6_1 : Int) := of_decide_eq_true (by first | (with_reducible assumption) | assumption)
                    have q125 : x6_1 < (l0.length : Int) := of_decide_eq_true (by first | (with_reducible assumption) | assumption)
                    obtain ⟨ad125, e125, hx125_0, hx125_1, hx125_2, hx125_3⟩ := at_T30 HR0.out x6_1 p125 q125
                    (try rw [← Nbq9.out] at hx125_1)
                    (try rw [← Nbq9.out] at hx125_2)
                    (try rw [← Nbq9.out] at hx125_3)
                    obtain rfl : ad124 = ad125 := (by injection e125)
                    replace hx125_0 := (HB.out.cell (World.block_lt_of_cell? w _ hx125_0)).trans hx125_0
                    replace hx125_1 := (HB.out.cell (World.block_lt_of_cell? w _ hx125_1)).trans hx125_1
                    replace hx125_2 := (HB.out.cell (World.block_lt_of_cell? w _ hx125_2)).trans hx125_2
                    replace hx125_3 := (HB.out.cell (World.block_lt_of_cell? w _ hx125_3)).trans hx125_3
                    replace p125 := eq_true p125
                    replace q125 := eq_true q125
                    go_wp2
                    go_roundg k1
                    case measure => have := HK1.out; omega
                    case rel => exact ⟨(true), (false), (wrap64 (x5_1 + (((rd_T30 l0 x6_1).f0).size : Int))), (wrap64 (x6_1 + 1)), (by first | rfl | (simp; done) | (simp [*]; done) | (simp; unfold wrap64; omega)), (by first | rfl | (simp; done) | (simp [*]; done) | (simp; unfold wrap64; omega)), (by first | rfl | (simp; done) | (simp [*]; done) | (simp; unfold wrap64; omega)), (by first | rfl | (simp; done) | (simp [*]; done) | (simp; unfold wrap64; omega)), H', ⟨by have := HK1.out; omega⟩, ⟨by repeat (first | (with_reducible first | exact HB.out | apply below_alloc | apply pw_below_drewN | apply below_drew1) | exact HB.out)⟩⟩
              · replace c10 := Bool.eq_false_iff.mpr c10
                subst c10
                have H1 : (if ((rd_T30 l0 x6_1).f2 = true) then (if (wrap64 (x5_1 + (((rd_T30 l0 x6_1).f0).size : Int))) > 300 then (some true) else (if x6_1 > 50 then (some true) else (lazaruslaw15_SplitSome.l0 k1 l0 true false (wrap64 (x5_1 + (((rd_T30 l0 x6_1).f0).size : Int))) (wrap64 (x6_1 + 1))))) else (if (wrap64 (x5_1 + (((rd_T30 l0 x6_1).f0).size : Int))) > 300 then (some true) else (if x6_1 > 50 then (some true) else (lazaruslaw15_SplitSome.l0 k1 l0 true (!((rd_T30 l0 x6_1).f3)) (wrap64 (x5_1 + (((rd_T30 l0 x6_1).f0).size : Int))) (wrap64 (x6_1 + 1)))))) = some r := by rw [if_neg (show ¬ (false = true) by decide)] at H; exact H
                clear H
                have H := H1
                clear H1
                obtain ⟨bq13, hbq13⟩ : ∃ b_ : Bool, b_ = ((rd_T30 l0 x6_1).f2) := ⟨_, rfl⟩
                replace H : (if (bq13 = true) then (if (wrap64 (x5_1 + (((rd_T30 l0 x6_1).f0).size : Int))) > 300 then (some true) else (if x6_1 > 50 then (some true) else (lazaruslaw15_SplitSome.l0 k1 l0 true false (wrap64 (x5_1 + (((rd_T30 l0 x6_1).f0).size : Int))) (wrap64 (x6_1 + 1))))) else (if (wrap64 (x5_1 + (((rd_T30 l0 x6_1).f0).size : Int))) > 300 then (some true) else (if x6_1 > 50 then (some true) else (lazaruslaw15_SplitSome.l0 k1 l0 true (!((rd_T30 l0 x6_1).f3)) (wrap64 (x5_1 + (((rd_T30 l0 x6_1).f0).size : Int))) (wrap64 (x6_1 + 1)))))) = some r := by rw [← hbq13] at H; exact H
                have Nbq13 := Aside0.mk hbq13
                clear hbq13
                by_cases c14 : (bq13 = true)
                · subst c14
                  have H1 : (if (wrap64 (x5_1 + (((rd_T30 l0 x6_1).f0).size : Int))) > 300 then (some true) else (if x6_1 > 50 then (some true) else (lazaruslaw15_SplitSome.l0 k1 l0 true false (wrap64 (x5_1 + (((rd_T30 l0 x6_1).f0).size : Int))) (wrap64 (x6_1 + 1))))) = some r := by rw [if_pos rfl] at H; exact H
                  clear H
                  have H := H1
                  clear H1
                  by_cases c15 : (wrap64 (x5_1 + (((rd_T30 l0 x6_1).f0).size : Int))) > 300
                  · rw [if_pos c15] at H
                    have c15b0 : decide (300 < (wrap64 (x5_1 + (((rd_T30 l0 x6_1).f0).size : Int)))) = true := decide_eq_true c15
                    clear c15
                    obtain rfl := Option.some.inj H
                    have p124 : 0 ≤ (x6_1 : Int) := of_decide_eq_true (by first | (with_reducible assumption) | assumption)
                    have q124 : x6_1 < (l0.length : Int) := of_decide_eq_true (by first | (with_reducible assumption) | assumption)
                    obtain ⟨ad124, e124, hx124_0, hx124_1, hx124_2, hx124_3⟩ := at_T30 HR0.out x6_1 p124 q124
                    (try rw [← Nbq9.out] at hx124_1)
                    (try rw [← Nbq13.out] at hx124_1)
                    (try rw [← Nbq9.out] at hx124_2)
                    (try rw [← Nbq13.out] at hx124_2)
                    (try rw [← Nbq9.out] at hx124_3)
                    (try rw [← Nbq13.out] at hx124_3)
                    cases e124
                    replace hx124_0 := (HB.out.cell (World.block_lt_of_cell? w _ hx124_0)).trans hx124_0
                    replace hx124_1 := (HB.out.cell (World.block_lt_of_cell? w _ hx124_1)).trans hx124_1
                    replace hx124_2 := (HB.out.cell (World.block_lt_of_cell? w _ hx124_2)).trans hx124_2
                    replace hx124_3 := (HB.out.cell (World.block_lt_of_cell? w _ hx124_3)).trans hx124_3
                    replace p124 := eq_true p124
                    replace q124 := eq_true q124
                    have p126 : 0 ≤ (x6_1 : Int) := of_decide_eq_true (by first | (with_reducible assumption) | assumption)
                    have q126 : x6_1 < (l0.length : Int) := of_decide_eq_true (by first | (with_reducible assumption) | assumption)
                    obtain ⟨ad126, e126, hx126_0, hx126_1, hx126_2, hx126_3⟩ := at_T30 HR0.out x6_1 p126 q126
                    (try rw [← Nbq9.out] at hx126_1)
                    (try rw [← Nbq13.out] at hx126_1)
                    (try rw [← Nbq9.out] at hx126_2)
                    (try rw [← Nbq13.out] at hx126_2)
                    (try rw [← Nbq9.out] at hx126_3)
                    (try rw [← Nbq13.out] at hx126_3)
                    obtain rfl : ad124 = ad126 := (by injection e126)
                    replace hx126_0 := (HB.out.cell (World.block_lt_of_cell? w _ hx126_0)).trans hx126_0
                    replace hx126_1 := (HB.out.cell (World.block_lt_of_cell? w _ hx126_1)).trans hx126_1
                    replace hx126_2 := (HB.out.cell (World.block_lt_of_cell? w _ hx126_2)).trans hx126_2
                    replace hx126_3 := (HB.out.cell (World.block_lt_of_cell? w _ hx126_3)).trans hx126_3
                    replace p126 := eq_true p126
                    replace q126 := eq_true q126
                    have p127 : 0 ≤ (x6_1 : Int) := of_decide_eq_true (by first | (with_reducible assumption) | assumption)
                    have q127 : x6_1 < (l0.length : Int) := of_decide_eq_true (by first | (with_reducible assumption) | assumption)
                    obtain ⟨ad127, e127, hx127_0, hx127_1, hx127_2, hx127_3⟩ := at_T30 HR0.out x6_1 p127 q127
                    (try rw [← Nbq9.out] at hx127_1)
                    (try rw [← Nbq13.out] at hx127_1)
                    (try rw [← Nbq9.out] at hx127_2)
                    (try rw [← Nbq13.out] at hx127_2)
                    (try rw [← Nbq9.out] at hx127_3)
                    (try rw [← Nbq13.out] at hx127_3)
                    obtain rfl : ad124 = ad127 := (by injection e127)
                    replace hx127_0 := (HB.out.cell (World.block_lt_of_cell? w _ hx127_0)).trans hx127_0
                    replace hx127_1 := (HB.out.cell (World.block_lt_of_cell? w _ hx127_1)).trans hx127_1
                    replace hx127_2 := (HB.out.cell (World.block_lt_of_cell? w _ hx127_2)).trans hx127_2
                    replace hx127_3 := (HB.out.cell (World.block_lt_of_cell? w _ hx127_3)).trans hx127_3
                    replace p127 := eq_true p127
                    replace q127 := eq_true q127
                    go_wp2
                    go_ret
                    exact ⟨by first | rfl | (simp [errW_none, errW_some] <;> rfl) | (simp [*, errW_none, errW_some] <;> rfl), by repeat (first | (with_reducible first | exact HB.out | apply below_alloc | apply pw_below_drewN | apply below_drew1) | exact HB.out)⟩
                  · rw [if_neg c15] at H
                    have c15b0 : decide (300 < (wrap64 (x5_1 + (((rd_T30 l0 x6_1).f0).size : Int)))) = false := decide_eq_false c15
                    clear c15
                    by_cases c16 : x6_1 > 50
                    · rw [if_pos c16] at H
                      have c16b0 : decide (50 < x6_1) = true := decide_eq_true c16
                      clear c16
                      obtain rfl := Option.some.inj H
                      have p124 : 0 ≤ (x6_1 : Int) := of_decide_eq_true (by first | (with_reducible assumption) | assumption)
                      have q124 : x6_1 < (l0.length : Int) := of_decide_eq_true (by first | (with_reducible assumption) | assumption)
                      obtain ⟨ad124, e124, hx124_0, hx124_1, hx124_2, hx124_3⟩ := at_T30 HR0.out x6_1 p124 q124
                      (try rw [← Nbq9.out] at hx124_1)
                      (try rw [← Nbq13.out] at hx124_1)
                      (try rw [← Nbq9.out] at hx124_2)
                      (try rw [← Nbq13.out] at hx124_2)
                      (try rw [← Nbq9.out] at hx124_3)
                      (try rw [← Nbq13.out] at hx124_3)
                      cases e124
                      replace hx124_0 := (HB.out.cell (World.block_lt_of_cell? w _ hx124_0)).trans hx124_0
                      replace hx124_1 := (HB.out.cell (World.block_lt_of_cell? w _ hx124_1)).trans hx124_1
                      replace hx124_2 := (HB.out.cell (World.block_lt_of_cell? w _ hx124_2)).trans hx124_2
                      replace hx124_3 := (HB.out.cell (World.block_lt_of_cell? w _ hx124_3)).trans hx124_3
                      replace p124 := eq_true p124
                      replace q124 := eq_true q124
                      have p126 : 0 ≤ (x6_1 : Int) := of_decide_eq_true (by first | (with_reducible assumption) | assumption)
                      have q126 : x6_1 < (l0.length : Int) := of_decide_eq_true (by first | (with_reducible assumption) | assumption)
                      obtain ⟨ad126, e126, hx126_0, hx126_1, hx126_2, hx126_3⟩ := at_T30 HR0.out x6_1 p126 q126
                      (try rw [← Nbq9.out] at hx126_1)
                      (try rw [← Nbq13.out] at hx126_1)
                      (try rw [← Nbq9.out] at hx126_2)
                      (try rw [← Nbq13.out] at hx126_2)
                      (try rw [← Nbq9.out] at hx126_3)
                      (try rw [← Nbq13.out] at hx126_3)
                      obtain rfl : ad124 = ad126 := (by injection e126)
                      replace hx126_0 := (HB.out.cell (World.block_lt_of_cell? w _ hx126_0)).trans hx126_0
                      replace hx126_1 := (HB.out.cell (World.block_lt_of_cell? w _ hx126_1)).trans hx126_1
                      replace hx126_2 := (HB.out.cell (World.block_lt_of_cell? w _ hx126_2)).trans hx126_2
                      replace hx126_3 := (HB.out.cell (World.block_lt_of_cell? w _ hx126_3)).trans hx126_3
                      replace p126 := eq_true p126
                      replace q126 := eq_true q126
                      have p127 : 0 ≤ (x6_1 : Int) := of_decide_eq_true (by first | (with_reducible assumption) | assumption)
                      have q127 : x6_1 < (l0.length : Int) := of_decide_eq_true (by first | (with_reducible assumption) | assumption)
                      obtain ⟨ad127, e127, hx127_0, hx127_1, hx127_2, hx127_3⟩ := at_T30 HR0.out x6_1 p127 q127
                      (try rw [← Nbq9.out] at hx127_1)
                      (try rw [← Nbq13.out] at hx127_1)
                      (try rw [← Nbq9.out] at hx127_2)
                      (try rw [← Nbq13.out] at hx127_2)
                      (try rw [← Nbq9.out] at hx127_3)
                      (try rw [← Nbq13.out] at hx127_3)
                      obtain rfl : ad124 = ad127 := (by injection e127)
                      replace hx127_0 := (HB.out.cell (World.block_lt_of_cell? w _ hx127_0)).trans hx127_0
                      replace hx127_1 := (HB.out.cell (World.block_lt_of_cell? w _ hx127_1)).trans hx127_1
                      replace hx127_2 := (HB.out.cell (World.block_lt_of_cell? w _ hx127_2)).trans hx127_2
                      replace hx127_3 := (HB.out.cell (World.block_lt_of_cell? w _ hx127_3)).trans hx127_3
                      replace p127 := eq_true p127
                      replace q127 := eq_true q127
                      go_wp2
                      go_ret
                      exact ⟨by first | rfl | (simp [errW_none, errW_some] <;> rfl) | (simp [*, errW_none, errW_some] <;> rfl), by repeat (first | (with_reducible first | exact HB.out | apply below_alloc | apply pw_below_drewN | apply below_drew1) | exact HB.out)⟩
                    · rw [if_neg c16] at H
                      have c16b0 : decide (50 < x6_1) = false := decide_eq_false c16
                      clear c16
                      have H' := Aside0.mk H
                      clear H
                      have p124 : 0 ≤ (x6_1 : Int) := of_decide_eq_true (by first | (with_reducible assumption) | assumption)
                      have q124 : x6_1 < (l0.length : Int) := of_decide_eq_true (by first | (with_reducible assumption) | assumption)
                      obtain ⟨ad124, e124, hx124_0, hx124_1, hx124_2, hx124_3⟩ := at_T30 HR0.out x6_1 p124 q124
                      (try rw [← Nbq9.out] at hx124_1)
                      (try rw [← Nbq13.out] at hx124_1)
                      (try rw [← Nbq9.out] at hx124_2)
                      (try rw [← Nbq13.out] at hx124_2)
                      (try rw [← Nbq9.out] at hx124_3)
                      (try rw [← Nbq13.out] at hx124_3)
                      cases e124
                      replace hx124_0 := (HB.out.cell (World.block_lt_of_cell? w _ hx124_0)).trans hx124_0
                      replace hx124_1 := (HB.out.cell (World.block_lt_of_cell? w _ hx124_1)).trans hx124_1
                      replace hx124_2 := (HB.out.cell (World.block_lt_of_cell? w _ hx124_2)).trans hx124_2
                      replace hx124_3 := (HB.out.cell (World.block_lt_of_cell? w _ hx124_3)).trans hx124_3
                      replace p124 := eq_true p124
                      replace q124 := eq_true q124
                      have p126 : 0 ≤ (x6_1 : Int) := of_decide_eq_true (by first | (with_reducible assumption) | assumption)
                      have q126 : x6_1 < (l0.length : Int) := of_decide_eq_true (by first | (with_reducible assumption) | assumption)
                      obtain ⟨ad126, e126, hx126_0, hx126_1, hx126_2, hx126_3⟩ := at_T30 HR0.out x6_1 p126 q126
                      (try rw [← Nbq9.out] at hx126_1)
                      (try rw [← Nbq13.out] at hx126_1)
                      (try rw [← Nbq9.out] at hx126_2)
                      (try rw [← Nbq13.out] at hx126_2)
                      (try rw [← Nbq9.out] at hx126_3)
                      (try rw [← Nbq13.out] at hx126_3)
                      obtain rfl : ad124 = ad126 := (by injection e126)
                      replace hx126_0 := (HB.out.cell (World.block_lt_of_cell? w _ hx126_0)).trans hx126_0
                      replace hx126_1 := (HB.out.cell (World.block_lt_of_cell? w _ hx126_1)).trans hx126_1
                      replace hx126_2 := (HB.out.cell (World.block_lt_of_cell? w _ hx126_2)).trans hx126_2
                      replace hx126_3 := (HB.out.cell (World.block_lt_of_cell? w _ hx126_3)).trans hx126_3
                      replace p126 := eq_true p126
                      replace q126 := eq_true q126
                      have p127 : 0 ≤ (x6_1 : Int) := of_decide_eq_true (by first | (with_reducible assumption) | assumption)
                      have q127 : x6_1 < (l0.length : Int) := of_decide_eq_true (by first | (with_reducible assumption) | assumption)
                      obtain ⟨ad127, e127, hx127_0, hx127_1, hx127_2, hx127_3⟩ := at_T30 HR0.out x6_1 p127 q127
                      (try rw [← Nbq9.out] at hx127_1)
                      (try rw [← Nbq13.out] at hx127_1)
                      (try rw [← Nbq9.out] at hx127_2)
                      (try rw [← Nbq13.out] at hx127_2)
                      (try rw [← Nbq9.out] at hx127_3)
                      (try rw [← Nbq13.out] at hx127_3)
                      obtain rfl : ad124 = ad127 := (by injection e127)
                      replace hx127_0 := (HB.out.cell (World.block_lt_of_cell? w _ hx127_0)).trans hx127_0
                      replace hx127_1 := (HB.out.cell (World.block_lt_of_cell? w _ hx127_1)).trans hx127_1
                      replace hx127_2 := (HB.out.cell (World.block_lt_of_cell? w _ hx127_2)).trans hx127_2
                      replace hx127_3 := (HB.out.cell (World.block_lt_of_cell? w _ hx127_3)).trans hx127_3
                      replace p127 := eq_true p127
                      replace q127 := eq_true q127
                      go_wp2
                      go_roundg k1
                      case measure => have := HK1.out; omega
                      case rel => exact ⟨(true), (false), (wrap64 (x5_1 + (((rd_T30 l0 x6_1).f0).size : Int))), (wrap64 (x6_1 + 1)), (by first | rfl | (simp; done) | (simp [*]; done) | (simp; unfold wrap64; omega)), (by first | rfl | (simp; done) | (simp [*]; done) | (simp; unfold wrap64; omega)), (by first | rfl | (simp; done) | (simp [*]; done) | (simp; unfold wrap64; omega)), (by first | rfl | (simp; done) | (simp [*]; done) | (simp; unfold wrap64; omega)), H', ⟨by have := HK1.out; omega⟩, ⟨by repeat (first | (with_reducible first | exact HB.out | apply below_alloc | apply pw_below_drewN | apply below_drew1) | exact HB.out)⟩⟩
                · replace c14 := Bool.eq_false_iff.mpr c14
                  subst c14
                  have H1 : (if (wrap64 (x5_1 + (((rd_T30 l0 x6_1).f0).size : Int))) > 300 then (some true) else (if x6_1 > 50 then (some true) else (lazaruslaw15_SplitSome.l0 k1 l0 true (!((rd_T30 l0 x6_1).f3)) (wrap64 (x5_1 + (((rd_T30 l0 x6_1).f0).size : Int))) (wrap64 (x6_1 + 1))))) = some r := by rw [if_neg (show ¬ (false = true) by decide)] at H; exact H
                  clear H
                  have H := H1
                  clear H1
                  by_cases c17 : (wrap64 (x5_1 + (((rd_T30 l0 x6_1).f0).size : Int))) > 300
                  · rw [if_pos c17] at H
                    have c17b0 : decide (300 < (wrap64 (x5_1 + (((rd_T30 l0 x6_1).f0).size : Int)))) = true := decide_eq_true c17
                    clear c17
                    obtain rfl := Option.some.inj H
                    have p124 : 0 ≤ (x6_1 : Int) := of_decide_eq_true (by first | (with_reducible assumption) | assumption)
                    have q124 : x6_1 < (l0.length : Int) := of_decide_eq_true (by first | (with_reducible assumption) | assumption)
                    obtain ⟨ad124, e124, hx124_0, hx124_1, hx124_2, hx124_3⟩ := at_T30 HR0.out x6_1 p124 q124
                    (try rw [← Nbq9.out] at hx124_1)
                    (try rw [← Nbq13.out] at hx124_1)
                    (try rw [← Nbq9.out] at hx124_2)
                    (try rw [← Nbq13.out] at hx124_2)
                    (try rw [← Nbq9.out] at hx124_3)
                    (try rw [← Nbq13.out] at hx124_3)
                    cases e124
                    replace hx124_0 := (HB.out.cell (World.block_lt_of_cell? w _ hx124_0)).trans hx124_0
                    replace hx124_1 := (HB.out.cell (World.block_lt_of_cell? w _ hx124_1)).trans hx124_1
                    replace hx124_2 := (HB.out.cell (World.block_lt_of_cell? w _ hx124_2)).trans hx124_2
                    replace hx124_3 := (HB.out.cell (World.block_lt_of_cell? w _ hx124_3)).trans hx124_3
                    replace p124 := eq_true p124
                    replace q124 := eq_true q124
                    have p126 : 0 ≤ (x6_1 : Int) := of_decide_eq_true (by first | (with_reducible assumption) | assumption)
                    have q126 : x6_1 < (l0.length : Int) := of_decide_eq_true (by first | (with_reducible assumption) | assumption)
                    obtain ⟨ad126, e126, hx126_0, hx126_1, hx126_2, hx126_3⟩ := at_T30 HR0.out x6_1 p126 q126
                    (try rw [← Nbq9.out] at hx126_1)
                    (try rw [← Nbq13.out] at hx126_1)
                    (try rw [← Nbq9.out] at hx126_2)
                    (try rw [← Nbq13.out] at hx126_2)
                    (try rw [← Nbq9.out] at hx126_3)
                    (try rw [← Nbq13.out] at hx126_3)
                    obtain rfl : ad124 = ad126 := (by injection e126)
                    replace hx126_0 := (HB.out.cell (World.block_lt_of_cell? w _ hx126_0)).trans hx126_0
                    replace hx126_1 := (HB.out.cell (World.block_lt_of_cell? w _ hx126_1)).trans hx126_1
                    replace hx126_2 := (HB.out.cell (World.block_lt_of_cell? w _ hx126_2)).trans hx126_2
                    replace hx126_3 := (HB.out.cell (World.block_lt_of_cell? w _ hx126_3)).trans hx126_3
                    replace p126 := eq_true p126
                    replace q126 := eq_true q126
                    have p128 : 0 ≤ (x6_1 : Int) := of_decide_eq_true (by first | (with_reducible assumption) | assumption)
                    have q128 : x6_1 < (l0.length : Int) := of_decide_eq_true (by first | (with_reducible assumption) | assumption)
                    obtain ⟨ad128, e128, hx128_0, hx128_1, hx128_2, hx128_3⟩ := at_T30 HR0.out x6_1 p128 q128
                    (try rw [← Nbq9.out] at hx128_1)
                    (try rw [← Nbq13.out] at hx128_1)
                    (try rw [← Nbq9.out] at hx128_2)
                    (try rw [← Nbq13.out] at hx128_2)
                    (try rw [← Nbq9.out] at hx128_3)
                    (try rw [← Nbq13.out] at hx128_3)
                    obtain rfl : ad124 = ad128 := (by injection e128)
                    replace hx128_0 := (HB.out.cell (World.block_lt_of_cell? w _ hx128_0)).trans hx128_0
                    replace hx128_1 := (HB.out.cell (World.block_lt_of_cell? w _ hx128_1)).trans hx128_1
                    replace hx128_2 := (HB.out.cell (World.block_lt_of_cell? w _ hx128_2)).trans hx128_2
                    replace hx128_3 := (HB.out.cell (World.block_lt_of_cell? w _ hx128_3)).trans hx128_3
                    replace p128 := eq_true p128
                    replace q128 := eq_true q128
                    have p129 : 0 ≤ (x6_1 : Int) := of_decide_eq_true (by first | (with_reducible assumption) | assumption)
                    have q129 : x6_1 < (l0.length : Int) := of_decide_eq_true (by first | (with_reducible assumption) | assumption)
                    obtain ⟨ad129, e129, hx129_0, hx129_1, hx129_2, hx129_3⟩ := at_T30 HR0.out x6_1 p129 q129
                    (try rw [← Nbq9.out] at hx129_1)
                    (try rw [← Nbq13.out] at hx129_1)
                    (try rw [← Nbq9.out] at hx129_2)
                    (try rw [← Nbq13.out] at hx129_2)
                    (try rw [← Nbq9.out] at hx129_3)
                    (try rw [← Nbq13.out] at hx129_3)
                    obtain rfl : ad124 = ad129 := (by injection e129)
                    replace hx129_0 := (HB.out.cell (World.block_lt_of_cell? w _ hx129_0)).trans hx129_0
                    replace hx129_1 := (HB.out.cell (World.block_lt_of_cell? w _ hx129_1)).trans hx129_1
                    replace hx129_2 := (HB.out.cell (World.block_lt_of_cell? w _ hx129_2)).trans hx129_2
                    replace hx129_3 := (HB.out.cell (World.block_lt_of_cell? w _ hx129_3)).trans hx129_3
                    replace p129 := eq_true p129
                    replace q129 := eq_true q129
                    go_wp2
                    go_ret
                    exact ⟨by first | rfl | (simp [errW_none, errW_some] <;> rfl) | (simp [*, errW_none, errW_some] <;> rfl), by repeat (first | (with_reducible first | exact HB.out | apply below_alloc | apply pw_below_drewN | apply below_drew1) | exact HB.out)⟩
                  · rw [if_neg c17] at H
                    have c17b0 : decide (300 < (wrap64 (x5_1 + (((rd_T30 l0 x6_1).f0).size : Int)))) = false := decide_eq_false c17
                    clear c17
                    by_cases c18 : x6_1 > 50
                    · rw [if_pos c18] at H
                      have c18b0 : decide (50 < x6_1) = true := decide_eq_true c18
                      clear c18
                      obtain rfl := Option.some.inj H
                      have p124 : 0 ≤ (x6_1 : Int) := of_decide_eq_true (by first | (with_reducible assumption) | assumption)
                      have q124 : x6_1 < (l0.length : Int) := of_decide_eq_true (by first | (with_reducible assumption) | assumption)
                      obtain ⟨ad124, e124, hx124_0, hx124_1, hx124_2, hx124_3⟩ := at_T30 HR0.out x6_1 p124 q124
                      (try rw [← Nbq9.out] at hx124_1)
                      (try rw [← Nbq13.out] at hx124_1)
                      (try rw [← Nbq9.out] at hx124_2)
                      (try rw [← Nbq13.out] at hx124_2)
                      (try rw [← Nbq9.out] at hx124_3)
                      (try rw [← Nbq13.out] at hx124_3)
                      cases e124
                      replace hx124_0 := (HB.out.cell (World.block_lt_of_cell? w _ hx124_0)).trans hx124_0
                      replace hx124_1 := (HB.out.cell (World.block_lt_of_cell? w _ hx124_1)).trans hx124_1
                      replace hx124_2 := (HB.out.cell (World.block_lt_of_cell? w _ hx124_2)).trans hx124_2
                      replace hx124_3 := (HB.out.cell (World.block_lt_of_cell? w _ hx124_3)).trans hx124_3
                      replace p124 := eq_true p124
                      replace q124 := eq_true q124
                      have p126 : 0 ≤ (x6_1 : Int) := of_decide_eq_true (by first | (with_reducible assumption) | assumption)
                      have q126 : x6_1 < (l0.length : Int) := of_decide_eq_true (by first | (with_reducible assumption) | assumption)
                      obtain ⟨ad126, e126, hx126_0, hx126_1, hx126_2, hx126_3⟩ := at_T30 HR0.out x6_1 p126 q126
                      (try rw [← Nbq9.out] at hx126_1)
                      (try rw [← Nbq13.out] at hx126_1)
                      (try rw [← Nbq9.out] at hx126_2)
                      (try rw [← Nbq13.out] at hx126_2)
                      (try rw [← Nbq9.out] at hx126_3)
                      (try rw [← Nbq13.out] at hx126_3)
                      obtain rfl : ad124 = ad126 := (by injection e126)
                      replace hx126_0 := (HB.out.cell (World.block_lt_of_cell? w _ hx126_0)).trans hx126_0
                      replace hx126_1 := (HB.out.cell (World.block_lt_of_cell? w _ hx126_1)).trans hx126_1
                      replace hx126_2 := (HB.out.cell (World.block_lt_of_cell? w _ hx126_2)).trans hx126_2
                      replace hx126_3 := (HB.out.cell (World.block_lt_of_cell? w _ hx126_3)).trans hx126_3
                      replace p126 := eq_true p126
                      replace q126 := eq_true q126
                      have p128 : 0 ≤ (x6_1 : Int) := of_decide_eq_true (by first | (with_reducible assumption) | assumption)
                      have q128 : x6_1 < (l0.length : Int) := of_decide_eq_true (by first | (with_reducible assumption) | assumption)
                      obtain ⟨ad128, e128, hx128_0, hx128_1, hx128_2, hx128_3⟩ := at_T30 HR0.out x6_1 p128 q128
                      (try rw [← Nbq9.out] at hx128_1)
                      (try rw [← Nbq13.out] at hx128_1)
                      (try rw [← Nbq9.out] at hx128_2)
                      (try rw [← Nbq13.out] at hx128_2)
                      (try rw [← Nbq9.out] at hx128_3)
                      (try rw [← Nbq13.out] at hx128_3)
                      obtain rfl : ad124 = ad128 := (by injection e128)
                      replace hx128_0 := (HB.out.cell (World.block_lt_of_cell? w _ hx128_0)).trans hx128_0
                      replace hx128_1 := (HB.out.cell (World.block_lt_of_cell? w _ hx128_1)).trans hx128_1
                      replace hx128_2 := (HB.out.cell (World.block_lt_of_cell? w _ hx128_2)).trans hx128_2
                      replace hx128_3 := (HB.out.cell (World.block_lt_of_cell? w _ hx128_3)).trans hx128_3
                      replace p128 := eq_true p128
                      replace q128 := eq_true q128
                      have p129 : 0 ≤ (x6_1 : Int) := of_decide_eq_true (by first | (with_reducible assumption) | assumption)
                      have q129 : x6_1 < (l0.length : Int) := of_decide_eq_true (by first | (with_reducible assumption) | assumption)
                      obtain ⟨ad129, e129, hx129_0, hx129_1, hx129_2, hx129_3⟩ := at_T30 HR0.out x6_1 p129 q129
                      (try rw [← Nbq9.out] at hx129_1)
                      (try rw [← Nbq13.out] at hx129_1)
                      (try rw [← Nbq9.out] at hx129_2)
                      (try rw [← Nbq13.out] at hx129_2)
                      (try rw [← Nbq9.out] at hx129_3)
                      (try rw [← Nbq13.out] at hx129_3)
                      obtain rfl : ad124 = ad129 := (by injection e129)
                      replace hx129_0 := (HB.out.cell (World.block_lt_of_cell? w _ hx129_0)).trans hx129_0
                      replace hx129_1 := (HB.out.cell (World.block_lt_of_cell? w _ hx129_1)).trans hx129_1
                      replace hx129_2 := (HB.out.cell (World.block_lt_of_cell? w _ hx129_2)).trans hx129_2
                      replace hx129_3 := (HB.out.cell (World.block_lt_of_cell? w _ hx129_3)).trans hx129_3
                      replace p129 := eq_true p129
                      replace q129 := eq_true q129
                      go_wp2
                      go_ret
                      exact ⟨by first | rfl | (simp [errW_none, errW_some] <;> rfl) | (simp [*, errW_none, errW_some] <;> rfl), by repeat (first | (with_reducible first | exact HB.out | apply below_alloc | apply pw_below_drewN | apply below_drew1) | exact HB.out)⟩
                    · rw [if_neg c18] at H
                      have c18b0 : decide (50 < x6_1) = false := decide_eq_false c18
                      clear c18
                      have H' := Aside0.mk H
                      clear H
                      have p124 : 0 ≤ (x6_1 : Int) := of_decide_eq_true (by first | (with_reducible assumption) | assumption)
                      have q124 : x6_1 < (l0.length : Int) := of_decide_eq_true (by first | (with_reducible assumption) | assumption)
                      obtain ⟨ad124, e124, hx124_0, hx124_1, hx124_2, hx124_3⟩ := at_T30 HR0.out x6_1 p124 q124
                      (try rw [← Nbq9.out] at hx124_1)
                      (try rw [← Nbq13.out] at hx124_1)
                      (try rw [← Nbq9.out] at hx124_2)
                      (try rw [← Nbq13.out] at hx124_2)
                      (try rw [← Nbq9.out] at hx124_3)
                      (try rw [← Nbq13.out] at hx124_3)
                      cases e124
                      replace hx124_0 := (HB.out.cell (World.block_lt_of_cell? w _ hx124_0)).trans hx124_0
                      replace hx124_1 := (HB.out.cell (World.block_lt_of_cell? w _ hx124_1)).trans hx124_1
                      replace hx124_2 := (HB.out.cell (World.block_lt_of_cell? w _ hx124_2)).trans hx124_2
                      replace hx124_3 := (HB.out.cell (World.block_lt_of_cell? w _ hx124_3)).trans hx124_3
                      replace p124 := eq_true p124
                      replace q124 := eq_true q124
                      have p126 : 0 ≤ (x6_1 : Int) := of_decide_eq_true (by first | (with_reducible assumption) | assumption)
                      have q126 : x6_1 < (l0.length : Int) := of_decide_eq_true (by first | (with_reducible assumption) | assumption)
                      obtain ⟨ad126, e126, hx126_0, hx126_1, hx126_2, hx126_3⟩ := at_T30 HR0.out x6_1 p126 q126
                      (try rw [← Nbq9.out] at hx126_1)
                      (try rw [← Nbq13.out] at hx126_1)
                      (try rw [← Nbq9.out] at hx126_2)
                      (try rw [← Nbq13.out] at hx126_2)
                      (try rw [← Nbq9.out] at hx126_3)
                      (try rw [← Nbq13.out] at hx126_3)
                      obtain rfl : ad124 = ad126 := (by injection e126)
                      replace hx126_0 := (HB.out.cell (World.block_lt_of_cell? w _ hx126_0)).trans hx126_0
                      replace hx126_1 := (HB.out.cell (World.block_lt_of_cell? w _ hx126_1)).trans hx126_1
                      replace hx126_2 := (HB.out.cell (World.block_lt_of_cell? w _ hx126_2)).trans hx126_2
                      replace hx126_3 := (HB.out.cell (World.block_lt_of_cell? w _ hx126_3)).trans hx126_3
                      replace p126 := eq_true p126
                      replace q126 := eq_true q126
                      have p128 : 0 ≤ (x6_1 : Int) := of_decide_eq_true (by first | (with_reducible assumption) | assumption)
                      have q128 : x6_1 < (l0.length : Int) := of_decide_eq_true (by first | (with_reducible assumption) | assumption)
                      obtain ⟨ad128, e128, hx128_0, hx128_1, hx128_2, hx128_3⟩ := at_T30 HR0.out x6_1 p128 q128
                      (try rw [← Nbq9.out] at hx128_1)
                      (try rw [← Nbq13.out] at hx128_1)
                      (try rw [← Nbq9.out] at hx128_2)
                      (try rw [← Nbq13.out] at hx128_2)
                      (try rw [← Nbq9.out] at hx128_3)
                      (try rw [← Nbq13.out] at hx128_3)
                      obtain rfl : ad124 = ad128 := (by injection e128)
                      replace hx128_0 := (HB.out.cell (World.block_lt_of_cell? w _ hx128_0)).trans hx128_0
                      replace hx128_1 := (HB.out.cell (World.block_lt_of_cell? w _ hx128_1)).trans hx128_1
                      replace hx128_2 := (HB.out.cell (World.block_lt_of_cell? w _ hx128_2)).trans hx128_2
                      replace hx128_3 := (HB.out.cell (World.block_lt_of_cell? w _ hx128_3)).trans hx128_3
                      replace p128 := eq_true p128
                      replace q128 := eq_true q128
                      have p129 : 0 ≤ (x6_1 : Int) := of_decide_eq_true (by first | (with_reducible assumption) | assumption)
                      have q129 : x6_1 < (l0.length : Int) := of_decide_eq_true (by first | (with_reducible assumption) | assumption)
                      obtain ⟨ad129, e129, hx129_0, hx129_1, hx129_2, hx129_3⟩ := at_T30 HR0.out x6_1 p129 q129
                      (try rw [← Nbq9.out] at hx129_1)
                      (try rw [← Nbq13.out] at hx129_1)
                      (try rw [← Nbq9.out] at hx129_2)
                      (try rw [← Nbq13.out] at hx129_2)
                      (try rw [← Nbq9.out] at hx129_3)
                      (try rw [← Nbq13.out] at hx129_3)
                      obtain rfl : ad124 = ad129 := (by injection e129)
                      replace hx129_0 := (HB.out.cell (World.block_lt_of_cell? w _ hx129_0)).trans hx129_0
                      replace hx129_1 := (HB.out.cell (World.block_lt_of_cell? w _ hx129_1)).trans hx129_1
                      replace hx129_2 := (HB.out.cell (World.block_lt_of_cell? w _ hx129_2)).trans hx129_2
                      replace hx129_3 := (HB.out.cell (World.block_lt_of_cell? w _ hx129_3)).trans hx129_3
                      replace p129 := eq_true p129
                      replace q129 := eq_true q129
                      go_wp2
                      go_roundg k1
                      case measure => have := HK1.out; omega
                      case rel => exact ⟨(true), (!((rd_T30 l0 x6_1).f3)), (wrap64 (x5_1 + (((rd_T30 l0 x6_1).f0).size : Int))), (wrap64 (x6_1 + 1)), (by first | rfl | (simp; done) | (simp [*]; done) | (simp; unfold wrap64; omega)), (by first | rfl | (simp; done) | (simp [*]; done) | (simp; unfold wrap64; omega)), (by first | rfl | (simp; done) | (simp [*]; done) | (simp; unfold wrap64; omega)), (by first | rfl | (simp; done) | (simp [*]; done) | (simp; unfold wrap64; omega)), H', ⟨by have := HK1.out; omega⟩, ⟨by repeat (first | (with_reducible first | exact HB.out | apply below_alloc | apply pw_below_drewN | apply below_drew1) | exact HB.out)⟩⟩
            · rw [if_neg c8] at H
              exact absurd H (by simp)
        · replace c3 := Bool.eq_false_iff.mpr c3
          subst c3
          have H1 : (if 0 ≤ x6_1 then (if x4_1 = true then (if (wrap64 (x5_1 + (((rd_T30 l0 x6_1).f0).size : Int))) > 300 then (some true) else (if x6_1 > 50 then (some true) else (lazaruslaw15_SplitSome.l0 k1 l0 ((rd_T30 l0 x6_1).f1) true (wrap64 (x5_1 + (((rd_T30 l0 x6_1).f0).size : Int))) (wrap64 (x6_1 + 1))))) else (if ((rd_T30 l0 x6_1).f1 = true) then (if (wrap64 (x5_1 + (((rd_T30 l0 x6_1).f0).size : Int))) > 300 then (some true) else (if x6_1 > 50 then (some true) else (lazaruslaw15_SplitSome.l0 k1 l0 ((rd_T30 l0 x6_1).f1) false (wrap64 (x5_1 + (((rd_T30 l0 x6_1).f0).size : Int))) (wrap64 (x6_1 + 1))))) else (if ((rd_T30 l0 x6_1).f2 = true) then (if (wrap64 (x5_1 + (((rd_T30 l0 x6_1).f0).size : Int))) > 300 then (some true) else (if x6_1 > 50 then (some true) else (lazaruslaw15_SplitSome.l0 k1 l0 ((rd_T30 l0 x6_1).f1) false (wrap64 (x5_1 + (((rd_T30 l0 x6_1).f0).size : Int))) (wrap64 (x6_1 + 1))))) else (if (wrap64 (x5_1 + (((rd_T30 l0 x6_1).f0).size : Int))) > 300 then (some true) else (if x6_1 > 50 then (some true) else (lazaruslaw15_SplitSome.l0 k1 l0 ((rd_T30 l0 x6_1).f1) (!((rd_T30 l0 x6_1).f3)) (wrap64 (x5_1 + (((rd_T30 l0 x6_1).f0).size : Int))) (wrap64 (x6_1 + 1)))))))) else (none)) = some r := by rw [if_neg (show ¬ (false = true) by decide)] at H; exact H
          clear H
          have H := H1
          clear H1
          by_cases c19 : 0 ≤ x6_1
          · rw [if_pos c19] at H
            have c19b0 : decide (0 ≤ x6_1) = true := decide_eq_true c19
            clear c19
            by_cases c20 : x4_1 = true
            · subst c20
              have H1 : (if (wrap64 (x5_1 + (((rd_T30 l0 x6_1).f0).size : Int))) > 300 then (some true) else (if x6_1 > 50 then (some true) else (lazaruslaw15_SplitSome.l0 k1 l0 ((rd_T30 l0 x6_1).f1) true (wrap64 (x5_1 + (((rd_T30 l0 x6_1).f0).size : Int))) (wrap64 (x6_1 + 1))))) = some r := by rw [if_pos rfl] at H; exact H
              clear H
              have H := H1
              clear H1
              by_cases c21 : (wrap64 (x5_1 + (((rd_T30 l0 x6_1).f0).size : Int))) > 300
              · rw [if_pos c21] at H
                have c21b0 : decide (300 < (wrap64 (x5_1 + (((rd_T30 l0 x6_1).f0).size : Int)))) = true := decide_eq_true c21
                clear c21
                obtain rfl := Option.some.inj H
                have p130 : 0 ≤ (x6_1 : Int) := of_decide_eq_true (by first | (with_reducible assumption) | assumption)
                have q130 : x6_1 < (l0.length : Int) := of_decide_eq_true (by first | (with_reducible assumption) | assumption)
                obtain ⟨ad130, e130, hx130_0, hx130_1, hx130_2, hx130_3⟩ := at_T30 HR0.out x6_1 p130 q130
                cases e130
                replace hx130_0 := (HB.out.cell (World.block_lt_of_cell? w _ hx130_0)).trans hx130_0
                replace hx130_1 := (HB.out.cell (World.block_lt_of_cell? w _ hx130_1)).trans hx130_1
                replace hx130_2 := (HB.out.cell (World.block_lt_of_cell? w _ hx130_2)).trans hx130_2
                replace hx130_3 := (HB.out.cell (World.block_lt_of_cell? w _ hx130_3)).trans hx130_3
                replace p130 := eq_true p130
                replace q130 := eq_true q130
                have p131 : 0 ≤ (x6_1 : Int) := of_decide_eq_true (by first | (with_reducible assumption) | assumption)
                have q131 : x6_1 < (l0.length : Int) := of_decide_eq_true (by first | (with_reducible assumption) | assumption)
                obtain ⟨ad131, e131, hx131_0, hx131_1, hx131_2, hx131_3⟩ := at_T30 HR0.out x6_1 p131 q131
                obtain rfl : ad130 = ad131 := (by injection e131)
                replace hx131_0 := (HB.out.cell (World.block_lt_of_cell? w _ hx131_0)).trans hx131_0
                replace hx131_1 := (HB.out.cell (World.block_lt_of_cell? w _ hx131_1)).trans hx131_1
                replace hx131_2 := (HB.out.cell (World.block_lt_of_cell? w _ hx131_2)).trans hx131_2
                replace hx131_3 := (HB.out.cell (World.block_lt_of_cell? w _ hx131_3)).trans hx131_3
                replace p131 := eq_true p131
                replace q131 := eq_true q131
                go_wp2
                go_ret
                exact ⟨by first | rfl | (simp [errW_none, errW_some] <;> rfl) | (simp [*, errW_none, errW_some] <;> rfl), by repeat (first | (with_reducible first | exact HB.out | apply below_alloc | apply pw_below_drewN | apply below_drew1) | exact HB.out)⟩
              · rw [if_neg c21] at H
                have c21b0 : decide (300 < (wrap64 (x5_1 + (((rd_T30 l0 x6_1).f0).size : Int)))) = false := decide_eq_false c21
                clear c21
                by_cases c22 : x6_1 > 50
                · rw [if_pos c22] at H
                  have c22b0 : decide (50 < x6_1) = true := decide_eq_true c22
                  clear c22
                  obtain rfl := Option.some.inj H
                  have p130 : 0 ≤ (x6_1 : Int) := of_decide_eq_true (by first | (with_reducible assumption) | assumption)
                  have q130 : x6_1 < (l0.length : Int) := of_decide_eq_true (by first | (with_reducible assumption) | assumption)
                  obtain ⟨ad130, e130, hx130_0, hx130_1, hx130_2, hx130_3⟩ := at_T30 HR0.out x6_1 p130 q130
                  cases e130
                  replace hx130_0 := (HB.out.cell (World.block_lt_of_cell? w _ hx130_0)).trans hx130_0
                  replace hx130_1 := (HB.out.cell (World.block_lt_of_cell? w _ hx130_1)).trans hx130_1
                  replace hx130_2 := (HB.out.cell (World.block_lt_of_cell? w _ hx130_2)).trans hx130_2
                  replace hx130_3 := (HB.out.cell (World.block_lt_of_cell? w _ hx130_3)).trans hx130_3
                  replace p130 := eq_true p130
                  replace q130 := eq_true q130
                  have p131 : 0 ≤ (x6_1 : Int) := of_decide_eq_true (by first | (with_reducible assumption) | assumption)
                  have q131 : x6_1 < (l0.length : Int) := of_decide_eq_true (by first | (with_reducible assumption) | assumption)
                  obtain ⟨ad131, e131, hx131_0, hx131_1, hx131_2, hx131_3⟩ := at_T30 HR0.out x6_1 p131 q131
                  obtain rfl : ad130 = ad131 := (by injection e131)
                  replace hx131_0 := (HB.out.cell (World.block_lt_of_cell? w _ hx131_0)).trans hx131_0
                  replace hx131_1 := (HB.out.cell (World.block_lt_of_cell? w _ hx131_1)).trans hx131_1
                  replace hx131_2 := (HB.out.cell (World.block_lt_of_cell? w _ hx131_2)).trans hx131_2
                  replace hx131_3 := (HB.out.cell (World.block_lt_of_cell? w _ hx131_3)).trans hx131_3
                  replace p131 := eq_true p131
                  replace q131 := eq_true q131
                  go_wp2
                  go_ret
                  exact ⟨by first | rfl | (simp [errW_none, errW_some] <;> rfl) | (simp [*, errW_none, errW_some] <;> rfl), by repeat (first | (with_reducible first | exact HB.out | apply below_alloc | apply pw_below_drewN | apply below_drew1) | exact HB.out)⟩
                · rw [if_neg c22] at H
                  have c22b0 : decide (50 < x6_1) = false := decide_eq_false c22
                  clear c22
                  have H' := Aside0.mk H
                  clear H
                  have p130 : 0 ≤ (x6_1 : Int) := of_decide_eq_true (by first | (with_reducible assumption) | assumption)
                  have q130 : x6_1 < (l0.length : Int) := of_decide_eq_true (by first | (with_reducible assumption) | assumption)
                  obtain ⟨ad130, e130, hx130_0, hx130_1, hx130_2, hx130_3⟩ := at_T30 HR0.out x6_1 p130 q130
                  cases e130
                  replace hx130_0 := (HB.out.cell (World.block_lt_of_cell? w _ hx130_0)).trans hx130_0
                  replace hx130_1 := (HB.out.cell (World.block_lt_of_cell? w _ hx130_1)).trans hx130_1
                  replace hx130_2 := (HB.out.cell (World.block_lt_of_cell? w _ hx130_2)).trans hx130_2
                  replace hx130_3 := (HB.out.cell (World.block_lt_of_cell? w _ hx130_3)).trans hx130_3
                  replace p130 := eq_true p130
                  replace q130 := eq_true q130
                  have p131 : 0 ≤ (x6_1 : Int) := of_decide_eq_true (by first | (with_reducible assumption) | assumption)
                  have q131 : x6_1 < (l0.length : Int) := of_decide_eq_true (by first | (with_reducible assumption) | assumption)
                  obtain ⟨ad131, e131, hx131_0, hx131_1, hx131_2, hx131_3⟩ := at_T30 HR0.out x6_1 p131 q131
                  obtain rfl : ad130 = ad131 := (by injection e131)
                  replace hx131_0 := (HB.out.cell (World.block_lt_of_cell? w _ hx131_0)).trans hx131_0
                  replace hx131_1 := (HB.out.cell (World.block_lt_of_cell? w _ hx131_1)).trans hx131_1
                  replace hx131_2 := (HB.out.cell (World.block_lt_of_cell? w _ hx131_2)).trans hx131_2
                  replace hx131_3 := (HB.out.cell (World.block_lt_of_cell? w _ hx131_3)).trans hx131_3
                  replace p131 := eq_true p131
                  replace q131 := eq_true q131
                  go_wp2
                  go_roundg k1
                  case measure => have := HK1.out; omega
                  case rel => exact ⟨((rd_T30 l0 x6_1).f1), (true), (wrap64 (x5_1 + (((rd_T30 l0 x6_1).f0).size : Int))), (wrap64 (x6_1 + 1)), (by first | rfl | (simp; done) | (simp [*]; done) | (simp; unfold wrap64; omega)), (by first | rfl | (simp; done) | (simp [*]; done) | (simp; unfold wrap64; omega)), (by first | rfl | (simp; done) | (simp [*]; done) | (simp; unfold wrap64; omega)), (by first | rfl | (simp; done) | (simp [*]; done) | (simp; unfold wrap64; omega)), H', ⟨by have := HK1.out; omega⟩, ⟨by repeat (first | (with_reducible first | exact HB.out | apply below_alloc | apply pw_below_drewN | apply below_drew1) | exact HB.out)⟩⟩
            · replace c20 := Bool.eq_false_iff.mpr c20
              subst c20
              have H1 : (if ((rd_T30 l0 x6_1).f1 = true) then (if (wrap64 (x5_1 + (((rd_T30 l0 x6_1).f0).size : Int))) > 300 then (some true) else (if x6_1 > 50 then (some true) else (lazaruslaw15_SplitSome.l0 k1 l0 ((rd_T30 l0 x6_1).f1) false (wrap64 (x5_1 + (((rd_T30 l0 x6_1).f0).size : Int))) (wrap64 (x6_1 + 1))))) else (if ((rd_T30 l0 x6_1).f2 = true) then (if (wrap64 (x5_1 + (((rd_T30 l0 x6_1).f0).size : Int))) > 300 then (some true) else (if x6_1 > 50 then (some true) else (lazaruslaw15_SplitSome.l0 k1 l0 ((rd_T30 l0 x6_1).f1) false (wrap64 (x5_1 + (((rd_T30 l0 x6_1).f0).size : Int))) (wrap64 (x6_1 + 1))))) else (if (wrap64 (x5_1 + (((rd_T30 l0 x6_1).f0).size : Int))) > 300 then (some true) else (if x6_1 > 50 then (some true) else (lazaruslaw15_SplitSome.l0 k1 l0 ((rd_T30 l0 x6_1).f1) (!((rd_T30 l0 x6_1).f3)) (wrap64 (x5_1 + (((rd_T30 l0 x6_1).f0).size : Int))) (wrap64 (x6_1 + 1))))))) = some r := by rw [if_neg (show ¬ (false = true) by decide)] at H; exact H
              clear H
              have H := H1
              clear H1
              obtain ⟨bq23, hbq23⟩ : ∃ b_ : Bool, b_ = ((rd_T30 l0 x6_1).f1) := ⟨_, rfl⟩
              replace H : (if (bq23 = true) then (if (wrap64 (x5_1 + (((rd_T30 l0 x6_1).f0).size : Int))) > 300 then (some true) else (if x6_1 > 50 then (some true) else (lazaruslaw15_SplitSome.l0 k1 l0 bq23 false (wrap64 (x5_1 + (((rd_T30 l0 x6_1).f0).size : Int))) (wrap64 (x6_1 + 1))))) else (if ((rd_T30 l0 x6_1).f2 = true) then (if (wrap64 (x5_1 + (((rd_T30 l0 x6_1).f0).size : Int))) > 300 then (some true) else (if x6_1 > 50 then (some true) else (lazaruslaw15_SplitSome.l0 k1 l0 bq23 false (wrap64 (x5_1 + (((rd_T30 l0 x6_1).f0).size : Int))) (wrap64 (x6_1 + 1))))) else (if (wrap64 (x5_1 + (((rd_T30 l0 x6_1).f0).size : Int))) > 300 then (some true) else (if x6_1 > 50 then (some true) else (lazaruslaw15_SplitSome.l0 k1 l0 bq23 (!((rd_T30 l0 x6_1).f3)) (wrap64 (x5_1 + (((rd_T30 l0 x6_1).f0).size : Int))) (wrap64 (x6_1 + 1))))))) = some r := by rw [← hbq23] at H; exact H
              have Nbq23 := Aside0.mk hbq23
              clear hbq23
              by_cases c24 : (bq23 = true)
              · subst c24
                have H1 : (if (wrap64 (x5_1 + (((rd_T30 l0 x6_1).f0).size : Int))) > 300 then (some true) else (if x6_1 > 50 then (some true) else (lazaruslaw15_SplitSome.l0 k1 l0 true false (wrap64 (x5_1 + (((rd_T30 l0 x6_1).f0).size : Int))) (wrap64 (x6_1 + 1))))) = some r := by rw [if_pos rfl] at H; exact H
                clear H
                have H := H1
                clear H1
                by_cases c25 : (wrap64 (x5_1 + (((rd_T30 l0 x6_1).f0).size : Int))) > 300
                · rw [if_pos c25] at H
                  have c25b0 : decide (300 < (wrap64 (x5_1 + (((rd_T30 l0 x6_1).f0).size : Int)))) = true := decide_eq_true c25
                  clear c25
                  obtain rfl := Option.some.inj H
                  have p130 : 0 ≤ (x6_1 : Int) := of_decide_eq_true (by first | (with_reducible assumption) | assumption)
                  have q130 : x6_1 < (l0.length : Int) := of_decide_eq_true (by first | (with_reducible assumption) | assumption)
                  obtain ⟨ad130, e130, hx130_0, hx130_1, hx130_2, hx130_3⟩ := at_T30 HR0.out x6_1 p130 q130
                  (try rw [← Nbq23.out] at hx130_1)
                  (try rw [← Nbq23.out] at hx130_2)
                  (try rw [← Nbq23.out] at hx130_3)
                  cases e130
                  replace hx130_0 := (HB.out.cell (World.block_lt_of_cell? w _ hx130_0)).trans hx130_0
                  replace hx130_1 := (HB.out.cell (World.block_lt_of_cell? w _ hx130_1)).trans hx130_1
                  replace hx130_2 := (HB.out.cell (World.block_lt_of_cell? w _ hx130_2)).trans hx130_2
                  replace hx130_3 := (HB.out.cell (World.block_lt_of_cell? w _ hx130_3)).trans hx130_3
                  replace p130 := eq_true p130
                  replace q130 := eq_true q130
                  have p132 : 0 ≤ (x6_1 : Int) := of_decide_eq_true (by first | (with_reducible assumption) | assumption)
                  have q132 : x6_1 < (l0.length : Int) := of_decide_eq_true (by first | (with_reducible assumption) | assumption)
                  obtain ⟨ad132, e132, hx132_0, hx132_1, hx132_2, hx132_3⟩ := at_T30 HR0.out x6_1 p132 q132
                  (try rw [← Nbq23.out] at hx132_1)
                  (try rw [← Nbq23.out] at hx132_2)
                  (try rw [← Nbq23.out] at hx132_3)
                  obtain rfl : ad130 = ad132 := (by injection e132)
                  replace hx132_0 := (HB.out.cell (World.block_lt_of_cell? w _ hx132_0)).trans hx132_0
                  replace hx132_1 := (HB.out.cell (World.block_lt_of_cell? w _ hx132_1)).trans hx132_1
                  replace hx132_2 := (HB.out.cell (World.block_lt_of_cell? w _ hx132_2)).trans hx132_2
                  replace hx132_3 := (HB.out.cell (World.block_lt_of_cell? w _ hx132_3)).trans hx132_3
                  replace p132 := eq_true p132
                  replace q132 := eq_true q132
                  have p133 : 0 ≤ (x6_1 : Int) := of_decide_eq_true (by first | (with_reducible assumption) | assumption)
                  have q133 : x6_1 < (l0.length : Int) := of_decide_eq_true (by first | (with_reducible assumption) | assumption)
                  obtain ⟨ad133, e133, hx133_0, hx133_1, hx133_2, hx133_3⟩ := at_T30 HR0.out x6_1 p133 q133
                  (try rw [← Nbq23.out] at hx133_1)
                  (try rw [← Nbq23.out] at hx133_2)
                  (try rw [← Nbq23.out] at hx133_3)
                  obtain rfl : ad130 = ad133 := (by injection e133)
                  replace hx133_0 := (HB.out.cell (World.block_lt_of_cell? w _ hx133_0)).trans hx133_0
                  replace hx133_1 := (HB.out.cell (World.block_lt_of_cell? w _ hx133_1)).trans hx133_1
                  replace hx133_2 := (HB.out.cell (World.block_lt_of_cell? w _ hx133_2)).trans hx133_2
                  replace hx133_3 := (HB.out.cell (World.block_lt_of_cell? w _ hx133_3)).trans hx133_3
                  replace p133 := eq_true p133
                  replace q133 := eq_true q133
                  go_wp2
                  go_ret
                  exact ⟨by first | rfl | (simp [errW_none, errW_some] <;> rfl) | (simp [*, errW_none, errW_some] <;> rfl), by repeat (first | (with_reducible first | exact HB.out | apply below_alloc | apply pw_below_drewN | apply below_drew1) | exact HB.out)⟩
                · rw [if_neg c25] at H
                  have c25b0 : decide (300 < (wrap64 (x5_1 + (((rd_T30 l0 x6_1).f0).size : Int)))) = false := decide_eq_false c25
                  clear c25
                  by_cases c26 : x6_1 > 50
                  · rw [if_pos c26] at H
                    have c26b0 : decide (50 < x6_1) = true := decide_eq_true c26
                    clear c26
                    obtain rfl := Option.some.inj H
                    have p130 : 0 ≤ (x6_1 : Int) := of_decide_eq_true (by first | (with_reducible assumption) | assumption)
                    have q130 : x6_1 < (l0.length : Int) := of_decide_eq_true (by first | (with_reducible assumption) | assumption)
                    obtain ⟨ad130, e130, hx130_0, hx130_1, hx130_2, hx130_3⟩ := at_T30 HR0.out x6_1 p130 q130
                    (try rw [← Nbq23.out] at hx130_1)
                    (try rw [← Nbq23.out] at hx130_2)
                    (try rw [← Nbq23.out] at hx130_3)
                    cases e130
                    replace hx130_0 := (HB.out.cell (World.block_lt_of_cell? w _ hx130_0)).trans hx130_0
                    replace hx130_1 := (HB.out.cell (World.block_lt_of_cell? w _ hx130_1)).trans hx130_1
                    replace hx130_2 := (HB.out.cell (World.block_lt_of_cell? w _ hx130_2)).trans hx130_2
                    replace hx130_3 := (HB.out.cell (World.block_lt_of_cell? w _ hx130_3)).trans hx130_3
                    replace p130 := eq_true p130
                    replace q130 := eq_true q130
                    have p132 : 0 ≤ (x6_1 : Int) := of_decide_eq_true (by first | (with_reducible assumption) | assumption)
                    have q132 : x6_1 < (l0.length : Int) := of_decide_eq_true (by first | (with_reducible assumption) | assumption)
                    obtain ⟨ad132, e132, hx132_0, hx132_1, hx132_2, hx132_3⟩ := at_T30 HR0.out x6_1 p132 q132
                    (try rw [← Nbq23.out] at hx132_1)
                    (try rw [← Nbq23.out] at hx132_2)
                    (try rw [← Nbq23.out] at hx132_3)
                    obtain rfl : ad130 = ad132 := (by injection e132)
                    replace hx132_0 := (HB.out.cell (World.block_lt_of_cell? w _ hx132_0)).trans hx132_0
                    replace hx132_1 := (HB.out.cell (World.block_lt_of_cell? w _ hx132_1)).trans hx132_1
                    replace hx132_2 := (HB.out.cell (World.block_lt_of_cell? w _ hx132_2)).trans hx132_2
                    replace hx132_3 := (HB.out.cell (World.block_lt_of_cell? w _ hx132_3)).trans hx132_3
                    replace p132 := eq_true p132
                    replace q132 := eq_true q132
                    have p133 : 0 ≤ (x6_1 : Int) := of_decide_eq_true (by first | (with_reducible assumption) | assumption)
                    have q133 : x6_1 < (l0.length : Int) := of_decide_eq_true (by first | (with_reducible assumption) | assumption)
                    obtain ⟨ad133, e133, hx133_0, hx133_1, hx133_2, hx133_3⟩ := at_T30 HR0.out x6_1 p133 q133
                    (try rw [← Nbq23.out] at hx133_1)
                    (try rw [← Nbq23.out] at hx133_2)
                    (try rw [← Nbq23.out] at hx133_3)
                    obtain rfl : ad130 = ad133 := (by injection e133)
                    replace hx133_0 := (HB.out.cell (World.block_lt_of_cell? w _ hx133_0)).trans hx133_0
                    replace hx133_1 := (HB.out.cell (World.block_lt_of_cell? w _ hx133_1)).trans hx133_1
                    replace hx133_2 := (HB.out.cell (World.block_lt_of_cell? w _ hx133_2)).trans hx133_2
                    replace hx133_3 := (HB.out.cell (World.block_lt_of_cell? w _ hx133_3)).trans hx133_3
                    replace p133 := eq_true p133
                    replace q133 := eq_true q133
                    go_wp2
                    go_ret
                    exact ⟨by first | rfl | (simp [errW_none, errW_some] <;> rfl) | (simp [*, errW_none, errW_some] <;> rfl), by repeat (first | (with_reducible first | exact HB.out | apply below_alloc | apply pw_below_drewN | apply below_drew1) | exact HB.out)⟩
                  · rw [if_neg c26] at H
                    have c26b0 : decide (50 < x6_1) = false := decide_eq_false c26
                    clear c26
                    have H' := Aside0.mk H
                    clear H
                    have p130 : 0 ≤ (x6_1 : Int) := of_decide_eq_true (by first | (with_reducible assumption) | assumption)
                    have q130 : x6_1 < (l0.length : Int) := of_decide_eq_true (by first | (with_reducible assumption) | assumption)
                    obtain ⟨ad130, e130, hx130_0, hx130_1, hx130_2, hx130_3⟩ := at_T30 HR0.out x6_1 p130 q130
                    (try rw [← Nbq23.out] at hx130_1)
                    (try rw [← Nbq23.out] at hx130_2)
                    (try rw [← Nbq23.out] at hx130_3)
                    cases e130
                    replace hx130_0 := (HB.out.cell (World.block_lt_of_cell? w _ hx130_0)).trans hx130_0
                    replace hx130_1 := (HB.out.cell (World.block_lt_of_cell? w _ hx130_1)).trans hx130_1
                    replace hx130_2 := (HB.out.cell (World.block_lt_of_cell? w _ hx130_2)).trans hx130_2
                    replace hx130_3 := (HB.out.cell (World.block_lt_of_cell? w _ hx130_3)).trans hx130_3
                    replace p130 := eq_true p130
                    replace q130 := eq_true q130
                    have p132 : 0 ≤ (x6_1 : Int) := of_decide_eq_true (by first | (with_reducible assumption) | assumption)
                    have q132 : x6_1 < (l0.length : Int) := of_decide_eq_true (by first | (with_reducible assumption) | assumption)
                    obtain ⟨ad132, e132, hx132_0, hx132_1, hx132_2, hx132_3⟩ := at_T30 HR0.out x6_1 p132 q132
                    (try rw [← Nbq23.out] at hx132_1)
                    (try rw [← Nbq23.out] at hx132_2)
                    (try rw [← Nbq23.out] at hx132_3)
                    obtain rfl : ad130 = ad132 := (by injection e132)
                    replace hx132_0 := (HB.out.cell (World.block_lt_of_cell? w _ hx132_0)).trans hx132_0
                    replace hx132_1 := (HB.out.cell (World.block_lt_of_cell? w _ hx132_1)).trans hx132_1
                    replace hx132_2 := (HB.out.cell (World.block_lt_of_cell? w _ hx132_2)).trans hx132_2
                    replace hx132_3 := (HB.out.cell (World.block_lt_of_cell? w _ hx132_3)).trans hx132_3
                    replace p132 := eq_true p132
                    replace q132 := eq_true q132
                    have p133 : 0 ≤ (x6_1 : Int) := of_decide_eq_true (by first | (with_reducible assumption) | assumption)
                    have q133 : x6_1 < (l0.length : Int) := of_decide_eq_true (by first | (with_reducible assumption) | assumption)
                    obtain ⟨ad133, e133, hx133_0, hx133_1, hx133_2, hx133_3⟩ := at_T30 HR0.out x6_1 p133 q133
                    (try rw [← Nbq23.out] at hx133_1)
                    (try rw [← Nbq23.out] at hx133_2)
                    (try rw [← Nbq23.out] at hx133_3)
                    obtain rfl : ad130 = ad133 := (by injection e133)
                    replace hx133_0 := (HB.out.cell (World.block_lt_of_cell? w _ hx133_0)).trans hx133_0
                    replace hx133_1 := (HB.out.cell (World.block_lt_of_cell? w _ hx133_1)).trans hx133_1
                    replace hx133_2 := (HB.out.cell (World.block_lt_of_cell? w _ hx133_2)).trans hx133_2
                    replace hx133_3 := (HB.out.cell (World.block_lt_of_cell? w _ hx133_3)).trans hx133_3
                    replace p133 := eq_true p133
                    replace q133 := eq_true q133
                    go_wp2
                    go_roundg k1
                    case measure => have := HK1.out; omega
                    case rel => exact ⟨(true), (false), (wrap64 (x5_1 + (((rd_T30 l0 x6_1).f0).size : Int))), (wrap64 (x6_1 + 1)), (by first | rfl | (simp; done) | (simp [*]; done) | (simp; unfold wrap64; omega)), (by first | rfl | (simp; done) | (simp [*]; done) | (simp; unfold wrap64; omega)), (by first | rfl | (simp; done) | (simp [*]; done) | (simp; unfold wrap64; omega)), (by first | rfl | (simp; done) | (simp [*]; done) | (simp; unfold wrap64; omega)), H', ⟨by have := HK1.out; omega⟩, ⟨by repeat (first | (with_reducible first | exact HB.out | apply below_alloc | apply pw_below_drewN | apply below_drew1) | exact HB.out)⟩⟩
              · replace c24 := Bool.eq_false_iff.mpr c24
                subst c24
                have H1 : (if ((rd_T30 l0 x6_1).f2 = true) then (if (wrap64 (x5_1 + (((rd_T30 l0 x6_1).f0).size : Int))) > 300 then (some true) else (if x6_1 > 50 then (some true) else (lazaruslaw15_SplitSome.l0 k1 l0 false false (wrap64 (x5_1 + (((rd_T30 l0 x6_1).f0).size : Int))) (wrap64 (x6_1 + 1))))) else (if (wrap64 (x5_1 + (((rd_T30 l0 x6_1).f0).size : Int))) > 300 then (some true) else (if x6_1 > 50 then (some true) else (lazaruslaw15_SplitSome.l0 k1 l0 false (!((rd_T30 l0 x6_1).f3)) (wrap64 (x5_1 + (((rd_T30 l0 x6_1).f0).size : Int))) (wrap64 (x6_1 + 1)))))) = some r := by rw [if_neg (show ¬ (false = true) by decide)] at H; exact H
                clear H
                have H := H1
                clear H1
                obtain ⟨bq27, hbq27⟩ : ∃ b_ : Bool, b_ = ((rd_T30 l0 x6_1).f2) := ⟨_, rfl⟩
                replace H : (if (bq27 = true) then (if (wrap64 (x5_1 + (((rd_T30 l0 x6_1).f0).size : Int))) > 300 then (some true) else (if x6_1 > 50 then (some true) else (lazaruslaw15_SplitSome.l0 k1 l0 false false (wrap64 (x5_1 + (((rd_T30 l0 x6_1).f0).size : Int))) (wrap64 (x6_1 + 1))))) else (if (wrap64 (x5_1 + (((rd_T30 l0 x6_1).f0).size : Int))) > 300 then (some true) else (if x6_1 > 50 then (some true) else (lazaruslaw15_SplitSome.l0 k1 l0 false (!((rd_T30 l0 x6_1).f3)) (wrap64 (x5_1 + (((rd_T30 l0 x6_1).f0).size : Int))) (wrap64 (x6_1 + 1)))))) = some r := by rw [← hbq27] at H; exact H
                have Nbq27 := Aside0.mk hbq27
                clear hbq27
                by_cases c28 : (bq27 = true)
                · subst c28
                  have H1 : (if (wrap64 (x5_1 + (((rd_T30 l0 x6_1).f0).size : Int))) > 300 then (some true) else (if x6_1 > 50 then (some true) else (lazaruslaw15_SplitSome.l0 k1 l0 false false (wrap64 (x5_1 + (((rd_T30 l0 x6_1).f0).size : Int))) (wrap64 (x6_1 + 1))))) = some r := by rw [if_pos rfl] at H; exact H
                  clear H
                  have H := H1
                  clear H1
                  by_cases c29 : (wrap64 (x5_1 + (((rd_T30 l0 x6_1).f0).size : Int))) > 300
                  · rw [if_pos c29] at H
                    have c29b0 : decide (300 < (wrap64 (x5_1 + (((rd_T30 l0 x6_1).f0).size : Int)))) = true := decide_eq_true c29
                    clear c29
                    obtain rfl := Option.some.inj H
                    have p130 : 0 ≤ (x6_1 : Int) := of_decide_eq_true (by first | (with_reducible assumption) | assumption)
                    have q130 : x6_1 < (l0.length : Int) := of_decide_eq_true (by first | (with_reducible assumption) | assumption)
                    obtain ⟨ad130, e130, hx130_0, hx130_1, hx130_2, hx130_3⟩ := at_T30 HR0.out x6_1 p130 q130
                    (try rw [← Nbq23.out] at hx130_1)
                    (try rw [← Nbq27.out] at hx130_1)
                    (try rw [← Nbq23.out] at hx130_2)
                    (try rw [← Nbq27.out] at hx130_2)
                    (try rw [← Nbq23.out] at hx130_3)
                    (try rw [← Nbq27.out] at hx130_3)
                    cases e130
                    replace hx130_0 := (HB.out.cell (World.block_lt_of_cell? w _ hx130_0)).trans hx130_0
                    replace hx130_1 := (HB.out.cell (World.block_lt_of_cell? w _ hx130_1)).trans hx130_1
                    replace hx130_2 := (HB.out.cell (World.block_lt_of_cell? w _ hx130_2)).trans hx130_2
                    replace hx130_3 := (HB.out.cell (World.block_lt_of_cell? w _ hx130_3)).trans hx130_3
                    replace p130 := eq_true p130
                    replace q130 := eq_true q130
                    have p132 : 0 ≤ (x6_1 : Int) := of_decide_eq_true (by first | (with_reducible assumption) | assumption)
                    have q132 : x6_1 < (l0.length : Int) := of_decide_eq_true (by first | (with_reducible assumption) | assumption)
                    obtain ⟨ad132, e132, hx132_0, hx132_1, hx132_2, hx132_3⟩ := at_T30 HR0.out x6_1 p132 q132
                    (try rw [← Nbq23.out] at hx132_1)
                    (try rw [← Nbq27.out] at hx132_1)
                    (try rw [← Nbq23.out] at hx132_2)
                    (try rw [← Nbq27.out] at hx132_2)
                    (try rw [← Nbq23.out] at hx132_3)
                    (try rw [← Nbq27.out] at hx132_3)
                    obtain rfl : ad130 = ad132 := (by injection e132)
                    replace hx132_0 := (HB.out.cell (World.block_lt_of_cell? w _ hx132_0)).trans hx132_0
                    replace hx132_1 := (HB.out.cell (World.block_lt_of_cell? w _ hx132_1)).trans hx132_1
                    replace hx132_2 := (HB.out.cell (World.block_lt_of_cell? w _ hx132_2)).trans hx132_2
                    replace hx132_3 := (HB.out.cell (World.block_lt_of_cell? w _ hx132_3)).trans hx132_3
                    replace p132 := eq_true p132
                    replace q132 := eq_true q132
                    have p134 : 0 ≤ (x6_1 : Int) := of_decide_eq_true (by first | (with_reducible assumption) | assumption)
                    have q134 : x6_1 < (l0.length : Int) := of_decide_eq_true (by first | (with_reducible assumption) | assumption)
                    obtain ⟨ad134, e134, hx134_0, hx134_1, hx134_2, hx134_3⟩ := at_T30 HR0.out x6_1 p134 q134
                    (try rw [← Nbq23.out] at hx134_1)
                    (try rw [← Nbq27.out] at hx134_1)
                    (try rw [← Nbq23.out] at hx134_2)
                    (try rw [← Nbq27.out] at hx134_2)
                    (try rw [← Nbq23.out] at hx134_3)
                    (try rw [← Nbq27.out] at hx134_3)
                    obtain rfl : ad130 = ad134 := (by injection e134)
                    replace hx134_0 := (HB.out.cell (World.block_lt_of_cell? w _ hx134_0)).trans hx134_0
                    replace hx134_1 := (HB.out.cell (World.block_lt_of_cell? w _ hx134_1)).trans hx134_1
                    replace hx134_2 := (HB.out.cell (World.block_lt_of_cell? w _ hx134_2)).trans hx134_2
                    replace hx134_3 := (HB.out.cell (World.block_lt_of_cell? w _ hx134_3)).trans hx134_3
                    replace p134 := eq_true p134
                    replace q134 := eq_true q134
                    have p135 : 0 ≤ (x6_1 : Int) := of_decide_eq_true (by first | (with_reducible assumption) | assumption)
                    have q135 : x6_1 < (l0.length : Int) := of_decide_eq_true (by first | (with_reducible assumption) | assumption)
                    obtain ⟨ad135, e135, hx135_0, hx135_1, hx135_2, hx135_3⟩ := at_T30 HR0.out x6_1 p135 q135
                    (try rw [← Nbq23.out] at hx135_1)
                    (try rw [← Nbq27.out] at hx135_1)
                    (try rw [← Nbq23.out] at hx135_2)
                    (try rw [← Nbq27.out] at hx135_2)
                    (try rw [← Nbq23.out] at hx135_3)
                    (try rw [← Nbq27.out] at hx135_3)
                    obtain rfl : ad130 = ad135 := (by injection e135)
                    replace hx135_0 := (HB.out.cell (World.block_lt_of_cell? w _ hx135_0)).trans hx135_0
                    replace hx135_1 := (HB.out.cell (World.block_lt_of_cell? w _ hx135_1)).trans hx135_1
                    replace hx135_2 := (HB.out.cell (World.block_lt_of_cell? w _ hx135_2)).trans hx135_2
                    replace hx135_3 := (HB.out.cell (World.block_lt_of_cell? w _ hx135_3)).trans hx135_3
                    replace p135 := eq_true p135
                    replace q135 := eq_true q135
                    go_wp2
                    go_ret
                    exact ⟨by first | rfl | (simp [errW_none, errW_some] <;> rfl) | (simp [*, errW_none, errW_some] <;> rfl), by repeat (first | (with_reducible first | exact HB.out | apply below_alloc | apply pw_below_drewN | apply below_drew1) | exact HB.out)⟩
                  · rw [if_neg c29] at H
                    have c29b0 : decide (300 < (wrap64 (x5_1 + (((rd_T30 l0 x6_1).f0).size : Int)))) = false := decide_eq_false c29
                    clear c29
                    by_cases c30 : x6_1 > 50
                    · rw [if_pos c30] at H
                      have c30b0 : decide (50 < x6_1) = true := decide_eq_true c30
                      clear c30
                      obtain rfl := Option.some.inj H
                      have p130 : 0 ≤ (x6_1 : Int) := of_decide_eq_true (by first | (with_reducible assumption) | assumption)
                      have q130 : x6_1 < (l0.length : Int) := of_decide_eq_true (by first | (with_reducible assumption) | assumption)
                      obtain ⟨ad130, e130, hx130_0, hx130_1, hx130_2, hx130_3⟩ := at_T30 HR0.out x6_1 p130 q130
                      (try rw [← Nbq23.out] at hx130_1)
                      (try rw [← Nbq27.out] at hx130_1)
                      (try rw [← Nbq23.out] at hx130_2)
                      (try rw [← Nbq27.out] at hx130_2)
                      (try rw [← Nbq23.out] at hx130_3)
                      (try rw [← Nbq27.out] at hx130_3)
                      cases e130
                      replace hx130_0 := (HB.out.cell (World.block_lt_of_cell? w _ hx130_0)).trans hx130_0
                      replace hx130_1 := (HB.out.cell (World.block_lt_of_cell? w _ hx130_1)).trans hx130_1
                      replace hx130_2 := (HB.out.cell (World.block_lt_of_cell? w _ hx130_2)).trans hx130_2
                      replace hx130_3 := (HB.out.cell (World.block_lt_of_cell? w _ hx130_3)).trans hx130_3
                      replace p130 := eq_true p130
                      replace q130 := eq_true q130
                      have p132 : 0 ≤ (x6_1 : Int) := of_decide_eq_true (by first | (with_reducible assumption) | assumption)
                      have q132 : x6_1 < (l0.length : Int) := of_decide_eq_true (by first | (with_reducible assumption) | assumption)
                      obtain ⟨ad132, e132, hx132_0, hx132_1, hx132_2, hx132_3⟩ := at_T30 HR0.out x6_1 p132 q132
                      (try rw [← Nbq23.out] at hx132_1)
                      (try rw [← Nbq27.out] at hx132_1)
                      (try rw [← Nbq23.out] at hx132_2)
                      (try rw [← Nbq27.out] at hx132_2)
                      (try rw [← Nbq23.out] at hx132_3)
                      (try rw [← Nbq27.out] at hx132_3)
                      obtain rfl : ad130 = ad132 := (by injection e132)
                      replace hx132_0 := (HB.out.cell (World.block_lt_of_cell? w _ hx132_0)).trans hx132_0
                      replace hx132_1 := (HB.out.cell (World.block_lt_of_cell? w _ hx132_1)).trans hx132_1
                      replace hx132_2 := (HB.out.cell (World.block_lt_of_cell? w _ hx132_2)).trans hx132_2
                      replace hx132_3 := (HB.out.cell (World.block_lt_of_cell? w _ hx132_3)).trans hx132_3
                      replace p132 := eq_true p132
                      replace q132 := eq_true q132
                      have p134 : 0 ≤ (x6_1 : Int) := of_decide_eq_true (by first | (with_reducible assumption) | assumption)
                      have q134 : x6_1 < (l0.length : Int) := of_decide_eq_true (by first | (with_reducible assumption) | assumption)
                      obtain ⟨ad134, e134, hx134_0, hx134_1, hx134_2, hx134_3⟩ := at_T30 HR0.out x6_1 p134 q134
                      (try rw [← Nbq23.out] at hx134_1)
                      (try rw [← Nbq27.out] at hx134_1)
                      (try rw [← Nbq23.out] at hx134_2)
                      (try rw [← Nbq27.out] at hx134_2)
                      (try rw [← Nbq23.out] at hx134_3)
                      (try rw [← Nbq27.out] at hx134_3)
                      obtain rfl : ad130 = ad134 := (by injection e134)
                      replace hx134_0 := (HB.out.cell (World.block_lt_of_cell? w _ hx134_0)).trans hx134_0
                      replace hx134_1 := (HB.out.cell (World.block_lt_of_cell? w _ hx134_1)).trans hx134_1
                      replace hx134_2 := (HB.out.cell (World.block_lt_of_cell? w _ hx134_2)).trans hx134_2
                      replace hx134_3 := (HB.out.cell (World.block_lt_of_cell? w _ hx134_3)).trans hx134_3
                      replace p134 := eq_true p134
                      replace q134 := eq_true q134
                      have p135 : 0 ≤ (x6_1 : Int) := of_decide_eq_true (by first | (with_reducible assumption) | assumption)
                      have q135 : x6_1 < (l0.length : Int) := of_decide_eq_true (by first | (with_reducible assumption) | assumption)
                      obtain ⟨ad135, e135, hx135_0, hx135_1, hx135_2, hx135_3⟩ := at_T30 HR0.out x6_1 p135 q135
                      (try rw [← Nbq23.out] at hx135_1)
                      (try rw [← Nbq27.out] at hx135_1)
                      (try rw [← Nbq23.out] at hx135_2)
                      (try rw [← Nbq27.out] at hx135_2)
                      (try rw [← Nbq23.out] at hx135_3)
                      (try rw [← Nbq27.out] at hx135_3)
                      obtain rfl : ad130 = ad135 := (by injection e135)
                      replace hx135_0 := (HB.out.cell (World.block_lt_of_cell? w _ hx135_0)).trans hx135_0
                      replace hx135_1 := (HB.out.cell (World.block_lt_of_cell? w _ hx135_1)).trans hx135_1
                      replace hx135_2 := (HB.out.cell (World.block_lt_of_cell? w _ hx135_2)).trans hx135_2
                      replace hx135_3 := (HB.out.cell (World.block_lt_of_cell? w _ hx135_3)).trans hx135_3
                      replace p135 := eq_true p135
                      replace q135 := eq_true q135
                      go_wp2
                      go_ret
                      exact ⟨by first | rfl | (simp [errW_none, errW_some] <;> rfl) | (simp [*, errW_none, errW_some] <;> rfl), by repeat (first | (with_reducible first | exact HB.out | apply below_alloc | apply pw_below_drewN | apply below_drew1) | exact HB.out)⟩
                    · rw [if_neg c30] at H
                      have c30b0 : decide (50 < x6_1) = false := decide_eq_false c30
                      clear c30
                      have H' := Aside0.mk H
                      clear H
                      have p130 : 0 ≤ (x6_1 : Int) := of_decide_eq_true (by first | (with_reducible assumption) | assumption)
                      have q130 : x6_1 < (l0.length : Int) := of_decide_eq_true (by first | (with_reducible assumption) | assumption)
                      obtain ⟨ad130, e130, hx130_0, hx130_1, hx130_2, hx130_3⟩ := at_T30 HR0.out x6_1 p130 q130
                      (try rw [← Nbq23.out] at hx130_1)
                      (try rw [← Nbq27.out] at hx130_1)
                      (try rw [← Nbq23.out] at hx130_2)
                      (try rw [← Nbq27.out] at hx130_2)
                      (try rw [← Nbq23.out] at hx130_3)
                      (try rw [← Nbq27.out] at hx130_3)
                      cases e130
                      replace hx130_0 := (HB.out.cell (World.block_lt_of_cell? w _ hx130_0)).trans hx130_0
                      replace hx130_1 := (HB.out.cell (World.block_lt_of_cell? w _ hx130_1)).trans hx130_1
                      replace hx130_2 := (HB.out.cell (World.block_lt_of_cell? w _ hx130_2)).trans hx130_2
                      replace hx130_3 := (HB.out.cell (World.block_lt_of_cell? w _ hx130_3)).trans hx130_3
                      replace p130 := eq_true p130
                      replace q130 := eq_true q130
                      have p132 : 0 ≤ (x6_1 : Int) := of_decide_eq_true (by first | (with_reducible assumption) | assumption)
                      have q132 : x6_1 < (l0.length : Int) := of_decide_eq_true (by first | (with_reducible assumption) | assumption)
                      obtain ⟨ad132, e132, hx132_0, hx132_1, hx132_2, hx132_3⟩ := at_T30 HR0.out x6_1 p132 q132
                      (try rw [← Nbq23.out] at hx132_1)
                      (try rw [← Nbq27.out] at hx132_1)
                      (try rw [← Nbq23.out] at hx132_2)
                      (try rw [← Nbq27.out] at hx132_2)
                      (try rw [← Nbq23.out] at hx132_3)
                      (try rw [← Nbq27.out] at hx132_3)
                      obtain rfl : ad130 = ad132 := (by injection e132)
                      replace hx132_0 := (HB.out.cell (World.block_lt_of_cell? w _ hx132_0)).trans hx132_0
                      replace hx132_1 := (HB.out.cell (World.block_lt_of_cell? w _ hx132_1)).trans hx132_1
                      replace hx132_2 := (HB.out.cell (World.block_lt_of_cell? w _ hx132_2)).trans hx132_2
                      replace hx132_3 := (HB.out.cell (World.block_lt_of_cell? w _ hx132_3)).trans hx132_3
                      replace p132 := eq_true p132
                      replace q132 := eq_true q132
                      have p134 : 0 ≤ (x6_1 : Int) := of_decide_eq_true (by first | (with_reducible assumption) | assumption)
                      have q134 : x6_1 < (l0.length : Int) := of_decide_eq_true (by first | (with_reducible assumption) | assumption)
                      obtain ⟨ad134, e134, hx134_0, hx134_1, hx134_2, hx134_3⟩ := at_T30 HR0.out x6_1 p134 q134
                      (try rw [← Nbq23.out] at hx134_1)
                      (try rw [← Nbq27.out] at hx134_1)
                      (try rw [← Nbq23.out] at hx134_2)
                      (try rw [← Nbq27.out] at hx134_2)
                      (try rw [← Nbq23.out] at hx134_3)
                      (try rw [← Nbq27.out] at hx134_3)
                      obtain rfl : ad130 = ad134 := (by injection e134)
                      replace hx134_0 := (HB.out.cell (World.block_lt_of_cell? w _ hx134_0)).trans hx134_0
                      replace hx134_1 := (HB.out.cell (World.block_lt_of_cell? w _ hx134_1)).trans hx134_1
                      replace hx134_2 := (HB.out.cell (World.block_lt_of_cell? w _ hx134_2)).trans hx134_2
                      replace hx134_3 := (HB.out.cell (World.block_lt_of_cell? w _ hx134_3)).trans hx134_3
                      replace p134 := eq_true p134
                      replace q134 := eq_true q134
                      have p135 : 0 ≤ (x6_1 : Int) := of_decide_eq_true (by first | (with_reducible assumption) | assumption)
                      have q135 : x6_1 < (l0.length : Int) := of_decide_eq_true (by first | (with_reducible assumption) | assumption)
                      obtain ⟨ad135, e135, hx135_0, hx135_1, hx135_2, hx135_3⟩ := at_T30 HR0.out x6_1 p135 q135
                      (try rw [← Nbq23.out] at hx135_1)
                      (try rw [← Nbq27.out] at hx135_1)
                      (try rw [← Nbq23.out] at hx135_2)
                      (try rw [← Nbq27.out] at hx135_2)
                      (try rw [← Nbq23.out] at hx135_3)
                      (try rw [← Nbq27.out] at hx135_3)
                      obtain rfl : ad130 = ad135 := (by injection e135)
                      replace hx135_0 := (HB.out.cell (World.block_lt_of_cell? w _ hx135_0)).trans hx135_0
                      replace hx135_1 := (HB.out.cell (World.block_lt_of_cell? w _ hx135_1)).trans hx135_1
                      replace hx135_2 := (HB.out.cell (World.block_lt_of_cell? w _ hx135_2)).trans hx135_2
                      replace hx135_3 := (HB.out.cell (World.block_lt_of_cell? w _ hx135_3)).trans hx135_3
                      replace p135 := eq_true p135
                      replace q135 := eq_true q135
                      go_wp2
                      go_roundg k1
                      case measure => have := HK1.out; omega
                      case rel => exact ⟨(false), (false), (wrap64 (x5_1 + (((rd_T30 l0 x6_1).f0).size : Int))), (wrap64 (x6_1 + 1)), (by first | rfl | (simp; done) | (simp [*]; done) | (simp; unfold wrap64; omega)), (by first | rfl | (simp; done) | (simp [*]; done) | (simp; unfold wrap64; omega)), (by first | rfl | (simp; done) | (simp [*]; done) | (simp; unfold wrap64; omega)), (by first | rfl | (simp; done) | (simp [*]; done) | (simp; unfold wrap64; omega)), H', ⟨by have := HK1.out; omega⟩, ⟨by repeat (first | (with_reducible first | exact HB.out | apply below_alloc | apply pw_below_drewN | apply below_drew1) | exact HB.out)⟩⟩
                · replace c28 := Bool.eq_false_iff.mpr c28
                  subst c28
                  have H1 : (if (wrap64 (x5_1 + (((rd_T30 l0 x6_1).f0).size : Int))) > 300 then (some true) else (if x6_1 > 50 then (some true) else (lazaruslaw15_SplitSome.l0 k1 l0 false (!((rd_T30 l0 x6_1).f3)) (wrap64 (x5_1 + (((rd_T30 l0 x6_1).f0).size : Int))) (wrap64 (x6_1 + 1))))) = some r := by rw [if_neg (show ¬ (false = true) by decide)] at H; exact H
                  clear H
                  have H := H1
                  clear H1
                  by_cases c31 : (wrap64 (x5_1 + (((rd_T30 l0 x6_1).f0).size : Int))) > 300
                  · rw [if_pos c31] at H
                    have c31b0 : decide (300 < (wrap64 (x5_1 + (((rd_T30 l0 x6_1).f0).size : Int)))) = true := decide_eq_true c31
                    clear c31
                    obtain rfl := Option.some.inj H
                    have p130 : 0 ≤ (x6_1 : Int) := of_decide_eq_true (by first | (with_reducible assumption) | assumption)
                    have q130 : x6_1 < (l0.length : Int) := of_decide_eq_true (by first | (with_reducible assumption) | assumption)
                    obtain ⟨ad130, e130, hx130_0, hx130_1, hx130_2, hx130_3⟩ := at_T30 HR0.out x6_1 p130 q130
                    (try rw [← Nbq23.out] at hx130_1)
                    (try rw [← Nbq27.out] at hx130_1)
                    (try rw [← Nbq23.out] at hx130_2)
                    (try rw [← Nbq27.out] at hx130_2)
                    (try rw [← Nbq23.out] at hx130_3)
                    (try rw [← Nbq27.out] at hx130_3)
                    cases e130
                    replace hx130_0 := (HB.out.cell (World.block_lt_of_cell? w _ hx130_0)).trans hx130_0
                    replace hx130_1 := (HB.out.cell (World.block_lt_of_cell? w _ hx130_1)).trans hx130_1
                    replace hx130_2 := (HB.out.cell (World.block_lt_of_cell? w _ hx130_2)).trans hx130_2
                    replace hx130_3 := (HB.out.cell (World.block_lt_of_cell? w _ hx130_3)).trans hx130_3
                    replace p130 := eq_true p130
                    replace q130 := eq_true q130
                    have p132 : 0 ≤ (x6_1 : Int) := of_decide_eq_true (by first | (with_reducible assumption) | assumption)
                    have q132 : x6_1 < (l0.length : Int) := of_decide_eq_true (by first | (with_reducible assumption) | assumption)
                    obtain ⟨ad132, e132, hx132_0, hx132_1, hx132_2, hx132_3⟩ := at_T30 HR0.out x6_1 p132 q132
                    (try rw [← Nbq23.out] at hx132_1)
                    (try rw [← Nbq27.out] at hx132_1)
                    (try rw [← Nbq23.out] at hx132_2)
                    (try rw [← Nbq27.out] at hx132_2)
                    (try rw [← Nbq23.out] at hx132_3)
                    (try rw [← Nbq27.out] at hx132_3)
                    obtain rfl : ad130 = ad132 := (by injection e132)
                    replace hx132_0 := (HB.out.cell (World.block_lt_of_cell? w _ hx132_0)).trans hx132_0
                    replace hx132_1 := (HB.out.cell (World.block_lt_of_cell? w _ hx132_1)).trans hx132_1
                    replace hx132_2 := (HB.out.cell (World.block_lt_of_cell? w _ hx132_2)).trans hx132_2
                    replace hx132_3 := (HB.out.cell (World.block_lt_of_cell? w _ hx132_3)).trans hx132_3
                    replace p132 := eq_true p132
                    replace q132 := eq_true q132
                    have p134 : 0 ≤ (x6_1 : Int) := of_decide_eq_true (by first | (with_reducible assumption) | assumption)
                    have q134 : x6_1 < (l0.length : Int) := of_decide_eq_true (by first | (with_reducible assumption) | assumption)
                    obtain ⟨ad134, e134, hx134_0, hx134_1, hx134_2, hx134_3⟩ := at_T30 HR0.out x6_1 p134 q134
                    (try rw [← Nbq23.out] at hx134_1)
                    (try rw [← Nbq27.out] at hx134_1)
                    (try rw [← Nbq23.out] at hx134_2)
                    (try rw [← Nbq27.out] at hx134_2)
                    (try rw [← Nbq23.out] at hx134_3)
                    (try rw [← Nbq27.out] at hx134_3)
                    obtain rfl : ad130 = ad134 := (by injection e134)
                    replace hx134_0 := (HB.out.cell (World.block_lt_of_cell? w _ hx134_0)).trans hx134_0
                    replace hx134_1 := (HB.out.cell (World.block_lt_of_cell? w _ hx134_1)).trans hx134_1
                    replace hx134_2 := (HB.out.cell (World.block_lt_of_cell? w _ hx134_2)).trans hx134_2
                    replace hx134_3 := (HB.out.cell (World.block_lt_of_cell? w _ hx134_3)).trans hx134_3
                    replace p134 := eq_true p134
                    replace q134 := eq_true q134
                    have p136 : 0 ≤ (x6_1 : Int) := of_decide_eq_true (by first | (with_reducible assumption) | assumption)
                    have q136 : x6_1 < (l0.length : Int) := of_decide_eq_true (by first | (with_reducible assumption) | assumption)
                    obtain ⟨ad136, e136, hx136_0, hx136_1, hx136_2, hx136_3⟩ := at_T30 HR0.out x6_1 p136 q136
                    (try rw [← Nbq23.out] at hx136_1)
                    (try rw [← Nbq27.out] at hx136_1)
                    (try rw [← Nbq23.out] at hx136_2)
                    (try rw [← Nbq27.out] at hx136_2)
                    (try rw [← Nbq23.out] at hx136_3)
                    (try rw [← Nbq27.out] at hx136_3)
                    obtain rfl : ad130 = ad136 := (by injection e136)
                    replace hx136_0 := (HB.out.cell (World.block_lt_of_cell? w _ hx136_0)).trans hx136_0
                    replace hx136_1 := (HB.out.cell (World.block_lt_of_cell? w _ hx136_1)).trans hx136_1
                    replace hx136_2 := (HB.out.cell (World.block_lt_of_cell? w _ hx136_2)).trans hx136_2
                    replace hx136_3 := (HB.out.cell (World.block_lt_of_cell? w _ hx136_3)).trans hx136_3
                    replace p136 := eq_true p136
                    replace q136 := eq_true q136
                    have p137 : 0 ≤ (x6_1 : Int) := of_decide_eq_true (by first | (with_reducible assumption) | assumption)
                    have q137 : x6_1 < (l0.length : Int) := of_decide_eq_true (by first | (with_reducible assumption) | assumption)
                    obtain ⟨ad137, e137, hx137_0, hx137_1, hx137_2, hx137_3⟩ := at_T30 HR0.out x6_1 p137 q137
                    (try rw [← Nbq23.out] at hx137_1)
                    (try rw [← Nbq27.out] at hx137_1)
                    (try rw [← Nbq23.out] at hx137_2)
                    (try rw [← Nbq27.out] at hx137_2)
                    (try rw [← Nbq23.out] at hx137_3)
                    (try rw [← Nbq27.out] at hx137_3)
                    obtain rfl : ad130 = ad137 := (by injection e137)
                    replace hx137_0 := (HB.out.cell (World.block_lt_of_cell? w _ hx137_0)).trans hx137_0
                    replace hx137_1 := (HB.out.cell (World.block_lt_of_cell? w _ hx137_1)).trans hx137_1
                    replace hx137_2 := (HB.out.cell (World.block_lt_of_cell? w _ hx137_2)).trans hx137_2
                    replace hx137_3 := (HB.out.cell (World.block_lt_of_cell? w _ hx137_3)).trans hx137_3
                    replace p137 := eq_true p137
                    replace q137 := eq_true q137
                    go_wp2
                    go_ret
                    exact ⟨by first | rfl | (simp [errW_none, errW_some] <;> rfl) | (simp [*, errW_none, errW_some] <;> rfl), by repeat (first | (with_reducible first | exact HB.out | apply below_alloc | apply pw_below_drewN | apply below_drew1) | exact HB.out)⟩
                  · rw [if_neg c31] at H
                    have c31b0 : decide (300 < (wrap64 (x5_1 + (((rd_T30 l0 x6_1).f0).size : Int)))) = false := decide_eq_false c31
                    clear c31
                    by_cases c32 : x6_1 > 50
                    · rw [if_pos c32] at H
                      have c32b0 : decide (50 < x6_1) = true := decide_eq_true c32
                      clear c32
                      obtain rfl := Option.some.inj H
                      have p130 : 0 ≤ (x6_1 : Int) := of_decide_eq_true (by first | (with_reducible assumption) | assumption)
                      have q130 : x6_1 < (l0.length : Int) := of_decide_eq_true (by first | (with_reducible assumption) | assumption)
                      obtain ⟨ad130, e130, hx130_0, hx130_1, hx130_2, hx130_3⟩ := at_T30 HR0.out x6_1 p130 q130
                      (try rw [← Nbq23.out] at hx130_1)
                      (try rw [← Nbq27.out] at hx130_1)
                      (try rw [← Nbq23.out] at hx130_2)
                      (try rw [← Nbq27.out] at hx130_2)
                      (try rw [← Nbq23.out] at hx130_3)
                      (try rw [← Nbq27.out] at hx130_3)
                      cases e130
                      replace hx130_0 := (HB.out.cell (World.block_lt_of_cell? w _ hx130_0)).trans hx130_0
                      replace hx130_1 := (HB.out.cell (World.block_lt_of_cell? w _ hx130_1)).trans hx130_1
                      replace hx130_2 := (HB.out.cell (World.block_lt_of_cell? w _ hx130_2)).trans hx130_2
                      replace hx130_3 := (HB.out.cell (World.block_lt_of_cell? w _ hx130_3)).trans hx130_3
                      replace p130 := eq_true p130
                      replace q130 := eq_true q130
                      have p132 : 0 ≤ (x6_1 : Int) := of_decide_eq_true (by first | (with_reducible assumption) | assumption)
                      have q132 : x6_1 < (l0.length : Int) := of_decide_eq_true (by first | (with_reducible assumption) | assumption)
                      obtain ⟨ad132, e132, hx132_0, hx132_1, hx132_2, hx132_3⟩ := at_T30 HR0.out x6_1 p132 q132
                      (try rw [← Nbq23.out] at hx132_1)
                      (try rw [← Nbq27.out] at hx132_1)
                      (try rw [← Nbq23.out] at hx132_2)
                      (try rw [← Nbq27.out] at hx132_2)
                      (try rw [← Nbq23.out] at hx132_3)
                      (try rw [← Nbq27.out] at hx132_3)
                      obtain rfl : ad130 = ad132 := (by injection e132)
                      replace hx132_0 := (HB.out.cell (World.block_lt_of_cell? w _ hx132_0)).trans hx132_0
                      replace hx132_1 := (HB.out.cell (World.block_lt_of_cell? w _ hx132_1)).trans hx132_1
                      replace hx132_2 := (HB.out.cell (World.block_lt_of_cell? w _ hx132_2)).trans hx132_2
                      replace hx132_3 := (HB.out.cell (World.block_lt_of_cell? w _ hx132_3)).trans hx132_3
                      replace p132 := eq_true p132
                      replace q132 := eq_true q132
                      have p134 : 0 ≤ (x6_1 : Int) := of_decide_eq_true (by first | (with_reducible assumption) | assumption)
                      have q134 : x6_1 < (l0.length : Int) := of_decide_eq_true (by first | (with_reducible assumption) | assumption)
                      obtain ⟨ad134, e134, hx134_0, hx134_1, hx134_2, hx134_3⟩ := at_T30 HR0.out x6_1 p134 q134
                      (try rw [← Nbq23.out] at hx134_1)
                      (try rw [← Nbq27.out] at hx134_1)
                      (try rw [← Nbq23.out] at hx134_2)
                      (try rw [← Nbq27.out] at hx134_2)
                      (try rw [← Nbq23.out] at hx134_3)
                      (try rw [← Nbq27.out] at hx134_3)
                      obtain rfl : ad130 = ad134 := (by injection e134)
                      replace hx134_0 := (HB.out.cell (World.block_lt_of_cell? w _ hx134_0)).trans hx134_0
                      replace hx134_1 := (HB.out.cell (World.block_lt_of_cell? w _ hx134_1)).trans hx134_1
                      replace hx134_2 := (HB.out.cell (World.block_lt_of_cell? w _ hx134_2)).trans hx134_2
                      replace hx134_3 := (HB.out.cell (World.block_lt_of_cell? w _ hx134_3)).trans hx134_3
                      replace p134 := eq_true p134
                      replace q134 := eq_true q134
                      have p136 : 0 ≤ (x6_1 : Int) := of_decide_eq_true (by first | (with_reducible assumption) | assumption)
                      have q136 : x6_1 < (l0.length : Int) := of_decide_eq_true (by first | (with_reducible assumption) | assumption)
                      obtain ⟨ad136, e136, hx136_0, hx136_1, hx136_2, hx136_3⟩ := at_T30 HR0.out x6_1 p136 q136
                      (try rw [← Nbq23.out] at hx136_1)
                      (try rw [← Nbq27.out] at hx136_1)
                      (try rw [← Nbq23.out] at hx136_2)
                      (try rw [← Nbq27.out] at hx136_2)
                      (try rw [← Nbq23.out] at hx136_3)
                      (try rw [← Nbq27.out] at hx136_3)
                      obtain rfl : ad130 = ad136 := (by injection e136)
                      replace hx136_0 := (HB.out.cell (World.block_lt_of_cell? w _ hx136_0)).trans hx136_0
                      replace hx136_1 := (HB.out.cell (World.block_lt_of_cell? w _ hx136_1)).trans hx136_1
                      replace hx136_2 := (HB.out.cell (World.block_lt_of_cell? w _ hx136_2)).trans hx136_2
                      replace hx136_3 := (HB.out.cell (World.block_lt_of_cell? w _ hx136_3)).trans hx136_3
                      replace p136 := eq_true p136
                      replace q136 := eq_true q136
                      have p137 : 0 ≤ (x6_1 : Int) := of_decide_eq_true (by first | (with_reducible assumption) | assumption)
                      have q137 : x6_1 < (l0.length : Int) := of_decide_eq_true (by first | (with_reducible assumption) | assumption)
                      obtain ⟨ad137, e137, hx137_0, hx137_1, hx137_2, hx137_3⟩ := at_T30 HR0.out x6_1 p137 q137
                      (try rw [← Nbq23.out] at hx137_1)
                      (try rw [← Nbq27.out] at hx137_1)
                      (try rw [← Nbq23.out] at hx137_2)
                      (try rw [← Nbq27.out] at hx137_2)
                      (try rw [← Nbq23.out] at hx137_3)
                      (try rw [← Nbq27.out] at hx137_3)
                      obtain rfl : ad130 = ad137 := (by injection e137)
                      replace hx137_0 := (HB.out.cell (World.block_lt_of_cell? w _ hx137_0)).trans hx137_0
                      replace hx137_1 := (HB.out.cell (World.block_lt_of_cell? w _ hx137_1)).trans hx137_1
                      replace hx137_2 := (HB.out.cell (World.block_lt_of_cell? w _ hx137_2)).trans hx137_2
                      replace hx137_3 := (HB.out.cell (World.block_lt_of_cell? w _ hx137_3)).trans hx137_3
                      replace p137 := eq_true p137
                      replace q137 := eq_true q137
                      go_wp2
                      go_ret
                      exact ⟨by first | rfl | (simp [errW_none, errW_some] <;> rfl) | (simp [*, errW_none, errW_some] <;> rfl), by repeat (first | (with_reducible first | exact HB.out | apply below_alloc | apply pw_below_drewN | apply below_drew1) | exact HB.out)⟩
                    · rw [if_neg c32] at H
                      have c32b0 : decide (50 < x6_1) = false := decide_eq_false c32
                      clear c32
                      have H' := Aside0.mk H
                      clear H
                      have p130 : 0 ≤ (x6_1 : Int) := of_decide_eq_true (by first | (with_reducible assumption) | assumption)
                      have q130 : x6_1 < (l0.length : Int) := of_decide_eq_true (by first | (with_reducible assumption) | assumption)
                      obtain ⟨ad130, e130, hx130_0, hx130_1, hx130_2, hx130_3⟩ := at_T30 HR0.out x6_1 p130 q130
                      (try rw [← Nbq23.out] at hx130_1)
                      (try rw [← Nbq27.out] at hx130_1)
                      (try rw [← Nbq23.out] at hx130_2)
                      (try rw [← Nbq27.out] at hx130_2)
                      (try rw [← Nbq23.out] at hx130_3)
                      (try rw [← Nbq27.out] at hx130_3)
                      cases e130
                      replace hx130_0 := (HB.out.cell (World.block_lt_of_cell? w _ hx130_0)).trans hx130_0
                      replace hx130_1 := (HB.out.cell (World.block_lt_of_cell? w _ hx130_1)).trans hx130_1
                      replace hx130_2 := (HB.out.cell (World.block_lt_of_cell? w _ hx130_2)).trans hx130_2
                      replace hx130_3 := (HB.out.cell (World.block_lt_of_cell? w _ hx130_3)).trans hx130_3
                      replace p130 := eq_true p130
                      replace q130 := eq_true q130
                      have p132 : 0 ≤ (x6_1 : Int) := of_decide_eq_true (by first | (with_reducible assumption) | assumption)
                      have q132 : x6_1 < (l0.length : Int) := of_decide_eq_true (by first | (with_reducible assumption) | assumption)
                      obtain ⟨ad132, e132, hx132_0, hx132_1, hx132_2, hx132_3⟩ := at_T30 HR0.out x6_1 p132 q132
                      (try rw [← Nbq23.out] at hx132_1)
                      (try rw [← Nbq27.out] at hx132_1)
                      (try rw [← Nbq23.out] at hx132_2)
                      (try rw [← Nbq27.out] at hx132_2)
                      (try rw [← Nbq23.out] at hx132_3)
                      (try rw [← Nbq27.out] at hx132_3)
                      obtain rfl : ad130 = ad132 := (by injection e132)
                      replace hx132_0 := (HB.out.cell (World.block_lt_of_cell? w _ hx132_0)).trans hx132_0
                      replace hx132_1 := (HB.out.cell (World.block_lt_of_cell? w _ hx132_1)).trans hx132_1
                      replace hx132_2 := (HB.out.cell (World.block_lt_of_cell? w _ hx132_2)).trans hx132_2
                      replace hx132_3 := (HB.out.cell (World.block_lt_of_cell? w _ hx132_3)).trans hx132_3
                      replace p132 := eq_true p132
                      replace q132 := eq_true q132
                      have p134 : 0 ≤ (x6_1 : Int) := of_decide_eq_true (by first | (with_reducible assumption) | assumption)
                      have q134 : x6_1 < (l0.length : Int) := of_decide_eq_true (by first | (with_reducible assumption) | assumption)
                      obtain ⟨ad134, e134, hx134_0, hx134_1, hx134_2, hx134_3⟩ := at_T30 HR0.out x6_1 p134 q134
                      (try rw [← Nbq23.out] at hx134_1)
                      (try rw [← Nbq27.out] at hx134_1)
                      (try rw [← Nbq23.out] at hx134_2)
                      (try rw [← Nbq27.out] at hx134_2)
                      (try rw [← Nbq23.out] at hx134_3)
                      (try rw [← Nbq27.out] at hx134_3)
                      obtain rfl : ad130 = ad134 := (by injection e134)
                      replace hx134_0 := (HB.out.cell (World.block_lt_of_cell? w _ hx134_0)).trans hx134_0
                      replace hx134_1 := (HB.out.cell (World.block_lt_of_cell? w _ hx134_1)).trans hx134_1
                      replace hx134_2 := (HB.out.cell (World.block_lt_of_cell? w _ hx134_2)).trans hx134_2
                      replace hx134_3 := (HB.out.cell (World.block_lt_of_cell? w _ hx134_3)).trans hx134_3
                      replace p134 := eq_true p134
                      replace q134 := eq_true q134
                      have p136 : 0 ≤ (x6_1 : Int) := of_decide_eq_true (by first | (with_reducible assumption) | assumption)
                      have q136 : x6_1 < (l0.length : Int) := of_decide_eq_true (by first | (with_reducible assumption) | assumption)
                      obtain ⟨ad136, e136, hx136_0, hx136_1, hx136_2, hx136_3⟩ := at_T30 HR0.out x6_1 p136 q136
                      (try rw [← Nbq23.out] at hx136_1)
                      (try rw [← Nbq27.out] at hx136_1)
                      (try rw [← Nbq23.out] at hx136_2)
                      (try rw [← Nbq27.out] at hx136_2)
                      (try rw [← Nbq23.out] at hx136_3)
                      (try rw [← Nbq27.out] at hx136_3)
                      obtain rfl : ad130 = ad136 := (by injection e136)
                      replace hx136_0 := (HB.out.cell (World.block_lt_of_cell? w _ hx136_0)).trans hx136_0
                      replace hx136_1 := (HB.out.cell (World.block_lt_of_cell? w _ hx136_1)).trans hx136_1
                      replace hx136_2 := (HB.out.cell (World.block_lt_of_cell? w _ hx136_2)).trans hx136_2
                      replace hx136_3 := (HB.out.cell (World.block_lt_of_cell? w _ hx136_3)).trans hx136_3
                      replace p136 := eq_true p136
                      replace q136 := eq_true q136
                      have p137 : 0 ≤ (x6_1 : Int) := of_decide_eq_true (by first | (with_reducible assumption) | assumption)
                      have q137 : x6_1 < (l0.length : Int) := of_decide_eq_true (by first | (with_reducible assumption) | assumption)
                      obtain ⟨ad137, e137, hx137_0, hx137_1, hx137_2, hx137_3⟩ := at_T30 HR0.out x6_1 p137 q137
                      (try rw [← Nbq23.out] at hx137_1)
                      (try rw [← Nbq27.out] at hx137_1)
                      (try rw [← Nbq23.out] at hx137_2)
                      (try rw [← Nbq27.out] at hx137_2)
                      (try rw [← Nbq23.out] at hx137_3)
                      (try rw [← Nbq27.out] at hx137_3)
                      obtain rfl : ad130 = ad137 := (by injection e137)
                      replace hx137_0 := (HB.out.cell (World.block_lt_of_cell? w _ hx137_0)).trans hx137_0
                      replace hx137_1 := (HB.out.cell (World.block_lt_of_cell? w _ hx137_1)).trans hx137_1
                      replace hx137_2 := (HB.out.cell (World.block_lt_of_cell? w _ hx137_2)).trans hx137_2
                      replace hx137_3 := (HB.out.cell (World.block_lt_of_cell? w _ hx137_3)).trans hx137_3
                      replace p137 := eq_true p137
                      replace q137 := eq_true q137
                      go_wp2
                      go_roundg k1
                      case measure => have := HK1.out; omega
                      case rel => exact ⟨(false), (!((rd_T30 l0 x6_1).f3)), (wrap64 (x5_1 + (((rd_T30 l0 x6_1).f0).size : Int))), (wrap64 (x6_1 + 1)), (by first | rfl | (simp; done) | (simp [*]; done) | (simp; unfold wrap64; omega)), (by first | rfl | (simp; done) | (simp [*]; done) | (simp; unfold wrap64; omega)), (by first | rfl | (simp; done) | (simp [*]; done) | (simp; unfold wrap64; omega)), (by first | rfl | (simp; done) | (simp [*]; done) | (simp; unfold wrap64; omega)), H', ⟨by have := HK1.out; omega⟩, ⟨by repeat (first | (with_reducible first | exact HB.out | apply below_alloc | apply pw_below_drewN | apply below_drew1) | exact HB.out)⟩⟩
          · rw [if_neg c19] at H
            exact absurd H (by simp)
      · rw [if_neg c2] at H
        have c2b0 : decide (x6_1 < (l0.length : Int)) = false := decide_eq_false c2
        clear c2
        replace H := Option.bind_eq_some_iff.mp H
        obtain ⟨t138, A330, H⟩ := H
        replace H : (lazaruslaw15_SplitSome.l1 k1 x3_1 x4_1 t138 0) = some r := H
        have A33 := Aside0.mk A330
        clear A330
        have H' := Aside0.mk H
        clear H
        go_wp2_with (first | ((with_reducible refine gate_callee (f := 10) rfl ?_); refine goesL_ (some 65) rfl rfl Try.func10 (by kernel_rfl) rfl #[.slice A0 l0.length c0] rfl (by (try simp only [List.map_toArray, List.map_cons, List.map_nil]); first | done | rfl | (simp only [List.length_drop, List.length_take]; rfl)) ?_; (with_reducible refine (split_Fields.calls _ _ l0 t138 _ ?side1 ?side2 A33.out).mono ?_); (case side1 => repeat (first | (with_reducible exact HR0.out) | exact (Kd.C_below HR0.out HB.out) | (with_reducible refine Kd.C_alloc ?_ _) | (with_reducible refine Kd.C_drewN ?_ _) | (with_reducible refine Kd.C_drew ?_))); (case side2 => exact HC0.out); rintro e w34 ⟨v139, rfl, ho0, hb⟩; refine ⟨_, rfl, ?_⟩; have n0_ := Aside0.mk (Kd.R_lower ho0 (below_size (by repeat (first | (with_reducible first | exact HB.out | apply below_alloc | apply pw_below_drewN | apply below_drew1) | exact HB.out)))); have n1_ := Aside0.mk (below_step (by repeat (first | (with_reducible first | exact HB.out | apply below_alloc | apply pw_below_drewN | apply below_drew1) | exact HB.out)) hb); clear HB; have HO140 := n0_; have HB := n1_; clear n0_ n1_; (try clear hb); (try clear hb2); (try clear hk); (try clear hi); (try clear ho0)))
        go_loopg [8] k1 (fun kq v8 w' => ∃ (x8_2 : Int), v8 = .int .i64 x8_2 ∧ Aside0 (lazaruslaw15_SplitSome.l1 kq x3_1 x4_1 t138 x8_2 = some r) ∧ Aside0 (kq ≤ k1) ∧ Aside0 (Kd.R (Kd.slice 34 k34) 23 w' w.heap.size (fun _ => True) v139 t138) ∧ Aside0 (Below w.heap.size w w'))
        case atStart => exact ⟨(0), (by first | rfl | (simp; done) | (simp [*]; done) | (simp; unfold wrap64; omega)), H', ⟨Nat.le_refl _⟩, ⟨by (with_reducible repeat (first | apply Kd.R_alloc | apply Kd.R_drewN | apply Kd.R_drew)); exact HO140.out⟩, ⟨by repeat (first | (with_reducible first | exact HB.out | apply below_alloc | apply pw_below_drewN | apply below_drew1) | exact HB.out)⟩⟩
        case round =>
          clear H'
          try clear c1
          try clear p1
          try clear q1
          try clear hx1
          try clear c2
          try clear c2b0
          try clear p2
          try clear q2
          try clear c3
          try clear p6
          try clear c10
          try clear p13
          try clear q13
          try clear hx13
          try clear c19
          try clear q23
          try clear c24
          try clear c26
          try clear c26b0
          try clear q27
          try clear c28
          try clear c29
          try clear c29b0
          try clear c30
          try clear c30b0
          try clear c31
          try clear c31b0
          try clear c32
          try clear c32b0
          try clear hx130_0
          try clear hx130_1
          try clear hx130_2
          try clear hx130_3
          try clear hx132_0
          try clear hx132_1
          try clear hx132_2
          try clear hx132_3
          try clear hx133_0
          try clear hx133_1
          try clear hx133_2
          try clear hx133_3
          try clear hx134_0
          try clear hx134_1
          try clear hx134_2
          try clear hx134_3
          try clear hx135_0
          try clear hx135_1
          try clear hx135_2
          try clear hx135_3
          try clear hx136_0
          try clear hx136_1
          try clear hx136_2
          try clear hx136_3
          try clear hx137_0
          try clear hx137_1
          try clear hx137_2
          try clear hx137_3
          try clear p130
          try clear p132
          try clear p133
          try clear p134
          try clear p135
          try clear p136
          try clear p137
          try clear q130
          try clear q132
          try clear q133
          try clear q134
          try clear q135
          try clear q136
          try clear q137
          obtain ⟨x8_2, rfl, HA, HK2, HO_7, HB⟩ := hrel
          cases gk with
          | zero => exact absurd HA.out (by simp [lazaruslaw15_SplitSome.l1])
          | succ k2 =>
            have H := HA.out
            clear HA
            simp only [lazaruslaw15_SplitSome.l1] at H
            by_cases c35 : x8_2 < (t138.length : Int)
            · rw [if_pos c35] at H
              have c35b0 : decide (x8_2 < (t138.length : Int)) = true := decide_eq_true c35
              clear c35
              have HC36 := Aside0.mk H
              clear H
              obtain ⟨Ao37, co37, eo37⟩ := Kd.R_slice HO_7.out
              subst eo37
              go_upto_region 15 with (fail)
              go_cut [81] (fun v81 wc => ∃ (kq : Nat) (x81_35 : Bool), v81 = .bool x81_35 ∧ Aside0 (lazaruslaw15_SplitSome.j2 kq x3_1 x4_1 t138 x8_2 x81_35 = some r) ∧ Aside0 (kq ≤ k2) ∧ Aside0 (Kd.R (Kd.slice 34 k34) 23 wc w.heap.size (fun _ => True) (.slice Ao37 t138.length co37) t138) ∧ Aside0 (Below w.heap.size w wc))
              case first =>
                have H := HC36.out
                clear HC36
                by_cases c38 : 0 ≤ x8_2
                · rw [if_pos c38] at H
                  have c38b0 : decide (0 ≤ x8_2) = true := decide_eq_true c38
                  clear c38
                  (first | rw [c38b0] | (simp only [i64_w, i32_w]; rw [c38b0]) | skip)
                  by_cases c39 : ((rd_L7 t138 x8_2).length : Int) = 0
                  · rw [if_pos c39] at H
                    have c39b0 : (((rd_L7 t138 x8_2).length : Int) == 0) = true := beq_iff_eq.mpr c39
                    have c39b1 : (((rd_L7 t138 x8_2).length : Int) != 0) = false := bne_eq_false_iff_eq.mpr c39
                    clear c39
                    have H' := Aside0.mk H
                    clear H
                    have p142 : 0 ≤ (x8_2 : Int) := of_decide_eq_true (by first | (with_reducible assumption) | assumption)
                    have q142 : x8_2 < (t138.length : Int) := of_decide_eq_true (by first | (with_reducible assumption) | assumption)
                    obtain ⟨ad142, A142_0, c142_0, e142, hx142_0, hl142_0, hi142_0⟩ := at_L7 (Kd.R_reads' HO_7.out).2.2 x8_2 p142 q142
                    cases e142
                    obtain ⟨ce142, hce142, hMe142, hcc142⟩ := Kd.R_get HO_7.out [] x8_2 p142 (by first | exact q142 | exact of_decide_eq_true (by first | (with_reducible assumption) | assumption) | (have e_ := (Kd.R_reads' HO_7.out).1; omega))
                    obtain ⟨ve142_0, rfl, ge142_0⟩ := hMe142
                    have hv142_0 := hcc142 0 _ rfl
                    rw [Nat.add_zero, show ((Kd.slice 34 k34)).sz = 1 from rfl, Nat.mul_one] at hv142_0
                    replace hv142_0 := Option.some.inj (hv142_0.symm.trans hx142_0)
                    rw [hv142_0] at ge142_0
                    have HL142_0 := Aside0.mk (show Kd.R k34 34 _ _ _ _ (rd_L7 t138 x8_2) from ge142_0)
                    clear hv142_0 ge142_0
                    clear hcc142 hce142
                    have HR142_0 := Aside0.mk hi142_0
                    have HC142_0 := Aside0.mk hl142_0
                    clear hi142_0 hl142_0
                    replace p142 := eq_true p142
                    replace q142 := eq_true q142
                    go_wp2
                    go_meet
                    case rel => exact ⟨_, (!x3_1), (by first | rfl | (simp; done) | (simp [*]; done) | (simp; unfold wrap64; omega)), H', ⟨by have := HK1.out; have := HK2.out; first | omega | exact Nat.le_refl _⟩, ⟨by (with_reducible repeat (first | apply Kd.R_alloc | apply Kd.R_drewN | apply Kd.R_drew)); exact HO_7.out⟩, ⟨by repeat (first | (with_reducible first | exact HB.out | apply below_alloc | apply pw_below_drewN | apply below_drew1) | exact HB.out)⟩⟩
                  · rw [if_neg c39] at H
                    have c39b0 : (((rd_L7 t138 x8_2).length : Int) == 0) = false := beq_eq_false_iff_ne.mpr c39
                    have c39b1 : (((rd_L7 t138 x8_2).length : Int) != 0) = true := bne_iff_ne.mpr c39
                    have c39b2 : ¬ ((rd_L7 t138 x8_2) = []) := fun h_ => c39 (by rw [h_]; rfl)
                    have H' := Aside0.mk H
                    clear H
                    have p142 : 0 ≤ (x8_2 : Int) := of_decide_eq_true (by first | (with_reducible assumption) | assumption)
                    have q142 : x8_2 < (t138.length : Int) := of_decide_eq_true (by first | (with_reducible assumption) | assumption)
                    obtain ⟨ad142, A142_0, c142_0, e142, hx142_0, hl142_0, hi142_0⟩ := at_L7 (Kd.R_reads' HO_7.out).2.2 x8_2 p142 q142
                    cases e142
                    obtain ⟨ce142, hce142, hMe142, hcc142⟩ := Kd.R_get HO_7.out [] x8_2 p142 (by first | exact q142 | exact of_decide_eq_true (by first | (with_reducible assumption) | assumption) | (have e_ := (Kd.R_reads' HO_7.out).1; omega))
                    obtain ⟨ve142_0, rfl, ge142_0⟩ := hMe142
                    have hv142_0 := hcc142 0 _ rfl
                    rw [Nat.add_zero, show ((Kd.slice 34 k34)).sz = 1 from rfl, Nat.mul_one] at hv142_0
                    replace hv142_0 := Option.some.inj (hv142_0.symm.trans hx142_0)
                    rw [hv142_0] at ge142_0
                    have HL142_0 := Aside0.mk (show Kd.R k34 34 _ _ _ _ (rd_L7 t138 x8_2) from ge142_0)
                    clear hv142_0 ge142_0
                    clear hcc142 hce142
                    have HR142_0 := Aside0.mk hi142_0
                    have HC142_0 := Aside0.mk hl142_0
                    clear hi142_0 hl142_0
                    replace p142 := eq_true p142
                    replace q142 := eq_true q142
                    go_wp2
                    go_meet
                    case rel => exact ⟨_, (false), (by first | rfl | (simp; done) | (simp [*]; done) | (simp; unfold wrap64; omega)), H', ⟨by have := HK1.out; have := HK2.out; first | omega | exact Nat.le_refl _⟩, ⟨by (with_reducible repeat (first | apply Kd.R_alloc | apply Kd.R_drewN | apply Kd.R_drew)); exact HO_7.out⟩, ⟨by repeat (first | (with_reducible first | exact HB.out | apply below_alloc | apply pw_below_drewN | apply below_drew1) | exact HB.out)⟩⟩
                · rw [if_neg c38] at H
                  exact absurd H (by simp)
              case rest =>
                clear HC36
                try clear c1
                try clear p1
                try clear q1
                try clear hx1
                try clear c2
                try clear c2b0
                try clear p2
                try clear q2
                try clear c3
                try clear p6
                try clear c10
                try clear p13
                try clear q13
                try clear hx13
                try clear c14
                try clear p14
                try clear q14
                try clear hx14
                try clear c19
                try clear q23
                try clear c24
                try clear c26
                try clear c26b0
                try clear q27
                try clear c28
                try clear c29
                try clear c29b0
                try clear c30
                try clear c30b0
                try clear c31
                try clear c31b0
                try clear c32
                try clear c32b0
                try clear c35
                try clear c35b0
                try clear c38
                try clear c38b0
                try clear c39
                try clear c39b0
                try clear c39b1
                try clear c39b2
                try clear hx130_0
                try clear hx130_1
                try clear hx130_2
                try clear hx130_3
                try clear hx132_0
                try clear hx132_1
                try clear hx132_2
                try clear hx132_3
                try clear hx133_0
                try clear hx133_1
                try clear hx133_2
                try clear hx133_3
                try clear hx134_0
                try clear hx134_1
                try clear hx134_2
                try clear hx134_3
                try clear hx135_0
                try clear hx135_1
                try clear hx135_2
                try clear hx135_3
                try clear hx136_0
                try clear hx136_1
                try clear hx136_2
                try clear hx136_3
                try clear hx137_0
                try clear hx137_1
                try clear hx137_2
                try clear hx137_3
                try clear hx142_0
                try clear p1
                try clear p13
                try clear p130
                try clear p132
                try clear p133
                try clear p134
                try clear p135
                try clear p136
                try clear p137
                try clear p142
                try clear p2
                try clear p6
                try clear q1
                try clear q13
                try clear q130
                try clear q132
                try clear q133
                try clear q134
                try clear q135
                try clear q136
                try clear q137
                try clear q142
                try clear q2
                try clear q23
                try clear q27
                obtain ⟨kq, x81_35, rfl, HA, HJ35, HO_7, HB⟩ := hcut
                cases kq with
                | zero => exact absurd HA.out (by simp [lazaruslaw15_SplitSome.j2])
                | succ kj35 =>
                  have H := HA.out
                  clear HA
                  simp only [lazaruslaw15_SplitSome.j2] at H
                  by_cases c40 : x81_35 = true
                  · subst c40
                    have H1 : (some false) = some r := by rw [if_pos rfl] at H; exact H
                    clear H
                    have H := H1
                    clear H1
                    obtain rfl := Option.some.inj H
                    go_wp2
                    go_ret
                    exact ⟨by first | rfl | (simp [errW_none, errW_some] <;> rfl) | (simp [*, errW_none, errW_some] <;> rfl), by repeat (first | (with_reducible first | exact HB.out | apply below_alloc | apply pw_below_drewN | apply below_drew1) | exact HB.out)⟩
                  · replace c40 := Bool.eq_false_iff.mpr c40
                    subst c40
                    have H1 : (lazaruslaw15_SplitSome.l2 kj35 x3_1 x4_1 t138 x8_2 0) = some r := by rw [if_neg (show ¬ (false = true) by decide)] at H; exact H
                    clear H
                    have H := H1
                    clear H1
                    have H' := Aside0.mk H
                    clear H
                    go_wp2
                    go_loopg [9] kj35 (fun kq v9 w' => ∃ (x9_4 : Int), v9 = .int .i64 x9_4 ∧ Aside0 (lazaruslaw15_SplitSome.l2 kq x3_1 x4_1 t138 x8_2 x9_4 = some r) ∧ Aside0 (kq ≤ kj35) ∧ Aside0 (Kd.R (Kd.slice 34 k34) 23 w' w.heap.size (fun _ => True) (.slice Ao37 t138.length co37) t138) ∧ Aside0 (Below w.heap.size w w'))
                    case atStart => exact ⟨(0), (by first | rfl | (simp; done) | (simp [*]; done) | (simp; unfold wrap64; omega)), H', ⟨Nat.le_refl _⟩, ⟨by (with_reducible repeat (first | apply Kd.R_alloc | apply Kd.R_drewN | apply Kd.R_drew)); exact HO_7.out⟩, ⟨by repeat (first | (with_reducible first | exact HB.out | apply below_alloc | apply pw_below_drewN | apply below_drew1) | exact HB.out)⟩⟩
                    case round =>
                      clear H'
                      try clear c1
                      try clear p1
                      try clear q1
                      try clear hx1
                      try clear c2
                      try clear c2b0
                      try clear p2
                      try clear q2
                      try clear c3
                      try clear c4
                      try clear p6
                      try clear c10
                      try clear p13
                      try clear q13
                      try clear hx13
                      try clear c14
                      try clear p14
                      try clear q14
                      try clear hx14
                      try clear c19
                      try clear q23
                      try clear c24
                      try clear c26
                      try clear c26b0
                      try clear q27
                      try clear c28
                      try clear c29
                      try clear c29b0
                      try clear c30
                      try clear c30b0
                      try clear c31
                      try clear c31b0
                      try clear c32
                      try clear c32b0
                      try clear c35
                      try clear c35b0
                      try clear c38
                      try clear c38b0
                      try clear c39
                      try clear c39b0
                      try clear c39b1
                      try clear c39b2
                      try clear c40
                      try clear hx130_0
                      try clear hx130_1
                      try clear hx130_2
                      try clear hx130_3
                      try clear hx132_0
                      try clear hx132_1
                      try clear hx132_2
                      try clear hx132_3
                      try clear hx133_0
                      try clear hx133_1
                      try clear hx133_2
                      try clear hx133_3
                      try clear hx134_0
                      try clear hx134_1
                      try clear hx134_2
                      try clear hx134_3
                      try clear hx135_0
                      try clear hx135_1
                      try clear hx135_2
                      try clear hx135_3
                      try clear hx136_0
                      try clear hx136_1
                      try clear hx136_2
                      try clear hx136_3
                      try clear hx137_0
                      try clear hx137_1
                      try clear hx137_2
                      try clear hx137_3
                      try clear hx142_0
                      try clear p1
                      try clear p13
                      try clear p130
                      try clear p132
                      try clear p133
                      try clear p134
                      try clear p135
                      try clear p136
                      try clear p137
                      try clear p14
                      try clear p142
                      try clear p2
                      try clear p6
                      try clear q1
                      try clear q13
                      try clear q130
                      try clear q132
                      try clear q133
                      try clear q134
                      try clear q135
                      try clear q136
                      try clear q137
                      try clear q14
                      try clear q142
                      try clear q2
                      try clear q23
                      try clear q27
                      obtain ⟨x9_4, rfl, HA, HK4, HO_7, HB⟩ := hrel
                      cases gk with
                      | zero => exact absurd HA.out (by simp [lazaruslaw15_SplitSome.l2])
                      | succ k4 =>
                        have H := HA.out
                        clear HA
                        simp only [lazaruslaw15_SplitSome.l2] at H
                        by_cases c41 : 0 ≤ x8_2
                        · rw [if_pos c41] at H
                          have c41b0 : decide (0 ≤ x8_2) = true := decide_eq_true c41
                          clear c41
                          by_cases c42 : x8_2 < (t138.length : Int)
                          · rw [if_pos c42] at H
                            have c42b0 : decide (x8_2 < (t138.length : Int)) = true := decide_eq_true c42
                            clear c42
                            by_cases c43 : x9_4 < ((rd_L7 t138 x8_2).length : Int)
                            · rw [if_pos c43] at H
                              have c43b0 : decide (x9_4 < ((rd_L7 t138 x8_2).length : Int)) = true := decide_eq_true c43
                              clear c43
                              by_cases c44 : 0 ≤ x9_4
                              · rw [if_pos c44] at H
                                have c44b0 : decide (0 ≤ x9_4) = true := decide_eq_true c44
                                clear c44
                                obtain ⟨bq45, hbq45⟩ : ∃ b_ : Bool, b_ = ((rd_T34 (rd_L7 t138 x8_2) x9_4).f1) := ⟨_, rfl⟩
                                replace H : (if (bq45 = true) then (lazaruslaw15_SplitSome.l2 k4 x3_1 x4_1 t138 x8_2 (wrap64 (x9_4 + 1))) else (if x4_1 = true then (lazaruslaw15_SplitSome.l2 k4 x3_1 x4_1 t138 x8_2 (wrap64 (x9_4 + 1))) else (if ((rd_T34 (rd_L7 t138 x8_2) x9_4).f0) = 32 then (some false) else (if ((rd_T34 (rd_L7 t138 x8_2) x9_4).f0) = 9 then (some false) else (if ((rd_T34 (rd_L7 t138 x8_2) x9_4).f0) = 10 then (some false) else (lazaruslaw15_SplitSome.l2 k4 x3_1 x4_1 t138 x8_2 (wrap64 (x9_4 + 1)))))))) = some r := by rw [← hbq45] at H; exact H
                                have Nbq45 := Aside0.mk hbq45
                                clear hbq45
                                by_cases c46 : (bq45 = true)
                                · subst c46
                                  have H1 : (lazaruslaw15_SplitSome.l2 k4 x3_1 x4_1 t138 x8_2 (wrap64 (x9_4 + 1))) = some r := by rw [if_pos rfl] at H; exact H
                                  clear H
                                  have H := H1
                                  clear H1
                                  have H' := Aside0.mk H
                                  clear H
                                  have p143 : 0 ≤ (x8_2 : Int) := of_decide_eq_true (by first | (with_reducible assumption) | assumption)
                                  have q143 : x8_2 < (t138.length : Int) := of_decide_eq_true (by first | (with_reducible assumption) | assumption)
                                  obtain ⟨ad143, A143_0, c143_0, e143, hx143_0, hl143_0, hi143_0⟩ := at_L7 (Kd.R_reads' HO_7.out).2.2 x8_2 p143 q143
                                  cases e143
                                  obtain ⟨ce143, hce143, hMe143, hcc143⟩ := Kd.R_get HO_7.out [] x8_2 p143 (by first | exact q143 | exact of_decide_eq_true (by first | (with_reducible assumption) | assumption) | (have e_ := (Kd.R_reads' HO_7.out).1; omega))
                                  obtain ⟨ve143_0, rfl, ge143_0⟩ := hMe143
                                  have hv143_0 := hcc143 0 _ rfl
                                  rw [Nat.add_zero, show ((Kd.slice 34 k34)).sz = 1 from rfl, Nat.mul_one] at hv143_0
                                  replace hv143_0 := Option.some.inj (hv143_0.symm.trans hx143_0)
                                  rw [hv143_0] at ge143_0
                                  have HL143_0 := Aside0.mk (show Kd.R k34 34 _ _ _ _ (rd_L7 t138 x8_2) from ge143_0)
                                  clear hv143_0 ge143_0
                                  clear hcc143 hce143
                                  have HR143_0 := Aside0.mk hi143_0
                                  have HC143_0 := Aside0.mk hl143_0
                                  clear hi143_0 hl143_0
                                  replace p143 := eq_true p143
                                  replace q143 := eq_true q143
                                  have p144 : 0 ≤ (x8_2 : Int) := of_decide_eq_true (by first | (with_reducible assumption) | assumption)
                                  have q144 : x8_2 < (t138.length : Int) := of_decide_eq_true (by first | (with_reducible assumption) | assumption)
                                  obtain ⟨ad144, A144_0, c144_0, e144, hx144_0, hl144_0, hi144_0⟩ := at_L7 (Kd.R_reads' HO_7.out).2.2 x8_2 p144 q144
                                  obtain rfl : ad143 = ad144 := (by injection e144)
                                  obtain ⟨ce144, hce144, hMe144, hcc144⟩ := Kd.R_get HO_7.out [] x8_2 p144 (by first | exact q144 | exact of_decide_eq_true (by first | (with_reducible assumption) | assumption) | (have e_ := (Kd.R_reads' HO_7.out).1; omega))
                                  obtain ⟨ve144_0, rfl, ge144_0⟩ := hMe144
                                  have hv144_0 := hcc144 0 _ rfl
                                  rw [Nat.add_zero, show ((Kd.slice 34 k34)).sz = 1 from rfl, Nat.mul_one] at hv144_0
                                  replace hv144_0 := Option.some.inj (hv144_0.symm.trans hx144_0)
                                  rw [hv144_0] at ge144_0
                                  have HL144_0 := Aside0.mk (show Kd.R k34 34 _ _ _ _ (rd_L7 t138 x8_2) from ge144_0)
                                  clear hv144_0 ge144_0
                                  clear hcc144 hce144
                                  have HR144_0 := Aside0.mk hi144_0
                                  have HC144_0 := Aside0.mk hl144_0
                                  clear hi144_0 hl144_0
                                  replace p144 := eq_true p144
                                  replace q144 := eq_true q144
                                  have ea_ := Option.some.inj (hx143_0.symm.trans hx144_0)
                                  injection ea_ with ea_ en_ ec_
                                  subst ea_
                                  subst ec_
                                  clear en_
                                  have p145 : 0 ≤ (x9_4 : Int) := of_decide_eq_true (by first | (with_reducible assumption) | assumption)
                                  have q145 : x9_4 < ((rd_L7 t138 x8_2).length : Int) := of_decide_eq_true (by first | (with_reducible assumption) | assumption)
                                  obtain ⟨ad145, e145, hx145_0, hx145_1⟩ := at_T34 (by repeat (first | (with_reducible exact HR144_0.out) | (with_reducible refine Kd.C_alloc ?_ _) | (with_reducible refine Kd.C_drewN ?_ _) | (with_reducible refine Kd.C_drew ?_) | exact HR144_0.out)) x9_4 p145 q145
                                  (try rw [← Nbq45.out] at hx145_1)
                                  cases e145
                                  replace p145 := eq_true p145
                                  replace q145 := eq_true q145
                                  go_wp2_with (first | ((with_reducible refine gate_dst (N := 10) rfl ?_); refine box_event ?hg (N := 10) ?hd (cs := #[.int .i32 0, .bool false]) (t := 34) ?hr ?_; (case hd => rfl); (case hg => rfl); (case hr => first | (go_simp; done) | (go_simp; rfl)); intro gb146 hg w47 hbox hb; have n0_ := Aside0.mk (Kd.R_below (Kd.R_elderB (by (with_reducible repeat (first | apply Kd.R_alloc | apply Kd.R_drewN | apply Kd.R_drew)); exact HO_7.out) gb146 (Nat.le_of_eq hg.symm)) hb); have n1_ := Aside0.mk (Kd.R_below (Kd.R_elderB (by (with_reducible repeat (first | apply Kd.R_alloc | apply Kd.R_drewN | apply Kd.R_drew)); exact HL143_0.out) gb146 (Nat.le_of_eq hg.symm)) hb); have n2_ := Aside0.mk (Kd.R_below (Kd.R_elderB (by (with_reducible repeat (first | apply Kd.R_alloc | apply Kd.R_drewN | apply Kd.R_drew)); exact HL144_0.out) gb146 (Nat.le_of_eq hg.symm)) hb); have n3_ := Aside0.mk (Kd.C_below (by repeat (first | (with_reducible exact HR143_0.out) | (with_reducible refine Kd.C_alloc ?_ _) | (with_reducible refine Kd.C_drewN ?_ _) | (with_reducible refine Kd.C_drew ?_) | exact HR143_0.out)) hb); have n4_ := Aside0.mk (Kd.C_below (by repeat (first | (with_reducible exact HR144_0.out) | (with_reducible refine Kd.C_alloc ?_ _) | (with_reducible refine Kd.C_drewN ?_ _) | (with_reducible refine Kd.C_drew ?_) | exact HR144_0.out)) hb); have n5_ := Aside0.mk (below_step (by repeat (first | (with_reducible first | exact HB.out | apply below_alloc | apply pw_below_drewN | apply below_drew1) | exact HB.out)) hb); have n6_ := Aside0.mk (hbox); have n7_ := Aside0.mk ((by rw [hg]; exact (below_size (by repeat (first | (with_reducible first | exact HB.out | apply below_alloc | apply pw_below_drewN | apply below_drew1) | exact HB.out))) : w.heap.size ≤ gb146)); have n8_ := Aside0.mk ((by rw [hg]; exact (below_size (by repeat (first | (with_reducible first | exact HB.out | apply below_alloc | apply pw_below_drewN | apply below_drew1) | exact HB.out))) : w.heap.size ≤ gb146)); clear HO_7; clear HL143_0; clear HL144_0; clear HR143_0; clear HR144_0; clear HB; have HO_7 := n0_; have HL143_0 := n1_; have HL144_0 := n2_; have HR143_0 := n3_; have HR144_0 := n4_; have HB := n5_; have BK146 := n6_; have GW146 := n7_; have GE146 := n8_; clear n0_ n1_ n2_ n3_ n4_ n5_ n6_ n7_ n8_; clear hb hbox hg; have hcz48_0 : w47.cell? ⟨gb146, 0, none⟩ = some (.int .i32 0) := (blk_cell BK146.out 0).trans rfl; have hcz48_1 : w47.cell? ⟨gb146, 1, none⟩ = some (.bool false) := (blk_cell BK146.out 1).trans rfl; have hfz48_0 := blk_frozen BK146.out 0; have hfz48_1 := blk_frozen BK146.out 1))
                                  go_roundg k4
                                  case measure => have := HK1.out; have := HK2.out; have := HJ35.out; have := HK4.out; omega
                                  case rel => exact ⟨(wrap64 (x9_4 + 1)), (by first | rfl | (simp; done) | (simp [*]; done) | (simp; unfold wrap64; omega)), H', ⟨by have := HK1.out; have := HK2.out; have := HJ35.out; have := HK4.out; omega⟩, ⟨by (with_reducible repeat (first | apply Kd.R_alloc | apply Kd.R_drewN | apply Kd.R_drew)); exact Kd.R_mono (Kd.R_far (p := ⟨gb146, 1, none⟩) (Kd.R_far (p := ⟨gb146, 0, none⟩) (Kd.R_mono HO_7.out (fun k_ hk => (⟨hk, hk.2⟩ : _ ∧ k_ ≠ gb146))) (fun _ hk => hk.2) (.int .i32 ((rd_T34 (rd_L7 t138 x8_2) x9_4).f0))) (fun _ hk => hk.2) (.bool true)) (fun _ hk => trivial)⟩, ⟨by repeat (first | (with_reducible first | exact HB.out | apply below_alloc | apply pw_below_drewN | apply below_drew1 | refine below_set ?_ GE146.out) | exact HB.out)⟩⟩
                                · replace c46 := Bool.eq_false_iff.mpr c46
                                  subst c46
                                  have H1 : (if x4_1 = true then (lazaruslaw15_SplitSome.l2 k4 x3_1 x4_1 t138 x8_2 (wrap64 (x9_4 + 1))) else (if ((rd_T34 (rd_L7 t138 x8_2) x9_4).f0) = 32 then (some false) else (if ((rd_T34 (rd_L7 t138 x8_2) x9_4).f0) = 9 then (some false) else (if ((rd_T34 (rd_L7 t138 x8_2) x9_4).f0) = 10 then (some false) else (lazaruslaw15_SplitSome.l2 k4 x3_1 x4_1 t138 x8_2 (wrap64 (x9_4 + 1))))))) = some r := by rw [if_neg (show ¬ (false = true) by decide)] at H; exact H
                                  clear H
                                  have H := H1
                                  clear H1
                                  by_cases c49 : x4_1 = true
                                  · subst c49
                                    have H1 : (lazaruslaw15_SplitSome.l2 k4 x3_1 true t138 x8_2 (wrap64 (x9_4 + 1))) = some r := by rw [if_pos rfl] at H; exact H
                                    clear H
                                    have H := H1
                                    clear H1
                                    have H' := Aside0.mk H
                                    clear H
                                    have p143 : 0 ≤ (x8_2 : Int) := of_decide_eq_true (by first | (with_reducible assumption) | assumption)
                                    have q143 : x8_2 < (t138.length : Int) := of_decide_eq_true (by first | (with_reducible assumption) | assumption)
                                    obtain ⟨ad143, A143_0, c143_0, e143, hx143_0, hl143_0, hi143_0⟩ := at_L7 (Kd.R_reads' HO_7.out).2.2 x8_2 p143 q143
                                    cases e143
                                    obtain ⟨ce143, hce143, hMe143, hcc143⟩ := Kd.R_get HO_7.out [] x8_2 p143 (by first | exact q143 | exact of_decide_eq_true (by first | (with_reducible assumption) | assumption) | (have e_ := (Kd.R_reads' HO_7.out).1; omega))
                                    obtain ⟨ve143_0, rfl, ge143_0⟩ := hMe143
                                    have hv143_0 := hcc143 0 _ rfl
                                    rw [Nat.add_zero, show ((Kd.slice 34 k34)).sz = 1 from rfl, Nat.mul_one] at hv143_0
                                    replace hv143_0 := Option.some.inj (hv143_0.symm.trans hx143_0)
                                    rw [hv143_0] at ge143_0
                                    have HL143_0 := Aside0.mk (show Kd.R k34 34 _ _ _ _ (rd_L7 t138 x8_2) from ge143_0)
                                    clear hv143_0 ge143_0
                                    clear hcc143 hce143
                                    have HR143_0 := Aside0.mk hi143_0
                                    have HC143_0 := Aside0.mk hl143_0
                                    clear hi143_0 hl143_0
                                    replace p143 := eq_true p143
                                    replace q143 := eq_true q143
                                    have p144 : 0 ≤ (x8_2 : Int) := of_decide_eq_true (by first | (with_reducible assumption) | assumption)
                                    have q144 : x8_2 < (t138.length : Int) := of_decide_eq_true (by first | (with_reducible assumption) | assumption)
                                    obtain ⟨ad144, A144_0, c144_0, e144, hx144_0, hl144_0, hi144_0⟩ := at_L7 (Kd.R_reads' HO_7.out).2.2 x8_2 p144 q144
                                    obtain rfl : ad143 = ad144 := (by injection e144)
                                    obtain ⟨ce144, hce144, hMe144, hcc144⟩ := Kd.R_get HO_7.out [] x8_2 p144 (by first | exact q144 | exact of_decide_eq_true (by first | (with_reducible assumption) | assumption) | (have e_ := (Kd.R_reads' HO_7.out).1; omega))
                                    obtain ⟨ve144_0, rfl, ge144_0⟩ := hMe144
                                    have hv144_0 := hcc144 0 _ rfl
                                    rw [Nat.add_zero, show ((Kd.slice 34 k34)).sz = 1 from rfl, Nat.mul_one] at hv144_0
                                    replace hv144_0 := Option.some.inj (hv144_0.symm.trans hx144_0)
                                    rw [hv144_0] at ge144_0
                                    have HL144_0 := Aside0.mk (show Kd.R k34 34 _ _ _ _ (rd_L7 t138 x8_2) from ge144_0)
                                    clear hv144_0 ge144_0
                                    clear hcc144 hce144
                                    have HR144_0 := Aside0.mk hi144_0
                                    have HC144_0 := Aside0.mk hl144_0
                                    clear hi144_0 hl144_0
                                    replace p144 := eq_true p144
                                    replace q144 := eq_true q144
                                    have ea_ := Option.some.inj (hx143_0.symm.trans hx144_0)
                                    injection ea_ with ea_ en_ ec_
                                    subst ea_
                                    subst ec_
                                    clear en_
                                    have p145 : 0 ≤ (x9_4 : Int) := of_decide_eq_true (by first | (with_reducible assumption) | assumption)
                                    have q145 : x9_4 < ((rd_L7 t138 x8_2).length : Int) := of_decide_eq_true (by first | (with_reducible assumption) | assumption)
                                    obtain ⟨ad145, e145, hx145_0, hx145_1⟩ := at_T34 (by repeat (first | (with_reducible exact HR144_0.out) | (with_reducible refine Kd.C_alloc ?_ _) | (with_reducible refine Kd.C_drewN ?_ _) | (with_reducible refine Kd.C_drew ?_) | exact HR144_0.out)) x9_4 p145 q145
                                    (try rw [← Nbq45.out] at hx145_1)
                                    cases e145
                                    replace p145 := eq_true p145
                                    replace q145 := eq_true q145
                                    go_wp2_with (first | ((with_reducible refine gate_dst (N := 10) rfl ?_); refine box_event ?hg (N := 10) ?hd (cs := #[.int .i32 0, .bool false]) (t := 34) ?hr ?_; (case hd => rfl); (case hg => rfl); (case hr => first | (go_simp; done) | (go_simp; rfl)); intro gb146 hg w50 hbox hb; have n0_ := Aside0.mk (Kd.R_below (Kd.R_elderB (by (with_reducible repeat (first | apply Kd.R_alloc | apply Kd.R_drewN | apply Kd.R_drew)); exact HO_7.out) gb146 (Nat.le_of_eq hg.symm)) hb); have n1_ := Aside0.mk (Kd.R_below (Kd.R_elderB (by (with_reducible repeat (first | apply Kd.R_alloc | apply Kd.R_drewN | apply Kd.R_drew)); exact HL143_0.out) gb146 (Nat.le_of_eq hg.symm)) hb); have n2_ := Aside0.mk (Kd.R_below (Kd.R_elderB (by (with_reducible repeat (first | apply Kd.R_alloc | apply Kd.R_drewN | apply Kd.R_drew)); exact HL144_0.out) gb146 (Nat.le_of_eq hg.symm)) hb); have n3_ := Aside0.mk (Kd.C_below (by repeat (first | (with_reducible exact HR143_0.out) | (with_reducible refine Kd.C_alloc ?_ _) | (with_reducible refine Kd.C_drewN ?_ _) | (with_reducible refine Kd.C_drew ?_) | exact HR143_0.out)) hb); have n4_ := Aside0.mk (Kd.C_below (by repeat (first | (with_reducible exact HR144_0.out) | (with_reducible refine Kd.C_alloc ?_ _) | (with_reducible refine Kd.C_drewN ?_ _) | (with_reducible refine Kd.C_drew ?_) | exact HR144_0.out)) hb); have n5_ := Aside0.mk (below_step (by repeat (first | (with_reducible first | exact HB.out | apply below_alloc | apply pw_below_drewN | apply below_drew1) | exact HB.out)) hb); have n6_ := Aside0.mk (hbox); have n7_ := Aside0.mk ((by rw [hg]; exact (below_size (by repeat (first | (with_reducible first | exact HB.out | apply below_alloc | apply pw_below_drewN | apply below_drew1) | exact HB.out))) : w.heap.size ≤ gb146)); have n8_ := Aside0.mk ((by rw [hg]; exact (below_size (by repeat (first | (with_reducible first | exact HB.out | apply below_alloc | apply pw_below_drewN | apply below_drew1) | exact HB.out))) : w.heap.size ≤ gb146)); clear HO_7; clear HL143_0; clear HL144_0; clear HR143_0; clear HR144_0; clear HB; have HO_7 := n0_; have HL143_0 := n1_; have HL144_0 := n2_; have HR143_0 := n3_; have HR144_0 := n4_; have HB := n5_; have BK146 := n6_; have GW146 := n7_; have GE146 := n8_; clear n0_ n1_ n2_ n3_ n4_ n5_ n6_ n7_ n8_; clear hb hbox hg; have hcz51_0 : w50.cell? ⟨gb146, 0, none⟩ = some (.int .i32 0) := (blk_cell BK146.out 0).trans rfl; have hcz51_1 : w50.cell? ⟨gb146, 1, none⟩ = some (.bool false) := (blk_cell BK146.out 1).trans rfl; have hfz51_0 := blk_frozen BK146.out 0; have hfz51_1 := blk_frozen BK146.out 1))
                                    go_roundg k4
                                    case measure => have := HK1.out; have := HK2.out; have := HJ35.out; have := HK4.out; omega
                                    case rel => exact ⟨(wrap64 (x9_4 + 1)), (by first | rfl | (simp; done) | (simp [*]; done) | (simp; unfold wrap64; omega)), H', ⟨by have := HK1.out; have := HK2.out; have := HJ35.out; have := HK4.out; omega⟩, ⟨by (with_reducible repeat (first | apply Kd.R_alloc | apply Kd.R_drewN | apply Kd.R_drew)); exact Kd.R_mono (Kd.R_far (p := ⟨gb146, 1, none⟩) (Kd.R_far (p := ⟨gb146, 0, none⟩) (Kd.R_mono HO_7.out (fun k_ hk => (⟨hk, hk.2⟩ : _ ∧ k_ ≠ gb146))) (fun _ hk => hk.2) (.int .i32 ((rd_T34 (rd_L7 t138 x8_2) x9_4).f0))) (fun _ hk => hk.2) (.bool false)) (fun _ hk => trivial)⟩, ⟨by repeat (first | (with_reducible first | exact HB.out | apply below_alloc | apply pw_below_drewN | apply below_drew1 | refine below_set ?_ GE146.out) | exact HB.out)⟩⟩
                                  · replace c49 := Bool.eq_false_iff.mpr c49
                                    subst c49
                                    have H1 : (if ((rd_T34 (rd_L7 t138 x8_2) x9_4).f0) = 32 then (some false) else (if ((rd_T34 (rd_L7 t138 x8_2) x9_4).f0) = 9 then (some false) else (if ((rd_T34 (rd_L7 t138 x8_2) x9_4).f0) = 10 then (some false) else (lazaruslaw15_SplitSome.l2 k4 x3_1 false t138 x8_2 (wrap64 (x9_4 + 1)))))) = some r := by rw [if_neg (show ¬ (false = true) by decide)] at H; exact H
                                    clear H
                                    have H := H1
                                    clear H1
                                    by_cases c52 : ((rd_T34 (rd_L7 t138 x8_2) x9_4).f0) = 32
                                    · rw [if_pos c52] at H
                                      have c52b0 : (((rd_T34 (rd_L7 t138 x8_2) x9_4).f0) == 32) = true := beq_iff_eq.mpr c52
                                      have c52b1 : (((rd_T34 (rd_L7 t138 x8_2) x9_4).f0) != 32) = false := bne_eq_false_iff_eq.mpr c52
                                      clear c52
                                      obtain rfl := Option.some.inj H
                                      have p143 : 0 ≤ (x8_2 : Int) := of_decide_eq_true (by first | (with_reducible assumption) | assumption)
                                      have q143 : x8_2 < (t138.length : Int) := of_decide_eq_true (by first | (with_reducible assumption) | assumption)
                                      obtain ⟨ad143, A143_0, c143_0, e143, hx143_0, hl143_0, hi143_0⟩ := at_L7 (Kd.R_reads' HO_7.out).2.2 x8_2 p143 q143
                                      cases e143
                                      obtain ⟨ce143, hce143, hMe143, hcc143⟩ := Kd.R_get HO_7.out [] x8_2 p143 (by first | exact q143 | exact of_decide_eq_true (by first | (with_reducible assumption) | assumption) | (have e_ := (Kd.R_reads' HO_7.out).1; omega))
                                      obtain ⟨ve143_0, rfl, ge143_0⟩ := hMe143
                                      have hv143_0 := hcc143 0 _ rfl
                                      rw [Nat.add_zero, show ((Kd.slice 34 k34)).sz = 1 from rfl, Nat.mul_one] at hv143_0
                                      replace hv143_0 := Option.some.inj (hv143_0.symm.trans hx143_0)
                                      rw [hv143_0] at ge143_0
                                      have HL143_0 := Aside0.mk (show Kd.R k34 34 _ _ _ _ (rd_L7 t138 x8_2) from ge143_0)
                                      clear hv143_0 ge143_0
                                      clear hcc143 hce143
                                      have HR143_0 := Aside0.mk hi143_0
                                      have HC143_0 := Aside0.mk hl143_0
                                      clear hi143_0 hl143_0
                                      replace p143 := eq_true p143
                                      replace q143 := eq_true q143
                                      have p144 : 0 ≤ (x8_2 : Int) := of_decide_eq_true (by first | (with_reducible assumption) | assumption)
                                      have q144 : x8_2 < (t138.length : Int) := of_decide_eq_true (by first | (with_reducible assumption) | assumption)
                                      obtain ⟨ad144, A144_0, c144_0, e144, hx144_0, hl144_0, hi144_0⟩ := at_L7 (Kd.R_reads' HO_7.out).2.2 x8_2 p144 q144
                                      obtain rfl : ad143 = ad144 := (by injection e144)
                                      obtain ⟨ce144, hce144, hMe144, hcc144⟩ := Kd.R_get HO_7.out [] x8_2 p144 (by first | exact q144 | exact of_decide_eq_true (by first | (with_reducible assumption) | assumption) | (have e_ := (Kd.R_reads' HO_7.out).1; omega))
                                      obtain ⟨ve144_0, rfl, ge144_0⟩ := hMe144
                                      have hv144_0 := hcc144 0 _ rfl
                                      rw [Nat.add_zero, show ((Kd.slice 34 k34)).sz = 1 from rfl, Nat.mul_one] at hv144_0
                                      replace hv144_0 := Option.some.inj (hv144_0.symm.trans hx144_0)
                                      rw [hv144_0] at ge144_0
                                      have HL144_0 := Aside0.mk (show Kd.R k34 34 _ _ _ _ (rd_L7 t138 x8_2) from ge144_0)
                                      clear hv144_0 ge144_0
                                      clear hcc144 hce144
                                      have HR144_0 := Aside0.mk hi144_0
                                      have HC144_0 := Aside0.mk hl144_0
                                      clear hi144_0 hl144_0
                                      replace p144 := eq_true p144
                                      replace q144 := eq_true q144
                                      have ea_ := Option.some.inj (hx143_0.symm.trans hx144_0)
                                      injection ea_ with ea_ en_ ec_
                                      subst ea_
                                      subst ec_
                                      clear en_
                                      have p145 : 0 ≤ (x9_4 : Int) := of_decide_eq_true (by first | (with_reducible assumption) | assumption)
                                      have q145 : x9_4 < ((rd_L7 t138 x8_2).length : Int) := of_decide_eq_true (by first | (with_reducible assumption) | assumption)
                                      obtain ⟨ad145, e145, hx145_0, hx145_1⟩ := at_T34 (by repeat (first | (with_reducible exact HR144_0.out) | (with_reducible refine Kd.C_alloc ?_ _) | (with_reducible refine Kd.C_drewN ?_ _) | (with_reducible refine Kd.C_drew ?_) | exact HR144_0.out)) x9_4 p145 q145
                                      (try rw [← Nbq45.out] at hx145_1)
                                      cases e145
                                      replace p145 := eq_true p145
                                      replace q145 := eq_true q145
                                      go_wp2_with (first | ((with_reducible refine gate_dst (N := 10) rfl ?_); refine box_event ?hg (N := 10) ?hd (cs := #[.int .i32 0, .bool false]) (t := 34) ?hr ?_; (case hd => rfl); (case hg => rfl); (case hr => first | (go_simp; done) | (go_simp; rfl)); intro gb146 hg w53 hbox hb; have n0_ := Aside0.mk (Kd.R_below (Kd.R_elderB (by (with_reducible repeat (first | apply Kd.R_alloc | apply Kd.R_drewN | apply Kd.R_drew)); exact HO_7.out) gb146 (Nat.le_of_eq hg.symm)) hb); have n1_ := Aside0.mk (Kd.R_below (Kd.R_elderB (by (with_reducible repeat (first | apply Kd.R_alloc | apply Kd.R_drewN | apply Kd.R_drew)); exact HL143_0.out) gb146 (Nat.le_of_eq hg.symm)) hb); have n2_ := Aside0.mk (Kd.R_below (Kd.R_elderB (by (with_reducible repeat (first | apply Kd.R_alloc | apply Kd.R_drewN | apply Kd.R_drew)); exact HL144_0.out) gb146 (Nat.le_of_eq hg.symm)) hb); have n3_ := Aside0.mk (Kd.C_below (by repeat (first | (with_reducible exact HR143_0.out) | (with_reducible refine Kd.C_alloc ?_ _) | (with_reducible refine Kd.C_drewN ?_ _) | (with_reducible refine Kd.C_drew ?_) | exact HR143_0.out)) hb); have n4_ := Aside0.mk (Kd.C_below (by repeat (first | (with_reducible exact HR144_0.out) | (with_reducible refine Kd.C_alloc ?_ _) | (with_reducible refine Kd.C_drewN ?_ _) | (with_reducible refine Kd.C_drew ?_) | exact HR144_0.out)) hb); have n5_ := Aside0.mk (below_step (by repeat (first | (with_reducible first | exact HB.out | apply below_alloc | apply pw_below_drewN | apply below_drew1) | exact HB.out)) hb); have n6_ := Aside0.mk (hbox); have n7_ := Aside0.mk ((by rw [hg]; exact (below_size (by repeat (first | (with_reducible first | exact HB.out | apply below_alloc | apply pw_below_drewN | apply below_drew1) | exact HB.out))) : w.heap.size ≤ gb146)); have n8_ := Aside0.mk ((by rw [hg]; exact (below_size (by repeat (first | (with_reducible first | exact HB.out | apply below_alloc | apply pw_below_drewN | apply below_drew1) | exact HB.out))) : w.heap.size ≤ gb146)); clear HO_7; clear HL143_0; clear HL144_0; clear HR143_0; clear HR144_0; clear HB; have HO_7 := n0_; have HL143_0 := n1_; have HL144_0 := n2_; have HR143_0 := n3_; have HR144_0 := n4_; have HB := n5_; have BK146 := n6_; have GW146 := n7_; have GE146 := n8_; clear n0_ n1_ n2_ n3_ n4_ n5_ n6_ n7_ n8_; clear hb hbox hg; have hcz54_0 : w53.cell? ⟨gb146, 0, none⟩ = some (.int .i32 0) := (blk_cell BK146.out 0).trans rfl; have hcz54_1 : w53.cell? ⟨gb146, 1, none⟩ = some (.bool false) := (blk_cell BK146.out 1).trans rfl; have hfz54_0 := blk_frozen BK146.out 0; have hfz54_1 := blk_frozen BK146.out 1))
                                      go_ret
                                      exact ⟨by first | rfl | (simp [errW_none, errW_some] <;> rfl) | (simp [*, errW_none, errW_some] <;> rfl), by repeat (first | (with_reducible first | exact HB.out | apply below_alloc | apply pw_below_drewN | apply below_drew1 | refine below_set ?_ GE146.out) | exact HB.out)⟩
                                    · rw [if_neg c52] at H
                                      have c52b0 : (((rd_T34 (rd_L7 t138 x8_2) x9_4).f0) == 32) = false := beq_eq_false_iff_ne.mpr c52
                                      have c52b1 : (((rd_T34 (rd_L7 t138 x8_2) x9_4).f0) != 32) = true := bne_iff_ne.mpr c52
                                      by_cases c55 : ((rd_T34 (rd_L7 t138 x8_2) x9_4).f0) = 9
                                      · rw [if_pos c55] at H
                                        have c55b0 : (((rd_T34 (rd_L7 t138 x8_2) x9_4).f0) == 9) = true := beq_iff_eq.mpr c55
                                        have c55b1 : (((rd_T34 (rd_L7 t138 x8_2) x9_4).f0) != 9) = false := bne_eq_false_iff_eq.mpr c55
                                        clear c55
                                        obtain rfl := Option.some.inj H
                                        have p143 : 0 ≤ (x8_2 : Int) := of_decide_eq_true (by first | (with_reducible assumption) | assumption)
                                        have q143 : x8_2 < (t138.length : Int) := of_decide_eq_true (by first | (with_reducible assumption) | assumption)
                                        obtain ⟨ad143, A143_0, c143_0, e143, hx143_0, hl143_0, hi143_0⟩ := at_L7 (Kd.R_reads' HO_7.out).2.2 x8_2 p143 q143
                                        cases e143
                                        obtain ⟨ce143, hce143, hMe143, hcc143⟩ := Kd.R_get HO_7.out [] x8_2 p143 (by first | exact q143 | exact of_decide_eq_true (by first | (with_reducible assumption) | assumption) | (have e_ := (Kd.R_reads' HO_7.out).1; omega))
                                        obtain ⟨ve143_0, rfl, ge143_0⟩ := hMe143
                                        have hv143_0 := hcc143 0 _ rfl
                                        rw [Nat.add_zero, show ((Kd.slice 34 k34)).sz = 1 from rfl, Nat.mul_one] at hv143_0
                                        replace hv143_0 := Option.some.inj (hv143_0.symm.trans hx143_0)
                                        rw [hv143_0] at ge143_0
                                        have HL143_0 := Aside0.mk (show Kd.R k34 34 _ _ _ _ (rd_L7 t138 x8_2) from ge143_0)
                                        clear hv143_0 ge143_0
                                        clear hcc143 hce143
                                        have HR143_0 := Aside0.mk hi143_0
                                        have HC143_0 := Aside0.mk hl143_0
                                        clear hi143_0 hl143_0
                                        replace p143 := eq_true p143
                                        replace q143 := eq_true q143
                                        have p144 : 0 ≤ (x8_2 : Int) := of_decide_eq_true (by first | (with_reducible assumption) | assumption)
                                        have q144 : x8_2 < (t138.length : Int) := of_decide_eq_true (by first | (with_reducible assumption) | assumption)
                                        obtain ⟨ad144, A144_0, c144_0, e144, hx144_0, hl144_0, hi144_0⟩ := at_L7 (Kd.R_reads' HO_7.out).2.2 x8_2 p144 q144
                                        obtain rfl : ad143 = ad144 := (by injection e144)
                                        obtain ⟨ce144, hce144, hMe144, hcc144⟩ := Kd.R_get HO_7.out [] x8_2 p144 (by first | exact q144 | exact of_decide_eq_true (by first | (with_reducible assumption) | assumption) | (have e_ := (Kd.R_reads' HO_7.out).1; omega))
                                        obtain ⟨ve144_0, rfl, ge144_0⟩ := hMe144
                                        have hv144_0 := hcc144 0 _ rfl
                                        rw [Nat.add_zero, show ((Kd.slice 34 k34)).sz = 1 from rfl, Nat.mul_one] at hv144_0
                                        replace hv144_0 := Option.some.inj (hv144_0.symm.trans hx144_0)
                                        rw [hv144_0] at ge144_0
                                        have HL144_0 := Aside0.mk (show Kd.R k34 34 _ _ _ _ (rd_L7 t138 x8_2) from ge144_0)
                                        clear hv144_0 ge144_0
                                        clear hcc144 hce144
                                        have HR144_0 := Aside0.mk hi144_0
                                        have HC144_0 := Aside0.mk hl144_0
                                        clear hi144_0 hl144_0
                                        replace p144 := eq_true p144
                                        replace q144 := eq_true q144
                                        have ea_ := Option.some.inj (hx143_0.symm.trans hx144_0)
                                        injection ea_ with ea_ en_ ec_
                                        subst ea_
                                        subst ec_
                                        clear en_
                                        have p145 : 0 ≤ (x9_4 : Int) := of_decide_eq_true (by first | (with_reducible assumption) | assumption)
                                        have q145 : x9_4 < ((rd_L7 t138 x8_2).length : Int) := of_decide_eq_true (by first | (with_reducible assumption) | assumption)
                                        obtain ⟨ad145, e145, hx145_0, hx145_1⟩ := at_T34 (by repeat (first | (with_reducible exact HR144_0.out) | (with_reducible refine Kd.C_alloc ?_ _) | (with_reducible refine Kd.C_drewN ?_ _) | (with_reducible refine Kd.C_drew ?_) | exact HR144_0.out)) x9_4 p145 q145
                                        (try rw [← Nbq45.out] at hx145_1)
                                        cases e145
                                        replace p145 := eq_true p145
                                        replace q145 := eq_true q145
                                        go_wp2_with (first | ((with_reducible refine gate_dst (N := 10) rfl ?_); refine box_event ?hg (N := 10) ?hd (cs := #[.int .i32 0, .bool false]) (t := 34) ?hr ?_; (case hd => rfl); (case hg => rfl); (case hr => first | (go_simp; done) | (go_simp; rfl)); intro gb146 hg w56 hbox hb; have n0_ := Aside0.mk (Kd.R_below (Kd.R_elderB (by (with_reducible repeat (first | apply Kd.R_alloc | apply Kd.R_drewN | apply Kd.R_drew)); exact HO_7.out) gb146 (Nat.le_of_eq hg.symm)) hb); have n1_ := Aside0.mk (Kd.R_below (Kd.R_elderB (by (with_reducible repeat (first | apply Kd.R_alloc | apply Kd.R_drewN | apply Kd.R_drew)); exact HL143_0.out) gb146 (Nat.le_of_eq hg.symm)) hb); have n2_ := Aside0.mk (Kd.R_below (Kd.R_elderB (by (with_reducible repeat (first | apply Kd.R_alloc | apply Kd.R_drewN | apply Kd.R_drew)); exact HL144_0.out) gb146 (Nat.le_of_eq hg.symm)) hb); have n3_ := Aside0.mk (Kd.C_below (by repeat (first | (with_reducible exact HR143_0.out) | (with_reducible refine Kd.C_alloc ?_ _) | (with_reducible refine Kd.C_drewN ?_ _) | (with_reducible refine Kd.C_drew ?_) | exact HR143_0.out)) hb); have n4_ := Aside0.mk (Kd.C_below (by repeat (first | (with_reducible exact HR144_0.out) | (with_reducible refine Kd.C_alloc ?_ _) | (with_reducible refine Kd.C_drewN ?_ _) | (with_reducible refine Kd.C_drew ?_) | exact HR144_0.out)) hb); have n5_ := Aside0.mk (below_step (by repeat (first | (with_reducible first | exact HB.out | apply below_alloc | apply pw_below_drewN | apply below_drew1) | exact HB.out)) hb); have n6_ := Aside0.mk (hbox); have n7_ := Aside0.mk ((by rw [hg]; exact (below_size (by repeat (first | (with_reducible first | exact HB.out | apply below_alloc | apply pw_below_drewN | apply below_drew1) | exact HB.out))) : w.heap.size ≤ gb146)); have n8_ := Aside0.mk ((by rw [hg]; exact (below_size (by repeat (first | (with_reducible first | exact HB.out | apply below_alloc | apply pw_below_drewN | apply below_drew1) | exact HB.out))) : w.heap.size ≤ gb146)); clear HO_7; clear HL143_0; clear HL144_0; clear HR143_0; clear HR144_0; clear HB; have HO_7 := n0_; have HL143_0 := n1_; have HL144_0 := n2_; have HR143_0 := n3_; have HR144_0 := n4_; have HB := n5_; have BK146 := n6_; have GW146 := n7_; have GE146 := n8_; clear n0_ n1_ n2_ n3_ n4_ n5_ n6_ n7_ n8_; clear hb hbox hg; have hcz57_0 : w56.cell? ⟨gb146, 0, none⟩ = some (.int .i32 0) := (blk_cell BK146.out 0).trans rfl; have hcz57_1 : w56.cell? ⟨gb146, 1, none⟩ = some (.bool false) := (blk_cell BK146.out 1).trans rfl; have hfz57_0 := blk_frozen BK146.out 0; have hfz57_1 := blk_frozen BK146.out 1))
                                        go_ret
                                        exact ⟨by first | rfl | (simp [errW_none, errW_some] <;> rfl) | (simp [*, errW_none, errW_some] <;> rfl), by repeat (first | (with_reducible first | exact HB.out | apply below_alloc | apply pw_below_drewN | apply below_drew1 | refine below_set ?_ GE146.out) | exact HB.out)⟩
                                      · rw [if_neg c55] at H
                                        have c55b0 : (((rd_T34 (rd_L7 t138 x8_2) x9_4).f0) == 9) = false := beq_eq_false_iff_ne.mpr c55
                                        have c55b1 : (((rd_T34 (rd_L7 t138 x8_2) x9_4).f0) != 9) = true := bne_iff_ne.mpr c55
                                        by_cases c58 : ((rd_T34 (rd_L7 t138 x8_2) x9_4).f0) = 10
                                        · rw [if_pos c58] at H
                                          have c58b0 : (((rd_T34 (rd_L7 t138 x8_2) x9_4).f0) == 10) = true := beq_iff_eq.mpr c58
                                          have c58b1 : (((rd_T34 (rd_L7 t138 x8_2) x9_4).f0) != 10) = false := bne_eq_false_iff_eq.mpr c58
                                          clear c58
                                          obtain rfl := Option.some.inj H
                                          have p143 : 0 ≤ (x8_2 : Int) := of_decide_eq_true (by first | (with_reducible assumption) | assumption)
                                          have q143 : x8_2 < (t138.length : Int) := of_decide_eq_true (by first | (with_reducible assumption) | assumption)
                                          obtain ⟨ad143, A143_0, c143_0, e143, hx143_0, hl143_0, hi143_0⟩ := at_L7 (Kd.R_reads' HO_7.out).2.2 x8_2 p143 q143
                                          cases e143
                                          obtain ⟨ce143, hce143, hMe143, hcc143⟩ := Kd.R_get HO_7.out [] x8_2 p143 (by first | exact q143 | exact of_decide_eq_true (by first | (with_reducible assumption) | assumption) | (have e_ := (Kd.R_reads' HO_7.out).1; omega))
                                          obtain ⟨ve143_0, rfl, ge143_0⟩ := hMe143
                                          have hv143_0 := hcc143 0 _ rfl
                                          rw [Nat.add_zero, show ((Kd.slice 34 k34)).sz = 1 from rfl, Nat.mul_one] at hv143_0
                                          replace hv143_0 := Option.some.inj (hv143_0.symm.trans hx143_0)
                                          rw [hv143_0] at ge143_0
                                          have HL143_0 := Aside0.mk (show Kd.R k34 34 _ _ _ _ (rd_L7 t138 x8_2) from ge143_0)
                                          clear hv143_0 ge143_0
                                          clear hcc143 hce143
                                          have HR143_0 := Aside0.mk hi143_0
                                          have HC143_0 := Aside0.mk hl143_0
                                          clear hi143_0 hl143_0
                                          replace p143 := eq_true p143
                                          replace q143 := eq_true q143
                                          have p144 : 0 ≤ (x8_2 : Int) := of_decide_eq_true (by first | (with_reducible assumption) | assumption)
                                          have q144 : x8_2 < (t138.length : Int) := of_decide_eq_true (by first | (with_reducible assumption) | assumption)
                                          obtain ⟨ad144, A144_0, c144_0, e144, hx144_0, hl144_0, hi144_0⟩ := at_L7 (Kd.R_reads' HO_7.out).2.2 x8_2 p144 q144
                                          obtain rfl : ad143 = ad144 := (by injection e144)
                                          obtain ⟨ce144, hce144, hMe144, hcc144⟩ := Kd.R_get HO_7.out [] x8_2 p144 (by first | exact q144 | exact of_decide_eq_true (by first | (with_reducible assumption) | assumption) | (have e_ := (Kd.R_reads' HO_7.out).1; omega))
                                          obtain ⟨ve144_0, rfl, ge144_0⟩ := hMe144
                                          have hv144_0 := hcc144 0 _ rfl
                                          rw [Nat.add_zero, show ((Kd.slice 34 k34)).sz = 1 from rfl, Nat.mul_one] at hv144_0
                                          replace hv144_0 := Option.some.inj (hv144_0.symm.trans hx144_0)
                                          rw [hv144_0] at ge144_0
                                          have HL144_0 := Aside0.mk (show Kd.R k34 34 _ _ _ _ (rd_L7 t138 x8_2) from ge144_0)
                                          clear hv144_0 ge144_0
                                          clear hcc144 hce144
                                          have HR144_0 := Aside0.mk hi144_0
                                          have HC144_0 := Aside0.mk hl144_0
                                          clear hi144_0 hl144_0
                                          replace p144 := eq_true p144
                                          replace q144 := eq_true q144
                                          have ea_ := Option.some.inj (hx143_0.symm.trans hx144_0)
                                          injection ea_ with ea_ en_ ec_
                                          subst ea_
                                          subst ec_
                                          clear en_
                                          have p145 : 0 ≤ (x9_4 : Int) := of_decide_eq_true (by first | (with_reducible assumption) | assumption)
                                          have q145 : x9_4 < ((rd_L7 t138 x8_2).length : Int) := of_decide_eq_true (by first | (with_reducible assumption) | assumption)
                                          obtain ⟨ad145, e145, hx145_0, hx145_1⟩ := at_T34 (by repeat (first | (with_reducible exact HR144_0.out) | (with_reducible refine Kd.C_alloc ?_ _) | (with_reducible refine Kd.C_drewN ?_ _) | (with_reducible refine Kd.C_drew ?_) | exact HR144_0.out)) x9_4 p145 q145
                                          (try rw [← Nbq45.out] at hx145_1)
                                          cases e145
                                          replace p145 := eq_true p145
                                          replace q145 := eq_true q145
                                          go_wp2_with (first | ((with_reducible refine gate_dst (N := 10) rfl ?_); refine box_event ?hg (N := 10) ?hd (cs := #[.int .i32 0, .bool false]) (t := 34) ?hr ?_; (case hd => rfl); (case hg => rfl); (case hr => first | (go_simp; done) | (go_simp; rfl)); intro gb146 hg w59 hbox hb; have n0_ := Aside0.mk (Kd.R_below (Kd.R_elderB (by (with_reducible repeat (first | apply Kd.R_alloc | apply Kd.R_drewN | apply Kd.R_drew)); exact HO_7.out) gb146 (Nat.le_of_eq hg.symm)) hb); have n1_ := Aside0.mk (Kd.R_below (Kd.R_elderB (by (with_reducible repeat (first | apply Kd.R_alloc | apply Kd.R_drewN | apply Kd.R_drew)); exact HL143_0.out) gb146 (Nat.le_of_eq hg.symm)) hb); have n2_ := Aside0.mk (Kd.R_below (Kd.R_elderB (by (with_reducible repeat (first | apply Kd.R_alloc | apply Kd.R_drewN | apply Kd.R_drew)); exact HL144_0.out) gb146 (Nat.le_of_eq hg.symm)) hb); have n3_ := Aside0.mk (Kd.C_below (by repeat (first | (with_reducible exact HR143_0.out) | (with_reducible refine Kd.C_alloc ?_ _) | (with_reducible refine Kd.C_drewN ?_ _) | (with_reducible refine Kd.C_drew ?_) | exact HR143_0.out)) hb); have n4_ := Aside0.mk (Kd.C_below (by repeat (first | (with_reducible exact HR144_0.out) | (with_reducible refine Kd.C_alloc ?_ _) | (with_reducible refine Kd.C_drewN ?_ _) | (with_reducible refine Kd.C_drew ?_) | exact HR144_0.out)) hb); have n5_ := Aside0.mk (below_step (by repeat (first | (with_reducible first | exact HB.out | apply below_alloc | apply pw_below_drewN | apply below_drew1) | exact HB.out)) hb); have n6_ := Aside0.mk (hbox); have n7_ := Aside0.mk ((by rw [hg]; exact (below_size (by repeat (first | (with_reducible first | exact HB.out | apply below_alloc | apply pw_below_drewN | apply below_drew1) | exact HB.out))) : w.heap.size ≤ gb146)); have n8_ := Aside0.mk ((by rw [hg]; exact (below_size (by repeat (first | (with_reducible first | exact HB.out | apply below_alloc | apply pw_below_drewN | apply below_drew1) | exact HB.out))) : w.heap.size ≤ gb146)); clear HO_7; clear HL143_0; clear HL144_0; clear HR143_0; clear HR144_0; clear HB; have HO_7 := n0_; have HL143_0 := n1_; have HL144_0 := n2_; have HR143_0 := n3_; have HR144_0 := n4_; have HB := n5_; have BK146 := n6_; have GW146 := n7_; have GE146 := n8_; clear n0_ n1_ n2_ n3_ n4_ n5_ n6_ n7_ n8_; clear hb hbox hg; have hcz60_0 : w59.cell? ⟨gb146, 0, none⟩ = some (.int .i32 0) := (blk_cell BK146.out 0).trans rfl; have hcz60_1 : w59.cell? ⟨gb146, 1, none⟩ = some (.bool false) := (blk_cell BK146.out 1).trans rfl; have hfz60_0 := blk_frozen BK146.out 0; have hfz60_1 := blk_frozen BK146.out 1))
                                          go_ret
                                          exact ⟨by first | rfl | (simp [errW_none, errW_some] <;> rfl) | (simp [*, errW_none, errW_some] <;> rfl), by repeat (first | (with_reducible first | exact HB.out | apply below_alloc | apply pw_below_drewN | apply below_drew1 | refine below_set ?_ GE146.out) | exact HB.out)⟩
                                        · rw [if_neg c58] at H
                                          have c58b0 : (((rd_T34 (rd_L7 t138 x8_2) x9_4).f0) == 10) = false := beq_eq_false_iff_ne.mpr c58
                                          have c58b1 : (((rd_T34 (rd_L7 t138 x8_2) x9_4).f0) != 10) = true := bne_iff_ne.mpr c58
                                          have H' := Aside0.mk H
                                          clear H
                                          have p143 : 0 ≤ (x8_2 : Int) := of_decide_eq_true (by first | (with_reducible assumption) | assumption)
                                          have q143 : x8_2 < (t138.length : Int) := of_decide_eq_true (by first | (with_reducible assumption) | assumption)
                                          obtain ⟨ad143, A143_0, c143_0, e143, hx143_0, hl143_0, hi143_0⟩ := at_L7 (Kd.R_reads' HO_7.out).2.2 x8_2 p143 q143
                                          cases e143
                                          obtain ⟨ce143, hce143, hMe143, hcc143⟩ := Kd.R_get HO_7.out [] x8_2 p143 (by first | exact q143 | exact of_decide_eq_true (by first | (with_reducible assumption) | assumption) | (have e_ := (Kd.R_reads' HO_7.out).1; omega))
                                          obtain ⟨ve143_0, rfl, ge143_0⟩ := hMe143
                                          have hv143_0 := hcc143 0 _ rfl
                                          rw [Nat.add_zero, show ((Kd.slice 34 k34)).sz = 1 from rfl, Nat.mul_one] at hv143_0
                                          replace hv143_0 := Option.some.inj (hv143_0.symm.trans hx143_0)
                                          rw [hv143_0] at ge143_0
                                          have HL143_0 := Aside0.mk (show Kd.R k34 34 _ _ _ _ (rd_L7 t138 x8_2) from ge143_0)
                                          clear hv143_0 ge143_0
                                          clear hcc143 hce143
                                          have HR143_0 := Aside0.mk hi143_0
                                          have HC143_0 := Aside0.mk hl143_0
                                          clear hi143_0 hl143_0
                                          replace p143 := eq_true p143
                                          replace q143 := eq_true q143
                                          have p144 : 0 ≤ (x8_2 : Int) := of_decide_eq_true (by first | (with_reducible assumption) | assumption)
                                          have q144 : x8_2 < (t138.length : Int) := of_decide_eq_true (by first | (with_reducible assumption) | assumption)
                                          obtain ⟨ad144, A144_0, c144_0, e144, hx144_0, hl144_0, hi144_0⟩ := at_L7 (Kd.R_reads' HO_7.out).2.2 x8_2 p144 q144
                                          obtain rfl : ad143 = ad144 := (by injection e144)
                                          obtain ⟨ce144, hce144, hMe144, hcc144⟩ := Kd.R_get HO_7.out [] x8_2 p144 (by first | exact q144 | exact of_decide_eq_true (by first | (with_reducible assumption) | assumption) | (have e_ := (Kd.R_reads' HO_7.out).1; omega))
                                          obtain ⟨ve144_0, rfl, ge144_0⟩ := hMe144
                                          have hv144_0 := hcc144 0 _ rfl
                                          rw [Nat.add_zero, show ((Kd.slice 34 k34)).sz = 1 from rfl, Nat.mul_one] at hv144_0
                                          replace hv144_0 := Option.some.inj (hv144_0.symm.trans hx144_0)
                                          rw [hv144_0] at ge144_0
                                          have HL144_0 := Aside0.mk (show Kd.R k34 34 _ _ _ _ (rd_L7 t138 x8_2) from ge144_0)
                                          clear hv144_0 ge144_0
                                          clear hcc144 hce144
                                          have HR144_0 := Aside0.mk hi144_0
                                          have HC144_0 := Aside0.mk hl144_0
                                          clear hi144_0 hl144_0
                                          replace p144 := eq_true p144
                                          replace q144 := eq_true q144
                                          have ea_ := Option.some.inj (hx143_0.symm.trans hx144_0)
                                          injection ea_ with ea_ en_ ec_
                                          subst ea_
                                          subst ec_
                                          clear en_
                                          have p145 : 0 ≤ (x9_4 : Int) := of_decide_eq_true (by first | (with_reducible assumption) | assumption)
                                          have q145 : x9_4 < ((rd_L7 t138 x8_2).length : Int) := of_decide_eq_true (by first | (with_reducible assumption) | assumption)
                                          obtain ⟨ad145, e145, hx145_0, hx145_1⟩ := at_T34 (by repeat (first | (with_reducible exact HR144_0.out) | (with_reducible refine Kd.C_alloc ?_ _) | (with_reducible refine Kd.C_drewN ?_ _) | (with_reducible refine Kd.C_drew ?_) | exact HR144_0.out)) x9_4 p145 q145
                                          (try rw [← Nbq45.out] at hx145_1)
                                          cases e145
                                          replace p145 := eq_true p145
                                          replace q145 := eq_true q145
                                          go_wp2_with (first | ((with_reducible refine gate_dst (N := 10) rfl ?_); refine box_event ?hg (N := 10) ?hd (cs := #[.int .i32 0, .bool false]) (t := 34) ?hr ?_; (case hd => rfl); (case hg => rfl); (case hr => first | (go_simp; done) | (go_simp; rfl)); intro gb146 hg w61 hbox hb; have n0_ := Aside0.mk (Kd.R_below (Kd.R_elderB (by (with_reducible repeat (first | apply Kd.R_alloc | apply Kd.R_drewN | apply Kd.R_drew)); exact HO_7.out) gb146 (Nat.le_of_eq hg.symm)) hb); have n1_ := Aside0.mk (Kd.R_below (Kd.R_elderB (by (with_reducible repeat (first | apply Kd.R_alloc | apply Kd.R_drewN | apply Kd.R_drew)); exact HL143_0.out) gb146 (Nat.le_of_eq hg.symm)) hb); have n2_ := Aside0.mk (Kd.R_below (Kd.R_elderB (by (with_reducible repeat (first | apply Kd.R_alloc | apply Kd.R_drewN | apply Kd.R_drew)); exact HL144_0.out) gb146 (Nat.le_of_eq hg.symm)) hb); have n3_ := Aside0.mk (Kd.C_below (by repeat (first | (with_reducible exact HR143_0.out) | (with_reducible refine Kd.C_alloc ?_ _) | (with_reducible refine Kd.C_drewN ?_ _) | (with_reducible refine Kd.C_drew ?_) | exact HR143_0.out)) hb); have n4_ := Aside0.mk (Kd.C_below (by repeat (first | (with_reducible exact HR144_0.out) | (with_reducible refine Kd.C_alloc ?_ _) | (with_reducible refine Kd.C_drewN ?_ _) | (with_reducible refine Kd.C_drew ?_) | exact HR144_0.out)) hb); have n5_ := Aside0.mk (below_step (by repeat (first | (with_reducible first | exact HB.out | apply below_alloc | apply pw_below_drewN | apply below_drew1) | exact HB.out)) hb); have n6_ := Aside0.mk (hbox); have n7_ := Aside0.mk ((by rw [hg]; exact (below_size (by repeat (first | (with_reducible first | exact HB.out | apply below_alloc | apply pw_below_drewN | apply below_drew1) | exact HB.out))) : w.heap.size ≤ gb146)); have n8_ := Aside0.mk ((by rw [hg]; exact (below_size (by repeat (first | (with_reducible first | exact HB.out | apply below_alloc | apply pw_below_drewN | apply below_drew1) | exact HB.out))) : w.heap.size ≤ gb146)); clear HO_7; clear HL143_0; clear HL144_0; clear HR143_0; clear HR144_0; clear HB; have HO_7 := n0_; have HL143_0 := n1_; have HL144_0 := n2_; have HR143_0 := n3_; have HR144_0 := n4_; have HB := n5_; have BK146 := n6_; have GW146 := n7_; have GE146 := n8_; clear n0_ n1_ n2_ n3_ n4_ n5_ n6_ n7_ n8_; clear hb hbox hg; have hcz62_0 : w61.cell? ⟨gb146, 0, none⟩ = some (.int .i32 0) := (blk_cell BK146.out 0).trans rfl; have hcz62_1 : w61.cell? ⟨gb146, 1, none⟩ = some (.bool false) := (blk_cell BK146.out 1).trans rfl; have hfz62_0 := blk_frozen BK146.out 0; have hfz62_1 := blk_frozen BK146.out 1))
                                          go_roundg k4
                                          case measure => have := HK1.out; have := HK2.out; have := HJ35.out; have := HK4.out; omega
                                          case rel => exact ⟨(wrap64 (x9_4 + 1)), (by first | rfl | (simp; done) | (simp [*]; done) | (simp; unfold wrap64; omega)), H', ⟨by have := HK1.out; have := HK2.out; have := HJ35.out; have := HK4.out; omega⟩, ⟨by (with_reducible repeat (first | apply Kd.R_alloc | apply Kd.R_drewN | apply Kd.R_drew)); exact Kd.R_mono (Kd.R_far (p := ⟨gb146, 1, none⟩) (Kd.R_far (p := ⟨gb146, 0, none⟩) (Kd.R_mono HO_7.out (fun k_ hk => (⟨hk, hk.2⟩ : _ ∧ k_ ≠ gb146))) (fun _ hk => hk.2) (.int .i32 ((rd_T34 (rd_L7 t138 x8_2) x9_4).f0))) (fun _ hk => hk.2) (.bool false)) (fun _ hk => trivial)⟩, ⟨by repeat (first | (with_reducible first | exact HB.out | apply below_alloc | apply pw_below_drewN | apply below_drew1 | refine below_set ?_ GE146.out) | exact HB.out)⟩⟩
                              · rw [if_neg c44] at H
                                exact absurd H (by simp)
                            · rw [if_neg c43] at H
                              have c43b0 : decide (x9_4 < ((rd_L7 t138 x8_2).length : Int)) = false := decide_eq_false c43
                              clear c43
                              have H' := Aside0.mk H
                              clear H
                              have p143 : 0 ≤ (x8_2 : Int) := of_decide_eq_true (by first | (with_reducible assumption) | assumption)
                              have q143 : x8_2 < (t138.length : Int) := of_decide_eq_true (by first | (with_reducible assumption) | assumption)
                              obtain ⟨ad143, A143_0, c143_0, e143, hx143_0, hl143_0, hi143_0⟩ := at_L7 (Kd.R_reads' HO_7.out).2.2 x8_2 p143 q143
                              cases e143
                              obtain ⟨ce143, hce143, hMe143, hcc143⟩ := Kd.R_get HO_7.out [] x8_2 p143 (by first | exact q143 | exact of_decide_eq_true (by first | (with_reducible assumption) | assumption) | (have e_ := (Kd.R_reads' HO_7.out).1; omega))
                              obtain ⟨ve143_0, rfl, ge143_0⟩ := hMe143
                              have hv143_0 := hcc143 0 _ rfl
                              rw [Nat.add_zero, show ((Kd.slice 34 k34)).sz = 1 from rfl, Nat.mul_one] at hv143_0
                              replace hv143_0 := Option.some.inj (hv143_0.symm.trans hx143_0)
                              rw [hv143_0] at ge143_0
                              have HL143_0 := Aside0.mk (show Kd.R k34 34 _ _ _ _ (rd_L7 t138 x8_2) from ge143_0)
                              clear hv143_0 ge143_0
                              clear hcc143 hce143
                              have HR143_0 := Aside0.mk hi143_0
                              have HC143_0 := Aside0.mk hl143_0
                              clear hi143_0 hl143_0
                              replace p143 := eq_true p143
                              replace q143 := eq_true q143
                              go_wp2
                              go_roundg k4
                              case measure => have := HK1.out; have := HK2.out; have := HJ35.out; have := HK4.out; omega
                              case rel => exact ⟨(wrap64 (x8_2 + 1)), (by first | rfl | (simp; done) | (simp [*]; done) | (simp; unfold wrap64; omega)), H', ⟨by have := HK1.out; have := HK2.out; have := HJ35.out; have := HK4.out; omega⟩, ⟨by (with_reducible repeat (first | apply Kd.R_alloc | apply Kd.R_drewN | apply Kd.R_drew)); exact HO_7.out⟩, ⟨by repeat (first | (with_reducible first | exact HB.out | apply below_alloc | apply pw_below_drewN | apply below_drew1) | exact HB.out)⟩⟩
                          · rw [if_neg c42] at H
                            exact absurd H (by simp)
                        · rw [if_neg c41] at H
                          exact absurd H (by simp)
            · rw [if_neg c35] at H
              have c35b0 : decide (x8_2 < (t138.length : Int)) = false := decide_eq_false c35
              clear c35
              replace H := Option.bind_eq_some_iff.mp H
              obtain ⟨t141, A630, H⟩ := H
              replace H : (some t141) = some r := H
              have A63 := Aside0.mk A630
              clear A630
              obtain rfl := Option.some.inj H
              obtain ⟨Ao64, co64, eo64⟩ := Kd.R_slice HO_7.out
              subst eo64
              go_wp2_with (first | ((with_reducible refine gate_callee (f := 11) rfl ?_); refine goesL_ (some 120) rfl rfl Try.func11 (by kernel_rfl) rfl #[] rfl (by (try simp only [List.map_toArray, List.map_cons, List.map_nil]); first | done | rfl | (simp only [List.length_drop, List.length_take]; rfl)) ?_; (with_reducible refine (lazaruslaw15_known.calls k2  t141 _ A63.out).mono ?_); rintro e w65 ⟨rfl, hb⟩; refine ⟨_, rfl, ?_⟩; have n0_ := Aside0.mk (Kd.R_below (by (with_reducible repeat (first | apply Kd.R_alloc | apply Kd.R_drewN | apply Kd.R_drew)); exact HO_7.out) hb); have n1_ := Aside0.mk (below_step (by repeat (first | (with_reducible first | exact HB.out | apply below_alloc | apply pw_below_drewN | apply below_drew1) | exact HB.out)) hb); clear HO_7; clear HB; have HO_7 := n0_; have HB := n1_; clear n0_ n1_; (try clear hb); (try clear hb2); (try clear hk); (try clear hi)))
              go_ret
              exact ⟨by first | rfl | (simp [errW_none, errW_some] <;> rfl) | (simp [*, errW_none, errW_some] <;> rfl), by repeat (first | (with_reducible first | exact HB.out | apply below_alloc | apply pw_below_drewN | apply below_drew1) | exact HB.out)⟩

end Go.Proofs.Ytnhmfeihnjdcpaa.QSplitSome
