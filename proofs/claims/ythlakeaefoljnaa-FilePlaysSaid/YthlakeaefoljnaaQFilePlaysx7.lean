-- Written by a program of this session (wip/tools), out of the kit's print of the loaded program: functions, and proofs that the calls come to them.
import Derived.Test.YthlakeaefoljnaaQFilePlaysx0
import Derived.Test.YthlakeaefoljnaaQFilePlaysx3
import Derived.Test.YthlakeaefoljnaaQFilePlaysx4
import Derived.Test.YthlakeaefoljnaaQFilePlaysx5
import Derived.Test.YthlakeaefoljnaaQFilePlaysx6
namespace Go.Proofs.Ythlakeaefoljnaa.QFilePlays
open Go.RowKit Go.Proofs.YthlakeaefoljnaaW.PrintWords Go.Proofs.YthlakeaefoljnaaW.PrintLast Go.Proofs.YthlakeaefoljnaaW.PrintMore
attribute [local go_sem] max2_int min2_int max_two min_two max_three min_three max_four min_four   -- for this text's walks alone
set_option linter.unusedVariables false
set_option linter.unusedSimpArgs false

/-! ### lazaruslaw17_FilePlays: function 8 -/
mutual
def lazaruslaw17_FilePlays.l0 : Nat → List (S57) → List (S90) → List (S90) → Int → Option (Bool)
  | 0, _, _, _, _ => none
  | k + 1, x0, x3, x4, x5 => if x5 < (x0.length : Int) then (if 0 ≤ x5 then (if (((rd_T57 x0 x5).f3).size : Int) > 300 then (lazaruslaw17_FilePlays.j1 k x0 x3 x4 x5 (decide ((((rd_T57 x0 x5).f3).size : Int) ≤ 4000)) ((rd_T57 x0 x5).f0) ((rd_T57 x0 x5).f1) ((rd_T57 x0 x5).f2) ((rd_T57 x0 x5).f3)) else (lazaruslaw17_FilePlays.j1 k x0 x3 x4 x5 false ((rd_T57 x0 x5).f0) ((rd_T57 x0 x5).f1) ((rd_T57 x0 x5).f2) ((rd_T57 x0 x5).f3))) else (none)) else ((lazaruslaw17_known.f k).bind fun t172 => (some t172))
def lazaruslaw17_FilePlays.j1 : Nat → List (S57) → List (S90) → List (S90) → Int → Bool → Int → ByteArray → Int → ByteArray → Option (Bool)
  | 0, _, _, _, _, _, _, _, _, _ => none
  | k + 1, x0, x3, x4, x5, x37, x175000, x175001, x175002, x175003 => if x37 = true then (some true) else (if x175000 = 1 then ((file_Put.f x3 x175001 x175003).bind fun bt175 => ((lazarusref17_Put.f k x4 x175001 x175003).bind fun bt179 => (lazaruslaw17_FilePlays.j2 k x0 x3 x4 x5 bt175.2 bt179.2 bt175.1 bt179.1 x175000 x175001 x175002 x175003))) else (if x175000 = 2 then ((file_Write.f x3 x175001 x175002 x175003).bind fun bt183 => ((lazarusref17_Write.f k x4 x175001 x175002 x175003).bind fun bt187 => (lazaruslaw17_FilePlays.j2 k x0 x3 x4 x5 bt183.2 bt187.2 bt183.1 bt187.1 x175000 x175001 x175002 x175003))) else (lazaruslaw17_FilePlays.j2 k x0 x3 x4 x5 0 0 x3 x4 x175000 x175001 x175002 x175003)))
def lazaruslaw17_FilePlays.j2 : Nat → List (S57) → List (S90) → List (S90) → Int → Int → Int → List (S90) → List (S90) → Int → ByteArray → Int → ByteArray → Option (Bool)
  | 0, _, _, _, _, _, _, _, _, _, _, _, _ => none
  | k + 1, x0, x3, x4, x5, x7, x8, x9, x10, x175000, x175001, x175002, x175003 => if x7 = x8 then (if x8 = 0 then (lazaruslaw17_FilePlays.j3 k x0 x9 x10 x5 x175000 x175001 x175002 x175003) else (lazaruslaw17_FilePlays.j3 k x0 x3 x4 x5 x175000 x175001 x175002 x175003)) else (none)
def lazaruslaw17_FilePlays.j3 : Nat → List (S57) → List (S90) → List (S90) → Int → Int → ByteArray → Int → ByteArray → Option (Bool)
  | 0, _, _, _, _, _, _, _, _ => none
  | k + 1, x0, x3, x4, x5, x175000, x175001, x175002, x175003 => (file_Get.f x3 x175001).bind fun bt191 => ((lazarusref17_Get.f k x4 x175001).bind fun bt193 => (if bt191.1.toList = bt193.1.toList then (if (bt191.2 != bt193.2) = true then (none) else ((lazarusref17_Same.f k x3 x4).bind fun t195 => (if t195 = true then ((file_Is.f k x3).bind fun t196 => (if t196 = true then ((file_Names.f k x3).bind fun t197 => ((lazarusref17_Names.f k x4).bind fun t200 => ((lazarusref14_Texts.f k t197 t200).bind fun t203 => (if t203 = true then (lazaruslaw17_FilePlays.l0 k x0 x3 x4 (wrap64 (x5 + 1))) else (none))))) else (none))) else (none)))) else (none)))
end
def lazaruslaw17_FilePlays.f (k : Nat) (l0 : List (S57)) : Option (Bool) := if (l0.length : Int) > 60 then (some true) else (lazaruslaw17_FilePlays.l0 k l0 ([] : List (S90)) ([] : List (S90)) 0)
theorem lazaruslaw17_FilePlays.mono_l : ∀ k, (∀ y0 y1 y2 y3, LeO (lazaruslaw17_FilePlays.l0 k y0 y1 y2 y3) (lazaruslaw17_FilePlays.l0 (k + 1) y0 y1 y2 y3)) ∧ (∀ y0 y1 y2 y3 y4 y5 y6 y7 y8, LeO (lazaruslaw17_FilePlays.j1 k y0 y1 y2 y3 y4 y5 y6 y7 y8) (lazaruslaw17_FilePlays.j1 (k + 1) y0 y1 y2 y3 y4 y5 y6 y7 y8)) ∧ (∀ y0 y1 y2 y3 y4 y5 y6 y7 y8 y9 y10 y11, LeO (lazaruslaw17_FilePlays.j2 k y0 y1 y2 y3 y4 y5 y6 y7 y8 y9 y10 y11) (lazaruslaw17_FilePlays.j2 (k + 1) y0 y1 y2 y3 y4 y5 y6 y7 y8 y9 y10 y11)) ∧ (∀ y0 y1 y2 y3 y4 y5 y6 y7, LeO (lazaruslaw17_FilePlays.j3 k y0 y1 y2 y3 y4 y5 y6 y7) (lazaruslaw17_FilePlays.j3 (k + 1) y0 y1 y2 y3 y4 y5 y6 y7))
  | 0 => ⟨fun _ _ _ _ r h => by simp [lazaruslaw17_FilePlays.l0] at h, fun _ _ _ _ _ _ _ _ _ r h => by simp [lazaruslaw17_FilePlays.j1] at h, fun _ _ _ _ _ _ _ _ _ _ _ _ r h => by simp [lazaruslaw17_FilePlays.j2] at h, fun _ _ _ _ _ _ _ _ r h => by simp [lazaruslaw17_FilePlays.j3] at h⟩
  | k + 1 => by
    obtain ⟨ih0, ih1, ih2, ih3⟩ := lazaruslaw17_FilePlays.mono_l k
    refine ⟨?_, ?_, ?_, ?_⟩
    · intro y0 y1 y2 y3
      unfold lazaruslaw17_FilePlays.l0
      repeat' first
      | (with_reducible exact ih0 _ _ _ _)
      | (with_reducible exact ih1 _ _ _ _ _ _ _ _ _)
      | (with_reducible exact ih2 _ _ _ _ _ _ _ _ _ _ _ _)
      | (with_reducible exact ih3 _ _ _ _ _ _ _ _)
      | (with_reducible exact file_Is.mono _ _)
      | (with_reducible exact file_Names.mono _ _)
      | (with_reducible exact lazaruslaw17_known.mono _)
      | (with_reducible exact lazarusref14_Texts.mono _ _ _)
      | (with_reducible exact lazarusref17_Get.mono _ _ _)
      | (with_reducible exact lazarusref17_Names.mono _ _)
      | (with_reducible exact lazarusref17_Put.mono _ _ _ _)
      | (with_reducible exact lazarusref17_Same.mono _ _ _)
      | (with_reducible exact lazarusref17_Write.mono _ _ _ _ _)
      | (with_reducible exact LeO.refl _)
      | (with_reducible exact LeO.none _)
      | (with_reducible refine LeO.ite ?_ ?_)
      | (with_reducible refine LeO.bind ?_ (fun _ => ?_))
      | exact ih0 _ _ _ _
      | exact ih1 _ _ _ _ _ _ _ _ _
      | exact ih2 _ _ _ _ _ _ _ _ _ _ _ _
      | exact ih3 _ _ _ _ _ _ _ _
      | exact file_Is.mono _ _
      | exact file_Names.mono _ _
      | exact lazaruslaw17_known.mono _
      | exact lazarusref14_Texts.mono _ _ _
      | exact lazarusref17_Get.mono _ _ _
      | exact lazarusref17_Names.mono _ _
      | exact lazarusref17_Put.mono _ _ _ _
      | exact lazarusref17_Same.mono _ _ _
      | exact lazarusref17_Write.mono _ _ _ _ _
      | exact LeO.none _
      | refine LeO.ite ?_ ?_
      | refine LeO.bind ?_ (fun _ => ?_)
    · intro y0 y1 y2 y3 y4 y5 y6 y7 y8
      unfold lazaruslaw17_FilePlays.j1
      repeat' first
      | (with_reducible exact ih0 _ _ _ _)
      | (with_reducible exact ih1 _ _ _ _ _ _ _ _ _)
      | (with_reducible exact ih2 _ _ _ _ _ _ _ _ _ _ _ _)
      | (with_reducible exact ih3 _ _ _ _ _ _ _ _)
      | (with_reducible exact file_Is.mono _ _)
      | (with_reducible exact file_Names.mono _ _)
      | (with_reducible exact lazaruslaw17_known.mono _)
      | (with_reducible exact lazarusref14_Texts.mono _ _ _)
      | (with_reducible exact lazarusref17_Get.mono _ _ _)
      | (with_reducible exact lazarusref17_Names.mono _ _)
      | (with_reducible exact lazarusref17_Put.mono _ _ _ _)
      | (with_reducible exact lazarusref17_Same.mono _ _ _)
      | (with_reducible exact lazarusref17_Write.mono _ _ _ _ _)
      | (with_reducible exact LeO.refl _)
      | (with_reducible exact LeO.none _)
      | (with_reducible refine LeO.ite ?_ ?_)
      | (with_reducible refine LeO.bind ?_ (fun _ => ?_))
      | exact ih0 _ _ _ _
      | exact ih1 _ _ _ _ _ _ _ _ _
      | exact ih2 _ _ _ _ _ _ _ _ _ _ _ _
      | exact ih3 _ _ _ _ _ _ _ _
      | exact file_Is.mono _ _
      | exact file_Names.mono _ _
      | exact lazaruslaw17_known.mono _
      | exact lazarusref14_Texts.mono _ _ _
      | exact lazarusref17_Get.mono _ _ _
      | exact lazarusref17_Names.mono _ _
      | exact lazarusref17_Put.mono _ _ _ _
      | exact lazarusref17_Same.mono _ _ _
      | exact lazarusref17_Write.mono _ _ _ _ _
      | exact LeO.none _
      | refine LeO.ite ?_ ?_
      | refine LeO.bind ?_ (fun _ => ?_)
    · intro y0 y1 y2 y3 y4 y5 y6 y7 y8 y9 y10 y11
      unfold lazaruslaw17_FilePlays.j2
      repeat' first
      | (with_reducible exact ih0 _ _ _ _)
      | (with_reducible exact ih1 _ _ _ _ _ _ _ _ _)
      | (with_reducible exact ih2 _ _ _ _ _ _ _ _ _ _ _ _)
      | (with_reducible exact ih3 _ _ _ _ _ _ _ _)
      | (with_reducible exact file_Is.mono _ _)
      | (with_reducible exact file_Names.mono _ _)
      | (with_reducible exact lazaruslaw17_known.mono _)
      | (with_reducible exact lazarusref14_Texts.mono _ _ _)
      | (with_reducible exact lazarusref17_Get.mono _ _ _)
      | (with_reducible exact lazarusref17_Names.mono _ _)
      | (with_reducible exact lazarusref17_Put.mono _ _ _ _)
      | (with_reducible exact lazarusref17_Same.mono _ _ _)
      | (with_reducible exact lazarusref17_Write.mono _ _ _ _ _)
      | (with_reducible exact LeO.refl _)
      | (with_reducible exact LeO.none _)
      | (with_reducible refine LeO.ite ?_ ?_)
      | (with_reducible refine LeO.bind ?_ (fun _ => ?_))
      | exact ih0 _ _ _ _
      | exact ih1 _ _ _ _ _ _ _ _ _
      | exact ih2 _ _ _ _ _ _ _ _ _ _ _ _
      | exact ih3 _ _ _ _ _ _ _ _
      | exact file_Is.mono _ _
      | exact file_Names.mono _ _
      | exact lazaruslaw17_known.mono _
      | exact lazarusref14_Texts.mono _ _ _
      | exact lazarusref17_Get.mono _ _ _
      | exact lazarusref17_Names.mono _ _
      | exact lazarusref17_Put.mono _ _ _ _
      | exact lazarusref17_Same.mono _ _ _
      | exact lazarusref17_Write.mono _ _ _ _ _
      | exact LeO.none _
      | refine LeO.ite ?_ ?_
      | refine LeO.bind ?_ (fun _ => ?_)
    · intro y0 y1 y2 y3 y4 y5 y6 y7
      unfold lazaruslaw17_FilePlays.j3
      repeat' first
      | (with_reducible exact ih0 _ _ _ _)
      | (with_reducible exact ih1 _ _ _ _ _ _ _ _ _)
      | (with_reducible exact ih2 _ _ _ _ _ _ _ _ _ _ _ _)
      | (with_reducible exact ih3 _ _ _ _ _ _ _ _)
      | (with_reducible exact file_Is.mono _ _)
      | (with_reducible exact file_Names.mono _ _)
      | (with_reducible exact lazaruslaw17_known.mono _)
      | (with_reducible exact lazarusref14_Texts.mono _ _ _)
      | (with_reducible exact lazarusref17_Get.mono _ _ _)
      | (with_reducible exact lazarusref17_Names.mono _ _)
      | (with_reducible exact lazarusref17_Put.mono _ _ _ _)
      | (with_reducible exact lazarusref17_Same.mono _ _ _)
      | (with_reducible exact lazarusref17_Write.mono _ _ _ _ _)
      | (with_reducible exact LeO.refl _)
      | (with_reducible exact LeO.none _)
      | (with_reducible refine LeO.ite ?_ ?_)
      | (with_reducible refine LeO.bind ?_ (fun _ => ?_))
      | exact ih0 _ _ _ _
      | exact ih1 _ _ _ _ _ _ _ _ _
      | exact ih2 _ _ _ _ _ _ _ _ _ _ _ _
      | exact ih3 _ _ _ _ _ _ _ _
      | exact file_Is.mono _ _
      | exact file_Names.mono _ _
      | exact lazaruslaw17_known.mono _
      | exact lazarusref14_Texts.mono _ _ _
      | exact lazarusref17_Get.mono _ _ _
      | exact lazarusref17_Names.mono _ _
      | exact lazarusref17_Put.mono _ _ _ _
      | exact lazarusref17_Same.mono _ _ _
      | exact lazarusref17_Write.mono _ _ _ _ _
      | exact LeO.none _
      | refine LeO.ite ?_ ?_
      | refine LeO.bind ?_ (fun _ => ?_)
theorem lazaruslaw17_FilePlays.mono : ∀ a0 k, LeO (lazaruslaw17_FilePlays.f k a0) (lazaruslaw17_FilePlays.f (k + 1) a0) := by
  intro a0 k
  obtain ⟨ih0, ih1, ih2, ih3⟩ := lazaruslaw17_FilePlays.mono_l k
  unfold lazaruslaw17_FilePlays.f
  repeat' first
      | (with_reducible exact ih0 _ _ _ _)
      | (with_reducible exact ih1 _ _ _ _ _ _ _ _ _)
      | (with_reducible exact ih2 _ _ _ _ _ _ _ _ _ _ _ _)
      | (with_reducible exact ih3 _ _ _ _ _ _ _ _)
      | (with_reducible exact file_Is.mono _ _)
      | (with_reducible exact file_Names.mono _ _)
      | (with_reducible exact lazaruslaw17_known.mono _)
      | (with_reducible exact lazarusref14_Texts.mono _ _ _)
      | (with_reducible exact lazarusref17_Get.mono _ _ _)
      | (with_reducible exact lazarusref17_Names.mono _ _)
      | (with_reducible exact lazarusref17_Put.mono _ _ _ _)
      | (with_reducible exact lazarusref17_Same.mono _ _ _)
      | (with_reducible exact lazarusref17_Write.mono _ _ _ _ _)
      | (with_reducible exact LeO.refl _)
      | (with_reducible exact LeO.none _)
      | (with_reducible refine LeO.ite ?_ ?_)
      | (with_reducible refine LeO.bind ?_ (fun _ => ?_))
      | exact ih0 _ _ _ _
      | exact ih1 _ _ _ _ _ _ _ _ _
      | exact ih2 _ _ _ _ _ _ _ _ _ _ _ _
      | exact ih3 _ _ _ _ _ _ _ _
      | exact file_Is.mono _ _
      | exact file_Names.mono _ _
      | exact lazaruslaw17_known.mono _
      | exact lazarusref14_Texts.mono _ _ _
      | exact lazarusref17_Get.mono _ _ _
      | exact lazarusref17_Names.mono _ _
      | exact lazarusref17_Put.mono _ _ _ _
      | exact lazarusref17_Same.mono _ _ _
      | exact lazarusref17_Write.mono _ _ _ _ _
      | exact LeO.none _
      | refine LeO.ite ?_ ?_
      | refine LeO.bind ?_ (fun _ => ?_)
set_option maxHeartbeats 8000000 in
set_option maxRecDepth 100000 in
theorem lazaruslaw17_FilePlays.calls (k : Nat) (A0 : Option Addr) (c0 : Nat) (l0 : List (S57)) (r : Bool) (w : World) (hr0 : Kd.C k57 w A0 l0.length l0) (hc0 : l0.length ≤ c0) (h : lazaruslaw17_FilePlays.f k l0 = some r) :
    Calls Try.prog 8 #[.slice A0 l0.length c0] w fun e w' => e = .returned (.bool r) ∧ Below w.heap.size w w' := by
  have hu57 := Try.underlying57
  have HR0 := Aside0.mk hr0
  have HC0 := Aside0.mk hc0
  clear hr0 hc0
  have HB := Aside0.mk (Below.refl w.heap.size w)
  have H : (if (l0.length : Int) > 60 then (some true) else (lazaruslaw17_FilePlays.l0 k l0 ([] : List (S90)) ([] : List (S90)) 0)) = some r := h
  clear h
  by_cases c2 : (l0.length : Int) > 60
  · rw [if_pos c2] at H
    have c2b0 : decide (60 < (l0.length : Int)) = true := decide_eq_true c2
    have c2b1 : decide (60 < l0.length) = true := decide_eq_true (by omega)
    clear c2
    obtain rfl := Option.some.inj H
    go_enter Try.func8, Try.ntmps8
    go_wp2
    go_ret
    exact ⟨by first | rfl | (simp [errW_none, errW_some] <;> rfl) | (simp [*, errW_none, errW_some] <;> rfl), by repeat (first | (with_reducible first | exact HB.out | apply below_alloc | apply pw_below_drewN | apply below_drew1) | exact HB.out)⟩
  · rw [if_neg c2] at H
    have c2b0 : decide (60 < (l0.length : Int)) = false := decide_eq_false c2
    have c2b1 : decide (60 < l0.length) = false := decide_eq_false (by omega)
    clear c2
    have H' := Aside0.mk H
    clear H
    go_enter Try.func8, Try.ntmps8
    go_wp2
    go_loopg [3, 4, 5] k (fun kq v3 v4 v5 w' => ∃ (x3_1 : List (S90)) (x4_1 : List (S90)) (x5_1 : Int), v5 = .int .i64 x5_1 ∧ Aside0 (lazaruslaw17_FilePlays.l0 kq l0 x3_1 x4_1 x5_1 = some r) ∧ Aside0 (kq ≤ k) ∧ Aside0 (Kd.R k90 90 w' w.heap.size (fun _ => True) v3 x3_1) ∧ Aside0 (Kd.R k90 90 w' w.heap.size (fun _ => True) v4 x4_1) ∧ Aside0 (Below w.heap.size w w'))
    case atStart => exact ⟨(([] : List (S90))), (([] : List (S90))), (0), (by first | rfl | (simp; done) | (simp [*]; done) | (simp; unfold wrap64; omega)), H', ⟨Nat.le_refl _⟩, ⟨by first | exact Kd.R_nil _ _ _ _ _ | exact Kd.N_nil _ _ _ _ _ | exact Kd.V_nil _ _ _ _ _ | exact Kd.Q_nil _ _ _ _ _ | exact Kd.S_nil _ _ _ _ _⟩, ⟨by first | exact Kd.R_nil _ _ _ _ _ | exact Kd.N_nil _ _ _ _ _ | exact Kd.V_nil _ _ _ _ _ | exact Kd.Q_nil _ _ _ _ _ | exact Kd.S_nil _ _ _ _ _⟩, ⟨by repeat (first | (with_reducible first | exact HB.out | apply below_alloc | apply pw_below_drewN | apply below_drew1) | exact HB.out)⟩⟩
    case round =>
      clear H'
      try clear c2
      try clear c2b0
      try clear c2b1
      try clear p2
      obtain ⟨x3_1, x4_1, x5_1, rfl, HA, HK1, HO_3, HO_4, HB⟩ := hrel
      cases gk with
      | zero => exact absurd HA.out (by simp [lazaruslaw17_FilePlays.l0])
      | succ k1 =>
        have H := HA.out
        clear HA
        simp only [lazaruslaw17_FilePlays.l0] at H
        by_cases c3 : x5_1 < (l0.length : Int)
        · rw [if_pos c3] at H
          have c3b0 : decide (x5_1 < (l0.length : Int)) = true := decide_eq_true c3
          clear c3
          by_cases c4 : 0 ≤ x5_1
          · rw [if_pos c4] at H
            have c4b0 : decide (0 ≤ x5_1) = true := decide_eq_true c4
            clear c4
            have HC5 := Aside0.mk H
            clear H
            have p173 : 0 ≤ (x5_1 : Int) := of_decide_eq_true (by first | (with_reducible assumption) | assumption)
            have q173 : x5_1 < (l0.length : Int) := of_decide_eq_true (by first | (with_reducible assumption) | assumption)
            obtain ⟨ad173, e173, hx173_0, hx173_1, hx173_2, hx173_3⟩ := at_T57 HR0.out x5_1 p173 q173
            cases e173
            replace hx173_0 := (HB.out.cell (World.block_lt_of_cell? w _ hx173_0)).trans hx173_0
            replace hx173_1 := (HB.out.cell (World.block_lt_of_cell? w _ hx173_1)).trans hx173_1
            replace hx173_2 := (HB.out.cell (World.block_lt_of_cell? w _ hx173_2)).trans hx173_2
            replace hx173_3 := (HB.out.cell (World.block_lt_of_cell? w _ hx173_3)).trans hx173_3
            replace p173 := eq_true p173
            replace q173 := eq_true q173
            go_upto_region 8 with (first | ((with_reducible refine gate_dst (N := 6) rfl ?_); (try (refine gate_guard (by rfl) ?_; dsimp only)); refine box_event ?hg (N := 6) ?hd (cs := #[.int .i64 0, .string (⟨#[]⟩ : ByteArray), .int .i64 0, .string (⟨#[]⟩ : ByteArray)]) (t := 57) ?hr ?_; (case hd => rfl); (case hg => rfl); (case hr => first | (go_simp; done) | (go_simp; rfl)); intro gb174 hg w6 hbox hb; have n0_ := Aside0.mk (Kd.R_below (by (with_reducible repeat (first | apply Kd.R_alloc | apply Kd.R_drewN | apply Kd.R_drew)); exact HO_3.out) hb); have n1_ := Aside0.mk (Kd.R_below (by (with_reducible repeat (first | apply Kd.R_alloc | apply Kd.R_drewN | apply Kd.R_drew)); exact HO_4.out) hb); have n2_ := Aside0.mk (below_step (by repeat (first | (with_reducible first | exact HB.out | apply below_alloc | apply pw_below_drewN | apply below_drew1) | exact HB.out)) hb); have n3_ := Aside0.mk (hbox); have n4_ := Aside0.mk ((by rw [hg]; exact (below_size (by repeat (first | (with_reducible first | exact HB.out | apply below_alloc | apply pw_below_drewN | apply below_drew1) | exact HB.out))) : w.heap.size ≤ gb174)); have n5_ := Aside0.mk ((by rw [hg]; exact (below_size (by repeat (first | (with_reducible first | exact HB.out | apply below_alloc | apply pw_below_drewN | apply below_drew1) | exact HB.out))) : w.heap.size ≤ gb174)); clear HO_3; clear HO_4; clear HB; have HO_3 := n0_; have HO_4 := n1_; have HB := n2_; have BK174 := n3_; have GW174 := n4_; have GE174 := n5_; clear n0_ n1_ n2_ n3_ n4_ n5_; clear hb hbox hg; have hcz7_0 : w6.cell? ⟨gb174, 0, none⟩ = some (.int .i64 0) := (blk_cell BK174.out 0).trans rfl; have hcz7_1 : w6.cell? ⟨gb174, 1, none⟩ = some (.string (⟨#[]⟩ : ByteArray)) := (blk_cell BK174.out 1).trans rfl; have hcz7_2 : w6.cell? ⟨gb174, 2, none⟩ = some (.int .i64 0) := (blk_cell BK174.out 2).trans rfl; have hcz7_3 : w6.cell? ⟨gb174, 3, none⟩ = some (.string (⟨#[]⟩ : ByteArray)) := (blk_cell BK174.out 3).trans rfl; have hfz7_0 := blk_frozen BK174.out 0; have hfz7_1 := blk_frozen BK174.out 1; have hfz7_2 := blk_frozen BK174.out 2; have hfz7_3 := blk_frozen BK174.out 3))
            (try simp only [Act.put, List.setIfInBounds_toArray, List.set_cons_zero, List.set_cons_succ])
            go_cut [37] (fun v37 wc => ∃ (kq : Nat) (x37_4 : Bool), v37 = .bool x37_4 ∧ Aside0 (lazaruslaw17_FilePlays.j1 kq l0 x3_1 x4_1 x5_1 x37_4 ((rd_T57 l0 x5_1).f0) ((rd_T57 l0 x5_1).f1) ((rd_T57 l0 x5_1).f2) ((rd_T57 l0 x5_1).f3) = some r) ∧ Aside0 (kq ≤ k1) ∧ Aside0 (Kd.R k90 90 wc w.heap.size (fun _ => True) u3 x3_1) ∧ Aside0 (Kd.R k90 90 wc w.heap.size (fun _ => True) u4 x4_1) ∧ Aside0 (wc.heap[gb174]? = some (.cells #[.int .i64 ((rd_T57 l0 x5_1).f0), .string ((rd_T57 l0 x5_1).f1), .int .i64 ((rd_T57 l0 x5_1).f2), .string ((rd_T57 l0 x5_1).f3)] 57 (0, 0))) ∧ Aside0 (Below w.heap.size w wc))
            case first =>
              have H := HC5.out
              clear HC5
              by_cases c8 : (((rd_T57 l0 x5_1).f3).size : Int) > 300
              · rw [if_pos c8] at H
                have c8b0 : decide (300 < (((rd_T57 l0 x5_1).f3).size : Int)) = true := decide_eq_true c8
                have c8b1 : decide (300 < ((rd_T57 l0 x5_1).f3).size) = true := decide_eq_true (by omega)
                clear c8
                (first | rw [c8b0] | (simp only [i64_w, i32_w]; rw [c8b0]) | skip)
                have H' := Aside0.mk H
                clear H
                have hcz9_0 : w6.cell? ⟨gb174, 0, none⟩ = some (.int .i64 0) := (blk_cell BK174.out 0).trans rfl
                have hcz9_1 : w6.cell? ⟨gb174, 1, none⟩ = some (.string (⟨#[]⟩ : ByteArray)) := (blk_cell BK174.out 1).trans rfl
                have hcz9_2 : w6.cell? ⟨gb174, 2, none⟩ = some (.int .i64 0) := (blk_cell BK174.out 2).trans rfl
                have hcz9_3 : w6.cell? ⟨gb174, 3, none⟩ = some (.string (⟨#[]⟩ : ByteArray)) := (blk_cell BK174.out 3).trans rfl
                have hfz9_0 := blk_frozen BK174.out 0
                have hfz9_1 := blk_frozen BK174.out 1
                have hfz9_2 := blk_frozen BK174.out 2
                have hfz9_3 := blk_frozen BK174.out 3
                go_wp2
                go_meet
                case rel => exact ⟨_, (decide ((((rd_T57 l0 x5_1).f3).size : Int) ≤ 4000)), (by first | rfl | (simp; done) | (simp [*]; done) | (simp; unfold wrap64; omega)), H', ⟨by have := HK1.out; first | omega | exact Nat.le_refl _⟩, ⟨by (with_reducible repeat (first | apply Kd.R_alloc | apply Kd.R_drewN | apply Kd.R_drew)); exact Kd.R_mono (Kd.R_far (p := ⟨gb174, 3, none⟩) (Kd.R_far (p := ⟨gb174, 2, none⟩) (Kd.R_far (p := ⟨gb174, 1, none⟩) (Kd.R_far (p := ⟨gb174, 0, none⟩) (Kd.R_types HO_3.out BK174.out (by decide)) (fun _ hk => hk.2) (.int .i64 ((rd_T57 l0 x5_1).f0))) (fun _ hk => hk.2) (.string ((rd_T57 l0 x5_1).f1))) (fun _ hk => hk.2) (.int .i64 ((rd_T57 l0 x5_1).f2))) (fun _ hk => hk.2) (.string ((rd_T57 l0 x5_1).f3))) (fun _ hk => hk.1)⟩, ⟨by (with_reducible repeat (first | apply Kd.R_alloc | apply Kd.R_drewN | apply Kd.R_drew)); exact Kd.R_mono (Kd.R_far (p := ⟨gb174, 3, none⟩) (Kd.R_far (p := ⟨gb174, 2, none⟩) (Kd.R_far (p := ⟨gb174, 1, none⟩) (Kd.R_far (p := ⟨gb174, 0, none⟩) (Kd.R_types HO_4.out BK174.out (by decide)) (fun _ hk => hk.2) (.int .i64 ((rd_T57 l0 x5_1).f0))) (fun _ hk => hk.2) (.string ((rd_T57 l0 x5_1).f1))) (fun _ hk => hk.2) (.int .i64 ((rd_T57 l0 x5_1).f2))) (fun _ hk => hk.2) (.string ((rd_T57 l0 x5_1).f3))) (fun _ hk => hk.1)⟩, ⟨by (with_reducible repeat (first | refine blk_drewN ?_ _ | refine blk_drew ?_ | refine blk_alloc ?_ _)); refine blk_put (cs := #[.int .i64 ((rd_T57 l0 x5_1).f0), .string ((rd_T57 l0 x5_1).f1), .int .i64 ((rd_T57 l0 x5_1).f2), .string (⟨#[]⟩ : ByteArray)]) ?_ 3 _ rfl; (with_reducible repeat (first | refine blk_drewN ?_ _ | refine blk_drew ?_ | refine blk_alloc ?_ _)); refine blk_put (cs := #[.int .i64 ((rd_T57 l0 x5_1).f0), .string ((rd_T57 l0 x5_1).f1), .int .i64 0, .string (⟨#[]⟩ : ByteArray)]) ?_ 2 _ rfl; (with_reducible repeat (first | refine blk_drewN ?_ _ | refine blk_drew ?_ | refine blk_alloc ?_ _)); refine blk_put (cs := #[.int .i64 ((rd_T57 l0 x5_1).f0), .string (⟨#[]⟩ : ByteArray), .int .i64 0, .string (⟨#[]⟩ : ByteArray)]) ?_ 1 _ rfl; (with_reducible repeat (first | refine blk_drewN ?_ _ | refine blk_drew ?_ | refine blk_alloc ?_ _)); refine blk_put (cs := #[.int .i64 0, .string (⟨#[]⟩ : ByteArray), .int .i64 0, .string (⟨#[]⟩ : ByteArray)]) ?_ 0 _ rfl; (with_reducible repeat (first | refine blk_drewN ?_ _ | refine blk_drew ?_ | refine blk_alloc ?_ _)); exact BK174.out⟩, ⟨by repeat (first | (with_reducible first | exact HB.out | apply below_alloc | apply pw_below_drewN | apply below_drew1 | refine below_set ?_ GE174.out) | exact HB.out)⟩⟩
              · rw [if_neg c8] at H
                have c8b0 : decide (300 < (((rd_T57 l0 x5_1).f3).size : Int)) = false := decide_eq_false c8
                have c8b1 : decide (300 < ((rd_T57 l0 x5_1).f3).size) = false := decide_eq_false (by omega)
                clear c8
                (first | rw [c8b0] | (simp only [i64_w, i32_w]; rw [c8b0]) | skip)
                have H' := Aside0.mk H
                clear H
                have hcz10_0 : w6.cell? ⟨gb174, 0, none⟩ = some (.int .i64 0) := (blk_cell BK174.out 0).trans rfl
                have hcz10_1 : w6.cell? ⟨gb174, 1, none⟩ = some (.string (⟨#[]⟩ : ByteArray)) := (blk_cell BK174.out 1).trans rfl
                have hcz10_2 : w6.cell? ⟨gb174, 2, none⟩ = some (.int .i64 0) := (blk_cell BK174.out 2).trans rfl
                have hcz10_3 : w6.cell? ⟨gb174, 3, none⟩ = some (.string (⟨#[]⟩ : ByteArray)) := (blk_cell BK174.out 3).trans rfl
                have hfz10_0 := blk_frozen BK174.out 0
                have hfz10_1 := blk_frozen BK174.out 1
                have hfz10_2 := blk_frozen BK174.out 2
                have hfz10_3 := blk_frozen BK174.out 3
                go_wp2
                go_meet
                case rel => exact ⟨_, (false), (by first | rfl | (simp; done) | (simp [*]; done) | (simp; unfold wrap64; omega)), H', ⟨by have := HK1.out; first | omega | exact Nat.le_refl _⟩, ⟨by (with_reducible repeat (first | apply Kd.R_alloc | apply Kd.R_drewN | apply Kd.R_drew)); exact Kd.R_mono (Kd.R_far (p := ⟨gb174, 3, none⟩) (Kd.R_far (p := ⟨gb174, 2, none⟩) (Kd.R_far (p := ⟨gb174, 1, none⟩) (Kd.R_far (p := ⟨gb174, 0, none⟩) (Kd.R_types HO_3.out BK174.out (by decide)) (fun _ hk => hk.2) (.int .i64 ((rd_T57 l0 x5_1).f0))) (fun _ hk => hk.2) (.string ((rd_T57 l0 x5_1).f1))) (fun _ hk => hk.2) (.int .i64 ((rd_T57 l0 x5_1).f2))) (fun _ hk => hk.2) (.string ((rd_T57 l0 x5_1).f3))) (fun _ hk => hk.1)⟩, ⟨by (with_reducible repeat (first | apply Kd.R_alloc | apply Kd.R_drewN | apply Kd.R_drew)); exact Kd.R_mono (Kd.R_far (p := ⟨gb174, 3, none⟩) (Kd.R_far (p := ⟨gb174, 2, none⟩) (Kd.R_far (p := ⟨gb174, 1, none⟩) (Kd.R_far (p := ⟨gb174, 0, none⟩) (Kd.R_types HO_4.out BK174.out (by decide)) (fun _ hk => hk.2) (.int .i64 ((rd_T57 l0 x5_1).f0))) (fun _ hk => hk.2) (.string ((rd_T57 l0 x5_1).f1))) (fun _ hk => hk.2) (.int .i64 ((rd_T57 l0 x5_1).f2))) (fun _ hk => hk.2) (.string ((rd_T57 l0 x5_1).f3))) (fun _ hk => hk.1)⟩, ⟨by (with_reducible repeat (first | refine blk_drewN ?_ _ | refine blk_drew ?_ | refine blk_alloc ?_ _)); refine blk_put (cs := #[.int .i64 ((rd_T57 l0 x5_1).f0), .string ((rd_T57 l0 x5_1).f1), .int .i64 ((rd_T57 l0 x5_1).f2), .string (⟨#[]⟩ : ByteArray)]) ?_ 3 _ rfl; (with_reducible repeat (first | refine blk_drewN ?_ _ | refine blk_drew ?_ | refine blk_alloc ?_ _)); refine blk_put (cs := #[.int .i64 ((rd_T57 l0 x5_1).f0), .string ((rd_T57 l0 x5_1).f1), .int .i64 0, .string (⟨#[]⟩ : ByteArray)]) ?_ 2 _ rfl; (with_reducible repeat (first | refine blk_drewN ?_ _ | refine blk_drew ?_ | refine blk_alloc ?_ _)); refine blk_put (cs := #[.int .i64 ((rd_T57 l0 x5_1).f0), .string (⟨#[]⟩ : ByteArray), .int .i64 0, .string (⟨#[]⟩ : ByteArray)]) ?_ 1 _ rfl; (with_reducible repeat (first | refine blk_drewN ?_ _ | refine blk_drew ?_ | refine blk_alloc ?_ _)); refine blk_put (cs := #[.int .i64 0, .string (⟨#[]⟩ : ByteArray), .int .i64 0, .string (⟨#[]⟩ : ByteArray)]) ?_ 0 _ rfl; (with_reducible repeat (first | refine blk_drewN ?_ _ | refine blk_drew ?_ | refine blk_alloc ?_ _)); exact BK174.out⟩, ⟨by repeat (first | (with_reducible first | exact HB.out | apply below_alloc | apply pw_below_drewN | apply below_drew1 | refine below_set ?_ GE174.out) | exact HB.out)⟩⟩
            case rest =>
              clear HC5
              try clear p1
              try clear q1
              try clear hx1
              try clear c2
              try clear c2b0
              try clear c2b1
              try clear p2
              try clear c3
              try clear c3b0
              try clear c4
              try clear c4b0
              try clear p6
              try clear c8
              try clear c8b0
              try clear c8b1
              try clear hcz10_0
              try clear hcz10_1
              try clear hcz10_2
              try clear hcz10_3
              try clear hcz7_0
              try clear hcz7_1
              try clear hcz7_2
              try clear hcz7_3
              try clear hcz9_0
              try clear hcz9_1
              try clear hcz9_2
              try clear hcz9_3
              try clear hfz10_0
              try clear hfz10_1
              try clear hfz10_2
              try clear hfz10_3
              try clear hfz7_0
              try clear hfz7_1
              try clear hfz7_2
              try clear hfz7_3
              try clear hfz9_0
              try clear hfz9_1
              try clear hfz9_2
              try clear hfz9_3
              try clear hx173_0
              try clear hx173_1
              try clear hx173_2
              try clear hx173_3
              try clear p173
              try clear p2
              try clear q173
              obtain ⟨kq, x37_4, rfl, HA, HJ4, HO_3, HO_4, BK174, HB⟩ := hcut
              cases kq with
              | zero => exact absurd HA.out (by simp [lazaruslaw17_FilePlays.j1])
              | succ kj4 =>
                have H := HA.out
                clear HA
                simp only [lazaruslaw17_FilePlays.j1] at H
                by_cases c11 : x37_4 = true
                · subst c11
                  have H1 : (some true) = some r := by rw [if_pos rfl] at H; exact H
                  clear H
                  have H := H1
                  clear H1
                  obtain rfl := Option.some.inj H
                  go_wp2
                  go_ret
                  exact ⟨by first | rfl | (simp [errW_none, errW_some] <;> rfl) | (simp [*, errW_none, errW_some] <;> rfl), by repeat (first | (with_reducible first | exact HB.out | apply below_alloc | apply pw_below_drewN | apply below_drew1 | refine below_set ?_ GE174.out) | exact HB.out)⟩
                · replace c11 := Bool.eq_false_iff.mpr c11
                  subst c11
                  have H1 : (if ((rd_T57 l0 x5_1).f0) = 1 then ((file_Put.f x3_1 ((rd_T57 l0 x5_1).f1) ((rd_T57 l0 x5_1).f3)).bind fun bt175 => ((lazarusref17_Put.f kj4 x4_1 ((rd_T57 l0 x5_1).f1) ((rd_T57 l0 x5_1).f3)).bind fun bt179 => (lazaruslaw17_FilePlays.j2 kj4 l0 x3_1 x4_1 x5_1 bt175.2 bt179.2 bt175.1 bt179.1 ((rd_T57 l0 x5_1).f0) ((rd_T57 l0 x5_1).f1) ((rd_T57 l0 x5_1).f2) ((rd_T57 l0 x5_1).f3)))) else (if ((rd_T57 l0 x5_1).f0) = 2 then ((file_Write.f x3_1 ((rd_T57 l0 x5_1).f1) ((rd_T57 l0 x5_1).f2) ((rd_T57 l0 x5_1).f3)).bind fun bt183 => ((lazarusref17_Write.f kj4 x4_1 ((rd_T57 l0 x5_1).f1) ((rd_T57 l0 x5_1).f2) ((rd_T57 l0 x5_1).f3)).bind fun bt187 => (lazaruslaw17_FilePlays.j2 kj4 l0 x3_1 x4_1 x5_1 bt183.2 bt187.2 bt183.1 bt187.1 ((rd_T57 l0 x5_1).f0) ((rd_T57 l0 x5_1).f1) ((rd_T57 l0 x5_1).f2) ((rd_T57 l0 x5_1).f3)))) else (lazaruslaw17_FilePlays.j2 kj4 l0 x3_1 x4_1 x5_1 0 0 x3_1 x4_1 ((rd_T57 l0 x5_1).f0) ((rd_T57 l0 x5_1).f1) ((rd_T57 l0 x5_1).f2) ((rd_T57 l0 x5_1).f3)))) = some r := by rw [if_neg (show ¬ (false = true) by decide)] at H; exact H
                  clear H
                  have H := H1
                  clear H1
                  have HC12 := Aside0.mk H
                  clear H
                  have hcz13_0 : wc.cell? ⟨gb174, 0, none⟩ = some (.int .i64 ((rd_T57 l0 x5_1).f0)) := (blk_cell BK174.out 0).trans rfl
                  have hcz13_1 : wc.cell? ⟨gb174, 1, none⟩ = some (.string ((rd_T57 l0 x5_1).f1)) := (blk_cell BK174.out 1).trans rfl
                  have hcz13_2 : wc.cell? ⟨gb174, 2, none⟩ = some (.int .i64 ((rd_T57 l0 x5_1).f2)) := (blk_cell BK174.out 2).trans rfl
                  have hcz13_3 : wc.cell? ⟨gb174, 3, none⟩ = some (.string ((rd_T57 l0 x5_1).f3)) := (blk_cell BK174.out 3).trans rfl
                  have hfz13_0 := blk_frozen BK174.out 0
                  have hfz13_1 := blk_frozen BK174.out 1
                  have hfz13_2 := blk_frozen BK174.out 2
                  have hfz13_3 := blk_frozen BK174.out 3
                  go_upto_block 2 with (fail)
                  go_cut [7, 8, 9, 10] (fun v7 v8 v9 v10 wc => ∃ (kq : Nat) (x7_11 : Int) (x8_11 : Int) (x9_11 : List (S90)) (x10_11 : List (S90)), v7 = .int .i64 x7_11 ∧ v8 = .int .i64 x8_11 ∧ Aside0 (lazaruslaw17_FilePlays.j2 kq l0 x3_1 x4_1 x5_1 x7_11 x8_11 x9_11 x10_11 ((rd_T57 l0 x5_1).f0) ((rd_T57 l0 x5_1).f1) ((rd_T57 l0 x5_1).f2) ((rd_T57 l0 x5_1).f3) = some r) ∧ Aside0 (kq ≤ kj4) ∧ Aside0 (Kd.R k90 90 wc w.heap.size (fun _ => True) u3 x3_1) ∧ Aside0 (Kd.R k90 90 wc w.heap.size (fun _ => True) u4 x4_1) ∧ Aside0 (Kd.R k90 90 wc w.heap.size (fun _ => True) v9 x9_11) ∧ Aside0 (Kd.R k90 90 wc w.heap.size (fun _ => True) v10 x10_11) ∧ Aside0 (wc.heap[gb174]? = some (.cells #[.int .i64 ((rd_T57 l0 x5_1).f0), .string ((rd_T57 l0 x5_1).f1), .int .i64 ((rd_T57 l0 x5_1).f2), .string ((rd_T57 l0 x5_1).f3)] 57 (0, 0))) ∧ Aside0 (Below w.heap.size w wc))
                  case first =>
                    have H := HC12.out
                    clear HC12
                    by_cases c14 : ((rd_T57 l0 x5_1).f0) = 1
                    · rw [if_pos c14] at H
                      have c14b0 : (((rd_T57 l0 x5_1).f0) == 1) = true := beq_iff_eq.mpr c14
                      have c14b1 : (((rd_T57 l0 x5_1).f0) != 1) = false := bne_eq_false_iff_eq.mpr c14
                      clear c14
                      (first | rw [c14b0] | (simp only [i64_w, i32_w]; rw [c14b0]) | skip)
                      replace H := Option.bind_eq_some_iff.mp H
                      obtain ⟨⟨t175, t176⟩, A150, H⟩ := H
                      replace H : ((lazarusref17_Put.f kj4 x4_1 ((rd_T57 l0 x5_1).f1) ((rd_T57 l0 x5_1).f3)).bind fun bt179 => (lazaruslaw17_FilePlays.j2 kj4 l0 x3_1 x4_1 x5_1 t176 bt179.2 t175 bt179.1 ((rd_T57 l0 x5_1).f0) ((rd_T57 l0 x5_1).f1) ((rd_T57 l0 x5_1).f2) ((rd_T57 l0 x5_1).f3))) = some r := H
                      have A15 := Aside0.mk A150
                      clear A150
                      replace H := Option.bind_eq_some_iff.mp H
                      obtain ⟨⟨t179, t180⟩, A160, H⟩ := H
                      replace H : (lazaruslaw17_FilePlays.j2 kj4 l0 x3_1 x4_1 x5_1 t176 t180 t175 t179 ((rd_T57 l0 x5_1).f0) ((rd_T57 l0 x5_1).f1) ((rd_T57 l0 x5_1).f2) ((rd_T57 l0 x5_1).f3)) = some r := H
                      have A16 := Aside0.mk A160
                      clear A160
                      have H' := Aside0.mk H
                      clear H
                      have hcz17_0 : wc.cell? ⟨gb174, 0, none⟩ = some (.int .i64 ((rd_T57 l0 x5_1).f0)) := (blk_cell BK174.out 0).trans rfl
                      have hcz17_1 : wc.cell? ⟨gb174, 1, none⟩ = some (.string ((rd_T57 l0 x5_1).f1)) := (blk_cell BK174.out 1).trans rfl
                      have hcz17_2 : wc.cell? ⟨gb174, 2, none⟩ = some (.int .i64 ((rd_T57 l0 x5_1).f2)) := (blk_cell BK174.out 2).trans rfl
                      have hcz17_3 : wc.cell? ⟨gb174, 3, none⟩ = some (.string ((rd_T57 l0 x5_1).f3)) := (blk_cell BK174.out 3).trans rfl
                      have hfz17_0 := blk_frozen BK174.out 0
                      have hfz17_1 := blk_frozen BK174.out 1
                      have hfz17_2 := blk_frozen BK174.out 2
                      have hfz17_3 := blk_frozen BK174.out 3
                      obtain ⟨Ao18, co18, eo18⟩ := Kd.R_slice HO_3.out
                      subst eo18
                      go_wp2_with (first | ((with_reducible refine gate_callee (f := 26) rfl ?_); refine goesL_ (some 50) rfl rfl Try.func26 (by kernel_rfl) rfl #[.slice Ao18 x3_1.length co18, .string ((rd_T57 l0 x5_1).f1), .string ((rd_T57 l0 x5_1).f3)] rfl (by (try simp only [List.map_toArray, List.map_cons, List.map_nil]); first | done | rfl | (simp only [List.length_drop, List.length_take]; rfl)) ?_; (with_reducible refine (file_Put.calls _ _ x3_1 ((rd_T57 l0 x5_1).f1) ((rd_T57 l0 x5_1).f3) t175 t176 _ ?side1 ?side2 A15.out).mono ?_); (case side1 => repeat (first | exact (Kd.R_reads' HO_3.out).2.2 | (with_reducible refine Kd.C_alloc ?_ _) | (with_reducible refine Kd.C_drewN ?_ _) | (with_reducible refine Kd.C_drew ?_))); (case side2 => exact (Kd.R_reads' HO_3.out).2.1); rintro e w19 ⟨v177, rfl, ho0, hb⟩; refine ⟨_, rfl, ?_⟩; have n0_ := Aside0.mk (Kd.R_elder' (by (with_reducible repeat (first | apply Kd.R_alloc | apply Kd.R_drewN | apply Kd.R_drew)); exact HO_3.out) (Kd.R_base ho0) hb); have n1_ := Aside0.mk (Kd.R_elder' (by (with_reducible repeat (first | apply Kd.R_alloc | apply Kd.R_drewN | apply Kd.R_drew)); exact HO_4.out) (Kd.R_base ho0) hb); have n2_ := Aside0.mk (Kd.R_lower (Kd.R_new' (Kd.R_new' ho0 (Kd.R_lt (by (with_reducible repeat (first | apply Kd.R_alloc | apply Kd.R_drewN | apply Kd.R_drew)); exact HO_3.out))) (Kd.R_lt (by (with_reducible repeat (first | apply Kd.R_alloc | apply Kd.R_drewN | apply Kd.R_drew)); exact HO_4.out))) (below_size (by repeat (first | (with_reducible first | exact HB.out | apply below_alloc | apply pw_below_drewN | apply below_drew1 | refine below_set ?_ GE174.out) | exact HB.out)))); have n3_ := Aside0.mk (blk_below (g := gb174) (o := .cells #[.int .i64 ((rd_T57 l0 x5_1).f0), .string ((rd_T57 l0 x5_1).f1), .int .i64 ((rd_T57 l0 x5_1).f2), .string ((rd_T57 l0 x5_1).f3)] 57 (0, 0)) (by (with_reducible repeat (first | refine blk_drewN ?_ _ | refine blk_drew ?_ | refine blk_alloc ?_ _)); exact BK174.out) hb); have n4_ := Aside0.mk (below_step (by repeat (first | (with_reducible first | exact HB.out | apply below_alloc | apply pw_below_drewN | apply below_drew1 | refine below_set ?_ GE174.out) | exact HB.out)) hb); clear HO_3; clear HO_4; clear BK174; clear HB; have HO_3 := n0_; have HO_4 := n1_; have HO178 := n2_; have BK174 := n3_; have HB := n4_; clear n0_ n1_ n2_ n3_ n4_; (try clear hb); (try clear hb2); (try clear hk); (try clear hi); (try clear ho0); have hcz20_0 : w19.cell? ⟨gb174, 0, none⟩ = some (.int .i64 ((rd_T57 l0 x5_1).f0)) := (blk_cell BK174.out 0).trans rfl; have hcz20_1 : w19.cell? ⟨gb174, 1, none⟩ = some (.string ((rd_T57 l0 x5_1).f1)) := (blk_cell BK174.out 1).trans rfl; have hcz20_2 : w19.cell? ⟨gb174, 2, none⟩ = some (.int .i64 ((rd_T57 l0 x5_1).f2)) := (blk_cell BK174.out 2).trans rfl; have hcz20_3 : w19.cell? ⟨gb174, 3, none⟩ = some (.string ((rd_T57 l0 x5_1).f3)) := (blk_cell BK174.out 3).trans rfl; have hfz20_0 := blk_frozen BK174.out 0; have hfz20_1 := blk_frozen BK174.out 1; have hfz20_2 := blk_frozen BK174.out 2; have hfz20_3 := blk_frozen BK174.out 3; obtain ⟨Ao21, co21, eo21⟩ := Kd.R_slice HO_4.out; subst eo21) | ((with_reducible refine gate_callee (f := 32) rfl ?_); refine goesL_ (some 59) rfl rfl Try.func32 (by kernel_rfl) rfl #[.slice Ao21 x4_1.length co21, .string ((rd_T57 l0 x5_1).f1), .string ((rd_T57 l0 x5_1).f3)] rfl (by (try simp only [List.map_toArray, List.map_cons, List.map_nil]); first | done | rfl | (simp only [List.length_drop, List.length_take]; rfl)) ?_; (with_reducible refine (lazarusref17_Put.calls kj4 _ _ x4_1 ((rd_T57 l0 x5_1).f1) ((rd_T57 l0 x5_1).f3) t179 t180 _ ?side1 ?side2 A16.out).mono ?_); (case side1 => repeat (first | exact (Kd.R_reads' HO_4.out).2.2 | (with_reducible refine Kd.C_alloc ?_ _) | (with_reducible refine Kd.C_drewN ?_ _) | (with_reducible refine Kd.C_drew ?_))); (case side2 => exact (Kd.R_reads' HO_4.out).2.1); rintro e w22 ⟨v181, rfl, ho0, hb⟩; refine ⟨_, rfl, ?_⟩; have n0_ := Aside0.mk (Kd.R_elder' (by (with_reducible repeat (first | apply Kd.R_alloc | apply Kd.R_drewN | apply Kd.R_drew)); exact HO_3.out) (Kd.R_base ho0) hb); have n1_ := Aside0.mk (Kd.R_elder' (by (with_reducible repeat (first | apply Kd.R_alloc | apply Kd.R_drewN | apply Kd.R_drew)); exact HO_4.out) (Kd.R_base ho0) hb); have n2_ := Aside0.mk (Kd.R_elder' (by (with_reducible repeat (first | apply Kd.R_alloc | apply Kd.R_drewN | apply Kd.R_drew)); exact HO178.out) (Kd.R_base ho0) hb); have n3_ := Aside0.mk (Kd.R_lower (Kd.R_new' (Kd.R_new' (Kd.R_new' ho0 (Kd.R_lt (by (with_reducible repeat (first | apply Kd.R_alloc | apply Kd.R_drewN | apply Kd.R_drew)); exact HO_3.out))) (Kd.R_lt (by (with_reducible repeat (first | apply Kd.R_alloc | apply Kd.R_drewN | apply Kd.R_drew)); exact HO_4.out))) (Kd.R_lt (by (with_reducible repeat (first | apply Kd.R_alloc | apply Kd.R_drewN | apply Kd.R_drew)); exact HO178.out))) (below_size (by repeat (first | (with_reducible first | exact HB.out | apply below_alloc | apply pw_below_drewN | apply below_drew1 | refine below_set ?_ GE174.out) | exact HB.out)))); have n4_ := Aside0.mk (blk_below (g := gb174) (o := .cells #[.int .i64 ((rd_T57 l0 x5_1).f0), .string ((rd_T57 l0 x5_1).f1), .int .i64 ((rd_T57 l0 x5_1).f2), .string ((rd_T57 l0 x5_1).f3)] 57 (0, 0)) (by (with_reducible repeat (first | refine blk_drewN ?_ _ | refine blk_drew ?_ | refine blk_alloc ?_ _)); exact BK174.out) hb); have n5_ := Aside0.mk (below_step (by repeat (first | (with_reducible first | exact HB.out | apply below_alloc | apply pw_below_drewN | apply below_drew1 | refine below_set ?_ GE174.out) | exact HB.out)) hb); clear HO_3; clear HO_4; clear HO178; clear BK174; clear HB; have HO_3 := n0_; have HO_4 := n1_; have HO178 := n2_; have HO182 := n3_; have BK174 := n4_; have HB := n5_; clear n0_ n1_ n2_ n3_ n4_ n5_; (try clear hb); (try clear hb2); (try clear hk); (try clear hi); (try clear ho0)))
                      go_meet
                      case rel => exact ⟨_, (t176), (t180), (t175), (t179), (by first | rfl | (simp; done) | (simp [*]; done) | (simp; unfold wrap64; omega)), (by first | rfl | (simp; done) | (simp [*]; done) | (simp; unfold wrap64; omega)), H', ⟨by have := HK1.out; have := HJ4.out; first | omega | exact Nat.le_refl _⟩, ⟨by (with_reducible repeat (first | apply Kd.R_alloc | apply Kd.R_drewN | apply Kd.R_drew)); exact Kd.R_mono HO_3.out (fun _ _ => trivial)⟩, ⟨by (with_reducible repeat (first | apply Kd.R_alloc | apply Kd.R_drewN | apply Kd.R_drew)); exact Kd.R_mono HO_4.out (fun _ _ => trivial)⟩, ⟨by (with_reducible repeat (first | apply Kd.R_alloc | apply Kd.R_drewN | apply Kd.R_drew)); exact Kd.R_mono HO178.out (fun _ _ => trivial)⟩, ⟨by (with_reducible repeat (first | apply Kd.R_alloc | apply Kd.R_drewN | apply Kd.R_drew)); exact Kd.R_mono HO182.out (fun _ _ => trivial)⟩, ⟨by (with_reducible repeat (first | refine blk_drewN ?_ _ | refine blk_drew ?_ | refine blk_alloc ?_ _)); exact BK174.out⟩, ⟨by repeat (first | (with_reducible first | exact HB.out | apply below_alloc | apply pw_below_drewN | apply below_drew1 | refine below_set ?_ GE174.out) | exact HB.out)⟩⟩
                    · rw [if_neg c14] at H
                      have c14b0 : (((rd_T57 l0 x5_1).f0) == 1) = false := beq_eq_false_iff_ne.mpr c14
                      have c14b1 : (((rd_T57 l0 x5_1).f0) != 1) = true := bne_iff_ne.mpr c14
                      (first | rw [c14b0] | (simp only [i64_w, i32_w]; rw [c14b0]) | skip)
                      by_cases c23 : ((rd_T57 l0 x5_1).f0) = 2
                      · rw [if_pos c23] at H
                        have c23b0 : (((rd_T57 l0 x5_1).f0) == 2) = true := beq_iff_eq.mpr c23
                        have c23b1 : (((rd_T57 l0 x5_1).f0) != 2) = false := bne_eq_false_iff_eq.mpr c23
                        clear c23
                        replace H := Option.bind_eq_some_iff.mp H
                        obtain ⟨⟨t183, t184⟩, A240, H⟩ := H
                        replace H : ((lazarusref17_Write.f kj4 x4_1 ((rd_T57 l0 x5_1).f1) ((rd_T57 l0 x5_1).f2) ((rd_T57 l0 x5_1).f3)).bind fun bt187 => (lazaruslaw17_FilePlays.j2 kj4 l0 x3_1 x4_1 x5_1 t184 bt187.2 t183 bt187.1 ((rd_T57 l0 x5_1).f0) ((rd_T57 l0 x5_1).f1) ((rd_T57 l0 x5_1).f2) ((rd_T57 l0 x5_1).f3))) = some r := H
                        have A24 := Aside0.mk A240
                        clear A240
                        replace H := Option.bind_eq_some_iff.mp H
                        obtain ⟨⟨t187, t188⟩, A250, H⟩ := H
                        replace H : (lazaruslaw17_FilePlays.j2 kj4 l0 x3_1 x4_1 x5_1 t184 t188 t183 t187 ((rd_T57 l0 x5_1).f0) ((rd_T57 l0 x5_1).f1) ((rd_T57 l0 x5_1).f2) ((rd_T57 l0 x5_1).f3)) = some r := H
                        have A25 := Aside0.mk A250
                        clear A250
                        have H' := Aside0.mk H
                        clear H
                        have hcz26_0 : wc.cell? ⟨gb174, 0, none⟩ = some (.int .i64 ((rd_T57 l0 x5_1).f0)) := (blk_cell BK174.out 0).trans rfl
                        have hcz26_1 : wc.cell? ⟨gb174, 1, none⟩ = some (.string ((rd_T57 l0 x5_1).f1)) := (blk_cell BK174.out 1).trans rfl
                        have hcz26_2 : wc.cell? ⟨gb174, 2, none⟩ = some (.int .i64 ((rd_T57 l0 x5_1).f2)) := (blk_cell BK174.out 2).trans rfl
                        have hcz26_3 : wc.cell? ⟨gb174, 3, none⟩ = some (.string ((rd_T57 l0 x5_1).f3)) := (blk_cell BK174.out 3).trans rfl
                        have hfz26_0 := blk_frozen BK174.out 0
                        have hfz26_1 := blk_frozen BK174.out 1
                        have hfz26_2 := blk_frozen BK174.out 2
                        have hfz26_3 := blk_frozen BK174.out 3
                        obtain ⟨Ao27, co27, eo27⟩ := Kd.R_slice HO_3.out
                        subst eo27
                        go_wp2_with (first | ((with_reducible refine gate_callee (f := 27) rfl ?_); refine goesL_ (some 72) rfl rfl Try.func27 (by kernel_rfl) rfl #[.slice Ao27 x3_1.length co27, .string ((rd_T57 l0 x5_1).f1), .int .i64 ((rd_T57 l0 x5_1).f2), .string ((rd_T57 l0 x5_1).f3)] rfl (by (try simp only [List.map_toArray, List.map_cons, List.map_nil]); first | done | rfl | (simp only [List.length_drop, List.length_take]; rfl)) ?_; (with_reducible refine (file_Write.calls _ _ x3_1 ((rd_T57 l0 x5_1).f1) ((rd_T57 l0 x5_1).f2) ((rd_T57 l0 x5_1).f3) t183 t184 _ ?side1 ?side2 A24.out).mono ?_); (case side1 => repeat (first | exact (Kd.R_reads' HO_3.out).2.2 | (with_reducible refine Kd.C_alloc ?_ _) | (with_reducible refine Kd.C_drewN ?_ _) | (with_reducible refine Kd.C_drew ?_))); (case side2 => exact (Kd.R_reads' HO_3.out).2.1); rintro e w28 ⟨v185, rfl, ho0, hb⟩; refine ⟨_, rfl, ?_⟩; have n0_ := Aside0.mk (Kd.R_elder' (by (with_reducible repeat (first | apply Kd.R_alloc | apply Kd.R_drewN | apply Kd.R_drew)); exact HO_3.out) (Kd.R_base ho0) hb); have n1_ := Aside0.mk (Kd.R_elder' (by (with_reducible repeat (first | apply Kd.R_alloc | apply Kd.R_drewN | apply Kd.R_drew)); exact HO_4.out) (Kd.R_base ho0) hb); have n2_ := Aside0.mk (Kd.R_lower (Kd.R_new' (Kd.R_new' ho0 (Kd.R_lt (by (with_reducible repeat (first | apply Kd.R_alloc | apply Kd.R_drewN | apply Kd.R_drew)); exact HO_3.out))) (Kd.R_lt (by (with_reducible repeat (first | apply Kd.R_alloc | apply Kd.R_drewN | apply Kd.R_drew)); exact HO_4.out))) (below_size (by repeat (first | (with_reducible first | exact HB.out | apply below_alloc | apply pw_below_drewN | apply below_drew1 | refine below_set ?_ GE174.out) | exact HB.out)))); have n3_ := Aside0.mk (blk_below (g := gb174) (o := .cells #[.int .i64 ((rd_T57 l0 x5_1).f0), .string ((rd_T57 l0 x5_1).f1), .int .i64 ((rd_T57 l0 x5_1).f2), .string ((rd_T57 l0 x5_1).f3)] 57 (0, 0)) (by (with_reducible repeat (first | refine blk_drewN ?_ _ | refine blk_drew ?_ | refine blk_alloc ?_ _)); exact BK174.out) hb); have n4_ := Aside0.mk (below_step (by repeat (first | (with_reducible first | exact HB.out | apply below_alloc | apply pw_below_drewN | apply below_drew1 | refine below_set ?_ GE174.out) | exact HB.out)) hb); clear HO_3; clear HO_4; clear BK174; clear HB; have HO_3 := n0_; have HO_4 := n1_; have HO186 := n2_; have BK174 := n3_; have HB := n4_; clear n0_ n1_ n2_ n3_ n4_; (try clear hb); (try clear hb2); (try clear hk); (try clear hi); (try clear ho0); have hcz29_0 : w28.cell? ⟨gb174, 0, none⟩ = some (.int .i64 ((rd_T57 l0 x5_1).f0)) := (blk_cell BK174.out 0).trans rfl; have hcz29_1 : w28.cell? ⟨gb174, 1, none⟩ = some (.string ((rd_T57 l0 x5_1).f1)) := (blk_cell BK174.out 1).trans rfl; have hcz29_2 : w28.cell? ⟨gb174, 2, none⟩ = some (.int .i64 ((rd_T57 l0 x5_1).f2)) := (blk_cell BK174.out 2).trans rfl; have hcz29_3 : w28.cell? ⟨gb174, 3, none⟩ = some (.string ((rd_T57 l0 x5_1).f3)) := (blk_cell BK174.out 3).trans rfl; have hfz29_0 := blk_frozen BK174.out 0; have hfz29_1 := blk_frozen BK174.out 1; have hfz29_2 := blk_frozen BK174.out 2; have hfz29_3 := blk_frozen BK174.out 3; obtain ⟨Ao30, co30, eo30⟩ := Kd.R_slice HO_4.out; subst eo30) | ((with_reducible refine gate_callee (f := 33) rfl ?_); refine goesL_ (some 83) rfl rfl Try.func33 (by kernel_rfl) rfl #[.slice Ao30 x4_1.length co30, .string ((rd_T57 l0 x5_1).f1), .int .i64 ((rd_T57 l0 x5_1).f2), .string ((rd_T57 l0 x5_1).f3)] rfl (by (try simp only [List.map_toArray, List.map_cons, List.map_nil]); first | done | rfl | (simp only [List.length_drop, List.length_take]; rfl)) ?_; (with_reducible refine (lazarusref17_Write.calls kj4 _ _ x4_1 ((rd_T57 l0 x5_1).f1) ((rd_T57 l0 x5_1).f2) ((rd_T57 l0 x5_1).f3) t187 t188 _ ?side1 ?side2 A25.out).mono ?_); (case side1 => repeat (first | exact (Kd.R_reads' HO_4.out).2.2 | (with_reducible refine Kd.C_alloc ?_ _) | (with_reducible refine Kd.C_drewN ?_ _) | (with_reducible refine Kd.C_drew ?_))); (case side2 => exact (Kd.R_reads' HO_4.out).2.1); rintro e w31 ⟨v189, rfl, ho0, hb⟩; refine ⟨_, rfl, ?_⟩; have n0_ := Aside0.mk (Kd.R_elder' (by (with_reducible repeat (first | apply Kd.R_alloc | apply Kd.R_drewN | apply Kd.R_drew)); exact HO_3.out) (Kd.R_base ho0) hb); have n1_ := Aside0.mk (Kd.R_elder' (by (with_reducible repeat (first | apply Kd.R_alloc | apply Kd.R_drewN | apply Kd.R_drew)); exact HO_4.out) (Kd.R_base ho0) hb); have n2_ := Aside0.mk (Kd.R_elder' (by (with_reducible repeat (first | apply Kd.R_alloc | apply Kd.R_drewN | apply Kd.R_drew)); exact HO186.out) (Kd.R_base ho0) hb); have n3_ := Aside0.mk (Kd.R_lower (Kd.R_new' (Kd.R_new' (Kd.R_new' ho0 (Kd.R_lt (by (with_reducible repeat (first | apply Kd.R_alloc | apply Kd.R_drewN | apply Kd.R_drew)); exact HO_3.out))) (Kd.R_lt (by (with_reducible repeat (first | apply Kd.R_alloc | apply Kd.R_drewN | apply Kd.R_drew)); exact HO_4.out))) (Kd.R_lt (by (with_reducible repeat (first | apply Kd.R_alloc | apply Kd.R_drewN | apply Kd.R_drew)); exact HO186.out))) (below_size (by repeat (first | (with_reducible first | exact HB.out | apply below_alloc | apply pw_below_drewN | apply below_drew1 | refine below_set ?_ GE174.out) | exact HB.out)))); have n4_ := Aside0.mk (blk_below (g := gb174) (o := .cells #[.int .i64 ((rd_T57 l0 x5_1).f0), .string ((rd_T57 l0 x5_1).f1), .int .i64 ((rd_T57 l0 x5_1).f2), .string ((rd_T57 l0 x5_1).f3)] 57 (0, 0)) (by (with_reducible repeat (first | refine blk_drewN ?_ _ | refine blk_drew ?_ | refine blk_alloc ?_ _)); exact BK174.out) hb); have n5_ := Aside0.mk (below_step (by repeat (first | (with_reducible first | exact HB.out | apply below_alloc | apply pw_below_drewN | apply below_drew1 | refine below_set ?_ GE174.out) | exact HB.out)) hb); clear HO_3; clear HO_4; clear HO186; clear BK174; clear HB; have HO_3 := n0_; have HO_4 := n1_; have HO186 := n2_; have HO190 := n3_; have BK174 := n4_; have HB := n5_; clear n0_ n1_ n2_ n3_ n4_ n5_; (try clear hb); (try clear hb2); (try clear hk); (try clear hi); (try clear ho0)))
                        go_meet
                        case rel => exact ⟨_, (t184), (t188), (t183), (t187), (by first | rfl | (simp; done) | (simp [*]; done) | (simp; unfold wrap64; omega)), (by first | rfl | (simp; done) | (simp [*]; done) | (simp; unfold wrap64; omega)), H', ⟨by have := HK1.out; have := HJ4.out; first | omega | exact Nat.le_refl _⟩, ⟨by (with_reducible repeat (first | apply Kd.R_alloc | apply Kd.R_drewN | apply Kd.R_drew)); exact Kd.R_mono HO_3.out (fun _ _ => trivial)⟩, ⟨by (with_reducible repeat (first | apply Kd.R_alloc | apply Kd.R_drewN | apply Kd.R_drew)); exact Kd.R_mono HO_4.out (fun _ _ => trivial)⟩, ⟨by (with_reducible repeat (first | apply Kd.R_alloc | apply Kd.R_drewN | apply Kd.R_drew)); exact Kd.R_mono HO186.out (fun _ _ => trivial)⟩, ⟨by (with_reducible repeat (first | apply Kd.R_alloc | apply Kd.R_drewN | apply Kd.R_drew)); exact Kd.R_mono HO190.out (fun _ _ => trivial)⟩, ⟨by (with_reducible repeat (first | refine blk_drewN ?_ _ | refine blk_drew ?_ | refine blk_alloc ?_ _)); exact BK174.out⟩, ⟨by repeat (first | (with_reducible first | exact HB.out | apply below_alloc | apply pw_below_drewN | apply below_drew1 | refine below_set ?_ GE174.out) | exact HB.out)⟩⟩
                      · rw [if_neg c23] at H
                        have c23b0 : (((rd_T57 l0 x5_1).f0) == 2) = false := beq_eq_false_iff_ne.mpr c23
                        have c23b1 : (((rd_T57 l0 x5_1).f0) != 2) = true := bne_iff_ne.mpr c23
                        have H' := Aside0.mk H
                        clear H
                        go_wp2
                        go_meet
                        case rel => exact ⟨_, (0), (0), (x3_1), (x4_1), (by first | rfl | (simp; done) | (simp [*]; done) | (simp; unfold wrap64; omega)), (by first | rfl | (simp; done) | (simp [*]; done) | (simp; unfold wrap64; omega)), H', ⟨by have := HK1.out; have := HJ4.out; first | omega | exact Nat.le_refl _⟩, ⟨by (with_reducible repeat (first | apply Kd.R_alloc | apply Kd.R_drewN | apply Kd.R_drew)); exact Kd.R_mono HO_3.out (fun _ _ => trivial)⟩, ⟨by (with_reducible repeat (first | apply Kd.R_alloc | apply Kd.R_drewN | apply Kd.R_drew)); exact Kd.R_mono HO_4.out (fun _ _ => trivial)⟩, ⟨by (with_reducible repeat (first | apply Kd.R_alloc | apply Kd.R_drewN | apply Kd.R_drew)); exact Kd.R_mono HO_3.out (fun _ _ => trivial)⟩, ⟨by (with_reducible repeat (first | apply Kd.R_alloc | apply Kd.R_drewN | apply Kd.R_drew)); exact Kd.R_mono HO_4.out (fun _ _ => trivial)⟩, ⟨by (with_reducible repeat (first | refine blk_drewN ?_ _ | refine blk_drew ?_ | refine blk_alloc ?_ _)); exact BK174.out⟩, ⟨by repeat (first | (with_reducible first | exact HB.out | apply below_alloc | apply pw_below_drewN | apply below_drew1 | refine below_set ?_ GE174.out) | exact HB.out)⟩⟩
                  case rest =>
                    clear HC12
                    try clear c1
                    try clear p1
                    try clear q1
                    try clear hx1
                    try clear c2
                    try clear c2b0
                    try clear c2b1
                    try clear p2
                    try clear c3
                    try clear c3b0
                    try clear c4
                    try clear c4b0
                    try clear p6
                    try clear c8
                    try clear c8b0
                    try clear c8b1
                    try clear c11
                    try clear c14
                    try clear c14b0
                    try clear c14b1
                    try clear p17
                    try clear q17
                    try clear hx17
                    try clear c23
                    try clear c23b0
                    try clear c23b1
                    try clear c26
                    try clear c27
                    try clear hcz10_0
                    try clear hcz10_1
                    try clear hcz10_2
                    try clear hcz10_3
                    try clear hcz13_0
                    try clear hcz13_1
                    try clear hcz13_2
                    try clear hcz13_3
                    try clear hcz17_0
                    try clear hcz17_1
                    try clear hcz17_2
                    try clear hcz17_3
                    try clear hcz20_0
                    try clear hcz20_1
                    try clear hcz20_2
                    try clear hcz20_3
                    try clear hcz26_0
                    try clear hcz26_1
                    try clear hcz26_2
                    try clear hcz26_3
                    try clear hcz29_0
                    try clear hcz29_1
                    try clear hcz29_2
                    try clear hcz29_3
                    try clear hcz7_0
                    try clear hcz7_1
                    try clear hcz7_2
                    try clear hcz7_3
                    try clear hcz9_0
                    try clear hcz9_1
                    try clear hcz9_2
                    try clear hcz9_3
                    try clear hfz10_0
                    try clear hfz10_1
                    try clear hfz10_2
                    try clear hfz10_3
                    try clear hfz13_0
                    try clear hfz13_1
                    try clear hfz13_2
                    try clear hfz13_3
                    try clear hfz17_0
                    try clear hfz17_1
                    try clear hfz17_2
                    try clear hfz17_3
                    try clear hfz20_0
                    try clear hfz20_1
                    try clear hfz20_2
                    try clear hfz20_3
                    try clear hfz26_0
                    try clear hfz26_1
                    try clear hfz26_2
                    try clear hfz26_3
                    try clear hfz29_0
                    try clear hfz29_1
                    try clear hfz29_2
                    try clear hfz29_3
                    try clear hfz7_0
                    try clear hfz7_1
                    try clear hfz7_2
                    try clear hfz7_3
                    try clear hfz9_0
                    try clear hfz9_1
                    try clear hfz9_2
                    try clear hfz9_3
                    try clear hx173_0
                    try clear hx173_1
                    try clear hx173_2
                    try clear hx173_3
                    try clear p1
                    try clear p173
                    try clear p2
                    try clear p6
                    try clear q1
                    try clear q173
                    obtain ⟨kq, x7_11, x8_11, x9_11, x10_11, rfl, rfl, HA, HJ11, HO_3, HO_4, HO_9, HO_10, BK174, HB⟩ := hcut
                    cases kq with
                    | zero => exact absurd HA.out (by simp [lazaruslaw17_FilePlays.j2])
                    | succ kj11 =>
                      have H := HA.out
                      clear HA
                      simp only [lazaruslaw17_FilePlays.j2] at H
                      by_cases c32 : x7_11 = x8_11
                      · rw [if_pos c32] at H
                        have c32b0 : (x7_11 == x8_11) = true := beq_iff_eq.mpr c32
                        have c32b1 : (x7_11 != x8_11) = false := bne_eq_false_iff_eq.mpr c32
                        clear c32
                        have HC33 := Aside0.mk H
                        clear H
                        go_upto_if 90 with (fail)
                        go_cut [3, 4] (fun v3 v4 wc => ∃ (kq : Nat) (x3_32 : List (S90)) (x4_32 : List (S90)), Aside0 (lazaruslaw17_FilePlays.j3 kq l0 x3_32 x4_32 x5_1 ((rd_T57 l0 x5_1).f0) ((rd_T57 l0 x5_1).f1) ((rd_T57 l0 x5_1).f2) ((rd_T57 l0 x5_1).f3) = some r) ∧ Aside0 (kq ≤ kj11) ∧ Aside0 (Kd.R k90 90 wc w.heap.size (fun _ => True) v3 x3_32) ∧ Aside0 (Kd.R k90 90 wc w.heap.size (fun _ => True) v4 x4_32) ∧ Aside0 (wc.heap[gb174]? = some (.cells #[.int .i64 ((rd_T57 l0 x5_1).f0), .string ((rd_T57 l0 x5_1).f1), .int .i64 ((rd_T57 l0 x5_1).f2), .string ((rd_T57 l0 x5_1).f3)] 57 (0, 0))) ∧ Aside0 (Below w.heap.size w wc))
                        case first =>
                          have H := HC33.out
                          clear HC33
                          by_cases c34 : x8_11 = 0
                          · rw [if_pos c34] at H
                            have c34b0 : (x8_11 == 0) = true := beq_iff_eq.mpr c34
                            have c34b1 : (x8_11 != 0) = false := bne_eq_false_iff_eq.mpr c34
                            clear c34
                            (first | rw [c34b0] | (simp only [i64_w, i32_w]; rw [c34b0]) | skip)
                            have H' := Aside0.mk H
                            clear H
                            go_wp2
                            go_meet
                            case rel => exact ⟨_, (x9_11), (x10_11), H', ⟨by have := HK1.out; have := HJ4.out; have := HJ11.out; first | omega | exact Nat.le_refl _⟩, ⟨by (with_reducible repeat (first | apply Kd.R_alloc | apply Kd.R_drewN | apply Kd.R_drew)); exact Kd.R_mono HO_9.out (fun _ _ => trivial)⟩, ⟨by (with_reducible repeat (first | apply Kd.R_alloc | apply Kd.R_drewN | apply Kd.R_drew)); exact Kd.R_mono HO_10.out (fun _ _ => trivial)⟩, ⟨by (with_reducible repeat (first | refine blk_drewN ?_ _ | refine blk_drew ?_ | refine blk_alloc ?_ _)); exact BK174.out⟩, ⟨by repeat (first | (with_reducible first | exact HB.out | apply below_alloc | apply pw_below_drewN | apply below_drew1 | refine below_set ?_ GE174.out) | exact HB.out)⟩⟩
                          · rw [if_neg c34] at H
                            have c34b0 : (x8_11 == 0) = false := beq_eq_false_iff_ne.mpr c34
                            have c34b1 : (x8_11 != 0) = true := bne_iff_ne.mpr c34
                            (first | rw [c34b0] | (simp only [i64_w, i32_w]; rw [c34b0]) | skip)
                            have H' := Aside0.mk H
                            clear H
                            go_wp2
                            go_meet
                            case rel => exact ⟨_, (x3_1), (x4_1), H', ⟨by have := HK1.out; have := HJ4.out; have := HJ11.out; first | omega | exact Nat.le_refl _⟩, ⟨by (with_reducible repeat (first | apply Kd.R_alloc | apply Kd.R_drewN | apply Kd.R_drew)); exact Kd.R_mono HO_3.out (fun _ _ => trivial)⟩, ⟨by (with_reducible repeat (first | apply Kd.R_alloc | apply Kd.R_drewN | apply Kd.R_drew)); exact Kd.R_mono HO_4.out (fun _ _ => trivial)⟩, ⟨by (with_reducible repeat (first | refine blk_drewN ?_ _ | refine blk_drew ?_ | refine blk_alloc ?_ _)); exact BK174.out⟩, ⟨by repeat (first | (with_reducible first | exact HB.out | apply below_alloc | apply pw_below_drewN | apply below_drew1 | refine below_set ?_ GE174.out) | exact HB.out)⟩⟩
                        case rest =>
                          clear HC33
                          try clear c1
                          try clear p1
                          try clear q1
                          try clear hx1
                          try clear c2
                          try clear c2b0
                          try clear c2b1
                          try clear p2
                          try clear c3
                          try clear c3b0
                          try clear c4
                          try clear c4b0
                          try clear p6
                          try clear c8
                          try clear c8b0
                          try clear c8b1
                          try clear c11
                          try clear c14
                          try clear c14b0
                          try clear c14b1
                          try clear p17
                          try clear q17
                          try clear hx17
                          try clear c23
                          try clear c23b0
                          try clear c23b1
                          try clear c26
                          try clear c27
                          try clear c32
                          try clear c32b0
                          try clear c32b1
                          try clear c33
                          try clear c34
                          try clear c34b0
                          try clear c34b1
                          try clear hcz10_0
                          try clear hcz10_1
                          try clear hcz10_2
                          try clear hcz10_3
                          try clear hcz13_0
                          try clear hcz13_1
                          try clear hcz13_2
                          try clear hcz13_3
                          try clear hcz17_0
                          try clear hcz17_1
                          try clear hcz17_2
                          try clear hcz17_3
                          try clear hcz20_0
                          try clear hcz20_1
                          try clear hcz20_2
                          try clear hcz20_3
                          try clear hcz26_0
                          try clear hcz26_1
                          try clear hcz26_2
                          try clear hcz26_3
                          try clear hcz29_0
                          try clear hcz29_1
                          try clear hcz29_2
                          try clear hcz29_3
                          try clear hcz7_0
                          try clear hcz7_1
                          try clear hcz7_2
                          try clear hcz7_3
                          try clear hcz9_0
                          try clear hcz9_1
                          try clear hcz9_2
                          try clear hcz9_3
                          try clear hfz10_0
                          try clear hfz10_1
                          try clear hfz10_2
                          try clear hfz10_3
                          try clear hfz13_0
                          try clear hfz13_1
                          try clear hfz13_2
                          try clear hfz13_3
                          try clear hfz17_0
                          try clear hfz17_1
                          try clear hfz17_2
                          try clear hfz17_3
                          try clear hfz20_0
                          try clear hfz20_1
                          try clear hfz20_2
                          try clear hfz20_3
                          try clear hfz26_0
                          try clear hfz26_1
                          try clear hfz26_2
                          try clear hfz26_3
                          try clear hfz29_0
                          try clear hfz29_1
                          try clear hfz29_2
                          try clear hfz29_3
                          try clear hfz7_0
                          try clear hfz7_1
                          try clear hfz7_2
                          try clear hfz7_3
                          try clear hfz9_0
                          try clear hfz9_1
                          try clear hfz9_2
                          try clear hfz9_3
                          try clear hx173_0
                          try clear hx173_1
                          try clear hx173_2
                          try clear hx173_3
                          try clear p1
                          try clear p17
                          try clear p173
                          try clear p2
                          try clear p6
                          try clear q1
                          try clear q17
                          try clear q173
                          obtain ⟨kq, x3_32, x4_32, HA, HJ32, HO_3, HO_4, BK174, HB⟩ := hcut
                          cases kq with
                          | zero => exact absurd HA.out (by simp [lazaruslaw17_FilePlays.j3])
                          | succ kj32 =>
                            have H := HA.out
                            clear HA
                            simp only [lazaruslaw17_FilePlays.j3] at H
                            replace H := Option.bind_eq_some_iff.mp H
                            obtain ⟨⟨t191, t192⟩, A350, H⟩ := H
                            replace H : ((lazarusref17_Get.f kj32 x4_32 ((rd_T57 l0 x5_1).f1)).bind fun bt193 => (if t191.toList = bt193.1.toList then (if (t192 != bt193.2) = true then (none) else ((lazarusref17_Same.f kj32 x3_32 x4_32).bind fun t195 => (if t195 = true then ((file_Is.f kj32 x3_32).bind fun t196 => (if t196 = true then ((file_Names.f kj32 x3_32).bind fun t197 => ((lazarusref17_Names.f kj32 x4_32).bind fun t200 => ((lazarusref14_Texts.f kj32 t197 t200).bind fun t203 => (if t203 = true then (lazaruslaw17_FilePlays.l0 kj32 l0 x3_32 x4_32 (wrap64 (x5_1 + 1))) else (none))))) else (none))) else (none)))) else (none))) = some r := H
                            have A35 := Aside0.mk A350
                            clear A350
                            replace H := Option.bind_eq_some_iff.mp H
                            obtain ⟨⟨t193, t194⟩, A360, H⟩ := H
                            replace H : (if t191.toList = t193.toList then (if (t192 != t194) = true then (none) else ((lazarusref17_Same.f kj32 x3_32 x4_32).bind fun t195 => (if t195 = true then ((file_Is.f kj32 x3_32).bind fun t196 => (if t196 = true then ((file_Names.f kj32 x3_32).bind fun t197 => ((lazarusref17_Names.f kj32 x4_32).bind fun t200 => ((lazarusref14_Texts.f kj32 t197 t200).bind fun t203 => (if t203 = true then (lazaruslaw17_FilePlays.l0 kj32 l0 x3_32 x4_32 (wrap64 (x5_1 + 1))) else (none))))) else (none))) else (none)))) else (none)) = some r := H
                            have A36 := Aside0.mk A360
                            clear A360
                            by_cases c37 : t191.toList = t193.toList
                            · rw [if_pos c37] at H
                              have c37b0 : (t191.toList == t193.toList) = true := beq_iff_eq.mpr c37
                              have c37b1 : (t191.toList != t193.toList) = false := bne_eq_false_iff_eq.mpr c37
                              clear c37
                              by_cases c38 : (t192 != t194) = true
                              · rw [if_pos c38] at H
                                exact absurd H (by simp)
                              · rw [if_neg c38] at H
                                have c38b0 : (t192 != t194) = false := by simpa using c38
                                (try (have c38b1 : decide (t192 = t194) = true := by simpa using c38))
                                (try (have c38b2 : (t192 == t194) = true := by simpa using c38))
                                clear c38
                                replace H := Option.bind_eq_some_iff.mp H
                                obtain ⟨t195, A390, H⟩ := H
                                replace H : (if t195 = true then ((file_Is.f kj32 x3_32).bind fun t196 => (if t196 = true then ((file_Names.f kj32 x3_32).bind fun t197 => ((lazarusref17_Names.f kj32 x4_32).bind fun t200 => ((lazarusref14_Texts.f kj32 t197 t200).bind fun t203 => (if t203 = true then (lazaruslaw17_FilePlays.l0 kj32 l0 x3_32 x4_32 (wrap64 (x5_1 + 1))) else (none))))) else (none))) else (none)) = some r := H
                                have A39 := Aside0.mk A390
                                clear A390
                                by_cases c40 : t195 = true
                                · subst c40
                                  have H1 : ((file_Is.f kj32 x3_32).bind fun t196 => (if t196 = true then ((file_Names.f kj32 x3_32).bind fun t197 => ((lazarusref17_Names.f kj32 x4_32).bind fun t200 => ((lazarusref14_Texts.f kj32 t197 t200).bind fun t203 => (if t203 = true then (lazaruslaw17_FilePlays.l0 kj32 l0 x3_32 x4_32 (wrap64 (x5_1 + 1))) else (none))))) else (none))) = some r := by rw [if_pos rfl] at H; exact H
                                  clear H
                                  have H := H1
                                  clear H1
                                  replace H := Option.bind_eq_some_iff.mp H
                                  obtain ⟨t196, A410, H⟩ := H
                                  replace H : (if t196 = true then ((file_Names.f kj32 x3_32).bind fun t197 => ((lazarusref17_Names.f kj32 x4_32).bind fun t200 => ((lazarusref14_Texts.f kj32 t197 t200).bind fun t203 => (if t203 = true then (lazaruslaw17_FilePlays.l0 kj32 l0 x3_32 x4_32 (wrap64 (x5_1 + 1))) else (none))))) else (none)) = some r := H
                                  have A41 := Aside0.mk A410
                                  clear A410
                                  by_cases c42 : t196 = true
                                  · subst c42
                                    have H1 : ((file_Names.f kj32 x3_32).bind fun t197 => ((lazarusref17_Names.f kj32 x4_32).bind fun t200 => ((lazarusref14_Texts.f kj32 t197 t200).bind fun t203 => (if t203 = true then (lazaruslaw17_FilePlays.l0 kj32 l0 x3_32 x4_32 (wrap64 (x5_1 + 1))) else (none))))) = some r := by rw [if_pos rfl] at H; exact H
                                    clear H
                                    have H := H1
                                    clear H1
                                    replace H := Option.bind_eq_some_iff.mp H
                                    obtain ⟨t197, A430, H⟩ := H
                                    replace H : ((lazarusref17_Names.f kj32 x4_32).bind fun t200 => ((lazarusref14_Texts.f kj32 t197 t200).bind fun t203 => (if t203 = true then (lazaruslaw17_FilePlays.l0 kj32 l0 x3_32 x4_32 (wrap64 (x5_1 + 1))) else (none)))) = some r := H
                                    have A43 := Aside0.mk A430
                                    clear A430
                                    replace H := Option.bind_eq_some_iff.mp H
                                    obtain ⟨t200, A440, H⟩ := H
                                    replace H : ((lazarusref14_Texts.f kj32 t197 t200).bind fun t203 => (if t203 = true then (lazaruslaw17_FilePlays.l0 kj32 l0 x3_32 x4_32 (wrap64 (x5_1 + 1))) else (none))) = some r := H
                                    have A44 := Aside0.mk A440
                                    clear A440
                                    replace H := Option.bind_eq_some_iff.mp H
                                    obtain ⟨t203, A450, H⟩ := H
                                    replace H : (if t203 = true then (lazaruslaw17_FilePlays.l0 kj32 l0 x3_32 x4_32 (wrap64 (x5_1 + 1))) else (none)) = some r := H
                                    have A45 := Aside0.mk A450
                                    clear A450
                                    by_cases c46 : t203 = true
                                    · subst c46
                                      have H1 : (lazaruslaw17_FilePlays.l0 kj32 l0 x3_32 x4_32 (wrap64 (x5_1 + 1))) = some r := by rw [if_pos rfl] at H; exact H
                                      clear H
                                      have H := H1
                                      clear H1
                                      have H' := Aside0.mk H
                                      clear H
                                      have hcz47_0 : wc.cell? ⟨gb174, 0, none⟩ = some (.int .i64 ((rd_T57 l0 x5_1).f0)) := (blk_cell BK174.out 0).trans rfl
                                      have hcz47_1 : wc.cell? ⟨gb174, 1, none⟩ = some (.string ((rd_T57 l0 x5_1).f1)) := (blk_cell BK174.out 1).trans rfl
                                      have hcz47_2 : wc.cell? ⟨gb174, 2, none⟩ = some (.int .i64 ((rd_T57 l0 x5_1).f2)) := (blk_cell BK174.out 2).trans rfl
                                      have hcz47_3 : wc.cell? ⟨gb174, 3, none⟩ = some (.string ((rd_T57 l0 x5_1).f3)) := (blk_cell BK174.out 3).trans rfl
                                      have hfz47_0 := blk_frozen BK174.out 0
                                      have hfz47_1 := blk_frozen BK174.out 1
                                      have hfz47_2 := blk_frozen BK174.out 2
                                      have hfz47_3 := blk_frozen BK174.out 3
                                      obtain ⟨Ao48, co48, eo48⟩ := Kd.R_slice HO_3.out
                                      subst eo48
                                      go_wp2_with (first | ((with_reducible refine gate_callee (f := 28) rfl ?_); refine goesL_ (some 97) rfl rfl Try.func28 (by kernel_rfl) rfl #[.slice Ao48 x3_32.length co48, .string ((rd_T57 l0 x5_1).f1)] rfl (by (try simp only [List.map_toArray, List.map_cons, List.map_nil]); first | done | rfl | (simp only [List.length_drop, List.length_take]; rfl)) ?_; (with_reducible refine (file_Get.calls _ _ x3_32 ((rd_T57 l0 x5_1).f1) t191 t192 _ ?side1 ?side2 A35.out).mono ?_); (case side1 => repeat (first | exact (Kd.R_reads' HO_3.out).2.2 | (with_reducible refine Kd.C_alloc ?_ _) | (with_reducible refine Kd.C_drewN ?_ _) | (with_reducible refine Kd.C_drew ?_))); (case side2 => exact (Kd.R_reads' HO_3.out).2.1); rintro e w49 ⟨rfl, hb⟩; refine ⟨_, rfl, ?_⟩; have n0_ := Aside0.mk (Kd.R_below (by (with_reducible repeat (first | apply Kd.R_alloc | apply Kd.R_drewN | apply Kd.R_drew)); exact HO_3.out) hb); have n1_ := Aside0.mk (Kd.R_below (by (with_reducible repeat (first | apply Kd.R_alloc | apply Kd.R_drewN | apply Kd.R_drew)); exact HO_4.out) hb); have n2_ := Aside0.mk (blk_below (g := gb174) (o := .cells #[.int .i64 ((rd_T57 l0 x5_1).f0), .string ((rd_T57 l0 x5_1).f1), .int .i64 ((rd_T57 l0 x5_1).f2), .string ((rd_T57 l0 x5_1).f3)] 57 (0, 0)) (by (with_reducible repeat (first | refine blk_drewN ?_ _ | refine blk_drew ?_ | refine blk_alloc ?_ _)); exact BK174.out) hb); have n3_ := Aside0.mk (below_step (by repeat (first | (with_reducible first | exact HB.out | apply below_alloc | apply pw_below_drewN | apply below_drew1 | refine below_set ?_ GE174.out) | exact HB.out)) hb); clear HO_3; clear HO_4; clear BK174; clear HB; have HO_3 := n0_; have HO_4 := n1_; have BK174 := n2_; have HB := n3_; clear n0_ n1_ n2_ n3_; (try clear hb); (try clear hb2); (try clear hk); (try clear hi); have hcz50_0 : w49.cell? ⟨gb174, 0, none⟩ = some (.int .i64 ((rd_T57 l0 x5_1).f0)) := (blk_cell BK174.out 0).trans rfl; have hcz50_1 : w49.cell? ⟨gb174, 1, none⟩ = some (.string ((rd_T57 l0 x5_1).f1)) := (blk_cell BK174.out 1).trans rfl; have hcz50_2 : w49.cell? ⟨gb174, 2, none⟩ = some (.int .i64 ((rd_T57 l0 x5_1).f2)) := (blk_cell BK174.out 2).trans rfl; have hcz50_3 : w49.cell? ⟨gb174, 3, none⟩ = some (.string ((rd_T57 l0 x5_1).f3)) := (blk_cell BK174.out 3).trans rfl; have hfz50_0 := blk_frozen BK174.out 0; have hfz50_1 := blk_frozen BK174.out 1; have hfz50_2 := blk_frozen BK174.out 2; have hfz50_3 := blk_frozen BK174.out 3; obtain ⟨Ao51, co51, eo51⟩ := Kd.R_slice HO_4.out; subst eo51) | ((with_reducible refine gate_callee (f := 34) rfl ?_); refine goesL_ (some 104) rfl rfl Try.func34 (by kernel_rfl) rfl #[.slice Ao51 x4_32.length co51, .string ((rd_T57 l0 x5_1).f1)] rfl (by (try simp only [List.map_toArray, List.map_cons, List.map_nil]); first | done | rfl | (simp only [List.length_drop, List.length_take]; rfl)) ?_; (with_reducible refine (lazarusref17_Get.calls kj32 _ _ x4_32 ((rd_T57 l0 x5_1).f1) t193 t194 _ ?side1 ?side2 A36.out).mono ?_); (case side1 => repeat (first | exact (Kd.R_reads' HO_4.out).2.2 | (with_reducible refine Kd.C_alloc ?_ _) | (with_reducible refine Kd.C_drewN ?_ _) | (with_reducible refine Kd.C_drew ?_))); (case side2 => exact (Kd.R_reads' HO_4.out).2.1); rintro e w' ⟨rfl, ⟨nd, rfl⟩⟩; refine ⟨_, rfl, ?_⟩) | (go_at_call 29; (with_reducible refine (lazarusref17_Same.calls kj32 _ _ x3_32 _ _ x4_32 true _ ?side1 ?side2 ?side3 ?side4 A39.out).mono ?_); (case side1 => repeat (first | exact (Kd.R_reads' HO_3.out).2.2 | (with_reducible refine Kd.C_alloc ?_ _) | (with_reducible refine Kd.C_drewN ?_ _) | (with_reducible refine Kd.C_drew ?_))); (case side2 => exact (Kd.R_reads' HO_3.out).2.1); (case side3 => repeat (first | exact (Kd.R_reads' HO_4.out).2.2 | (with_reducible refine Kd.C_alloc ?_ _) | (with_reducible refine Kd.C_drewN ?_ _) | (with_reducible refine Kd.C_drew ?_))); (case side4 => exact (Kd.R_reads' HO_4.out).2.1); rintro e w' ⟨rfl, ⟨nd, rfl⟩⟩) | (go_at_call 35; (with_reducible refine (file_Is.calls kj32 _ _ x3_32 true _ ?side1 ?side2 A41.out).mono ?_); (case side1 => repeat (first | exact (Kd.R_reads' HO_3.out).2.2 | (with_reducible refine Kd.C_alloc ?_ _) | (with_reducible refine Kd.C_drewN ?_ _) | (with_reducible refine Kd.C_drew ?_))); (case side2 => exact (Kd.R_reads' HO_3.out).2.1); rintro e w52 ⟨rfl, hb⟩; have n0_ := Aside0.mk (Kd.R_below (by (with_reducible repeat (first | apply Kd.R_alloc | apply Kd.R_drewN | apply Kd.R_drew)); exact HO_3.out) hb); have n1_ := Aside0.mk (Kd.R_below (by (with_reducible repeat (first | apply Kd.R_alloc | apply Kd.R_drewN | apply Kd.R_drew)); exact HO_4.out) hb); have n2_ := Aside0.mk (blk_below (g := gb174) (o := .cells #[.int .i64 ((rd_T57 l0 x5_1).f0), .string ((rd_T57 l0 x5_1).f1), .int .i64 ((rd_T57 l0 x5_1).f2), .string ((rd_T57 l0 x5_1).f3)] 57 (0, 0)) (by (with_reducible repeat (first | refine blk_drewN ?_ _ | refine blk_drew ?_ | refine blk_alloc ?_ _)); exact BK174.out) hb); have n3_ := Aside0.mk (below_step (by repeat (first | (with_reducible first | exact HB.out | apply below_alloc | apply pw_below_drewN | apply below_drew1 | refine below_set ?_ GE174.out) | exact HB.out)) hb); clear HO_3; clear HO_4; clear BK174; clear HB; have HO_3 := n0_; have HO_4 := n1_; have BK174 := n2_; have HB := n3_; clear n0_ n1_ n2_ n3_; (try clear hb); (try clear hb2); (try clear hk); (try clear hi)) | (go_at_call 37; (with_reducible refine (file_Names.calls kj32 _ _ x3_32 t197 _ ?side1 ?side2 A43.out).mono ?_); (case side1 => repeat (first | exact (Kd.R_reads' HO_3.out).2.2 | (with_reducible refine Kd.C_alloc ?_ _) | (with_reducible refine Kd.C_drewN ?_ _) | (with_reducible refine Kd.C_drew ?_))); (case side2 => exact (Kd.R_reads' HO_3.out).2.1); rintro e w53 ⟨v198, rfl, ho0, hb⟩; have n0_ := Aside0.mk (Kd.R_below (by (with_reducible repeat (first | apply Kd.R_alloc | apply Kd.R_drewN | apply Kd.R_drew)); exact HO_3.out) hb); have n1_ := Aside0.mk (Kd.R_below (by (with_reducible repeat (first | apply Kd.R_alloc | apply Kd.R_drewN | apply Kd.R_drew)); exact HO_4.out) hb); have n2_ := Aside0.mk (Kd.R_lower ho0 (below_size (by repeat (first | (with_reducible first | exact HB.out | apply below_alloc | apply pw_below_drewN | apply below_drew1 | refine below_set ?_ GE174.out) | exact HB.out)))); have n3_ := Aside0.mk (blk_below (g := gb174) (o := .cells #[.int .i64 ((rd_T57 l0 x5_1).f0), .string ((rd_T57 l0 x5_1).f1), .int .i64 ((rd_T57 l0 x5_1).f2), .string ((rd_T57 l0 x5_1).f3)] 57 (0, 0)) (by (with_reducible repeat (first | refine blk_drewN ?_ _ | refine blk_drew ?_ | refine blk_alloc ?_ _)); exact BK174.out) hb); have n4_ := Aside0.mk (below_step (by repeat (first | (with_reducible first | exact HB.out | apply below_alloc | apply pw_below_drewN | apply below_drew1 | refine below_set ?_ GE174.out) | exact HB.out)) hb); clear HO_3; clear HO_4; clear BK174; clear HB; have HO_3 := n0_; have HO_4 := n1_; have HO199 := n2_; have BK174 := n3_; have HB := n4_; clear n0_ n1_ n2_ n3_ n4_; (try clear hb); (try clear hb2); (try clear hk); (try clear hi); (try clear ho0)) | (go_at_call 38; (with_reducible refine (lazarusref17_Names.calls kj32 _ _ x4_32 t200 _ ?side1 ?side2 A44.out).mono ?_); (case side1 => repeat (first | exact (Kd.R_reads' HO_4.out).2.2 | (with_reducible refine Kd.C_alloc ?_ _) | (with_reducible refine Kd.C_drewN ?_ _) | (with_reducible refine Kd.C_drew ?_))); (case side2 => exact (Kd.R_reads' HO_4.out).2.1); rintro e w54 ⟨v201, rfl, ho0, hb⟩; have n0_ := Aside0.mk (Kd.R_below (by (with_reducible repeat (first | apply Kd.R_alloc | apply Kd.R_drewN | apply Kd.R_drew)); exact HO_3.out) hb); have n1_ := Aside0.mk (Kd.R_below (by (with_reducible repeat (first | apply Kd.R_alloc | apply Kd.R_drewN | apply Kd.R_drew)); exact HO_4.out) hb); have n2_ := Aside0.mk (Kd.R_elder' (by (with_reducible repeat (first | apply Kd.R_alloc | apply Kd.R_drewN | apply Kd.R_drew)); exact HO199.out) (Kd.R_base ho0) hb); have n3_ := Aside0.mk (Kd.R_lower (Kd.R_new' ho0 (Kd.R_lt (by (with_reducible repeat (first | apply Kd.R_alloc | apply Kd.R_drewN | apply Kd.R_drew)); exact HO199.out))) (below_size (by repeat (first | (with_reducible first | exact HB.out | apply below_alloc | apply pw_below_drewN | apply below_drew1 | refine below_set ?_ GE174.out) | exact HB.out)))); have n4_ := Aside0.mk (blk_below (g := gb174) (o := .cells #[.int .i64 ((rd_T57 l0 x5_1).f0), .string ((rd_T57 l0 x5_1).f1), .int .i64 ((rd_T57 l0 x5_1).f2), .string ((rd_T57 l0 x5_1).f3)] 57 (0, 0)) (by (with_reducible repeat (first | refine blk_drewN ?_ _ | refine blk_drew ?_ | refine blk_alloc ?_ _)); exact BK174.out) hb); have n5_ := Aside0.mk (below_step (by repeat (first | (with_reducible first | exact HB.out | apply below_alloc | apply pw_below_drewN | apply below_drew1 | refine below_set ?_ GE174.out) | exact HB.out)) hb); clear HO_3; clear HO_4; clear HO199; clear BK174; clear HB; have HO_3 := n0_; have HO_4 := n1_; have HO199 := n2_; have HO202 := n3_; have BK174 := n4_; have HB := n5_; clear n0_ n1_ n2_ n3_ n4_ n5_; (try clear hb); (try clear hb2); (try clear hk); (try clear hi); (try clear ho0); obtain ⟨Ao55, co55, eo55⟩ := Kd.R_slice HO199.out; subst eo55; obtain ⟨Ao56, co56, eo56⟩ := Kd.R_slice HO202.out; subst eo56) | (go_at_call 36; (with_reducible refine (lazarusref14_Texts.calls kj32 _ _ t197 _ _ t200 true _ ?side1 ?side2 ?side3 ?side4 A45.out).mono ?_); (case side1 => repeat (first | exact (Kd.R_reads' HO199.out).2.2 | (with_reducible refine Kd.C_alloc ?_ _) | (with_reducible refine Kd.C_drewN ?_ _) | (with_reducible refine Kd.C_drew ?_))); (case side2 => exact (Kd.R_reads' HO199.out).2.1); (case side3 => repeat (first | exact (Kd.R_reads' HO202.out).2.2 | (with_reducible refine Kd.C_alloc ?_ _) | (with_reducible refine Kd.C_drewN ?_ _) | (with_reducible refine Kd.C_drew ?_))); (case side4 => exact (Kd.R_reads' HO202.out).2.1); rintro e w' ⟨rfl, ⟨nd, rfl⟩⟩))
                                      go_roundg kj32
                                      case measure => have := HK1.out; have := HJ4.out; have := HJ11.out; have := HJ32.out; omega
                                      case rel => exact ⟨(x3_32), (x4_32), (wrap64 (x5_1 + 1)), (by first | rfl | (simp; done) | (simp [*]; done) | (simp; unfold wrap64; omega)), H', ⟨by have := HK1.out; have := HJ4.out; have := HJ11.out; have := HJ32.out; omega⟩, ⟨by (with_reducible repeat (first | apply Kd.R_alloc | apply Kd.R_drewN | apply Kd.R_drew)); exact HO_3.out⟩, ⟨by (with_reducible repeat (first | apply Kd.R_alloc | apply Kd.R_drewN | apply Kd.R_drew)); exact HO_4.out⟩, ⟨by repeat (first | (with_reducible first | exact HB.out | apply below_alloc | apply pw_below_drewN | apply below_drew1 | refine below_set ?_ GE174.out) | exact HB.out)⟩⟩
                                    · replace c46 := Bool.eq_false_iff.mpr c46
                                      subst c46
                                      have H1 : (none) = some r := by rw [if_neg (show ¬ (false = true) by decide)] at H; exact H
                                      clear H
                                      have H := H1
                                      clear H1
                                      exact absurd H (by simp)
                                  · replace c42 := Bool.eq_false_iff.mpr c42
                                    subst c42
                                    have H1 : (none) = some r := by rw [if_neg (show ¬ (false = true) by decide)] at H; exact H
                                    clear H
                                    have H := H1
                                    clear H1
                                    exact absurd H (by simp)
                                · replace c40 := Bool.eq_false_iff.mpr c40
                                  subst c40
                                  have H1 : (none) = some r := by rw [if_neg (show ¬ (false = true) by decide)] at H; exact H
                                  clear H
                                  have H := H1
                                  clear H1
                                  exact absurd H (by simp)
                            · rw [if_neg c37] at H
                              exact absurd H (by simp)
                      · rw [if_neg c32] at H
                        exact absurd H (by simp)
          · rw [if_neg c4] at H
            exact absurd H (by simp)
        · rw [if_neg c3] at H
          have c3b0 : decide (x5_1 < (l0.length : Int)) = false := decide_eq_false c3
          clear c3
          replace H := Option.bind_eq_some_iff.mp H
          obtain ⟨t172, A570, H⟩ := H
          replace H : (some t172) = some r := H
          have A57 := Aside0.mk A570
          clear A570
          obtain rfl := Option.some.inj H
          go_wp2_with (first | ((with_reducible refine gate_callee (f := 30) rfl ?_); refine goesL_ (some 134) rfl rfl Try.func30 (by kernel_rfl) rfl #[] rfl (by (try simp only [List.map_toArray, List.map_cons, List.map_nil]); first | done | rfl | (simp only [List.length_drop, List.length_take]; rfl)) ?_; (with_reducible refine (lazaruslaw17_known.calls k1  t172 _ A57.out).mono ?_); rintro e w58 ⟨rfl, hb⟩; refine ⟨_, rfl, ?_⟩; have n0_ := Aside0.mk (Kd.R_below (by (with_reducible repeat (first | apply Kd.R_alloc | apply Kd.R_drewN | apply Kd.R_drew)); exact HO_3.out) hb); have n1_ := Aside0.mk (Kd.R_below (by (with_reducible repeat (first | apply Kd.R_alloc | apply Kd.R_drewN | apply Kd.R_drew)); exact HO_4.out) hb); have n2_ := Aside0.mk (below_step (by repeat (first | (with_reducible first | exact HB.out | apply below_alloc | apply pw_below_drewN | apply below_drew1) | exact HB.out)) hb); clear HO_3; clear HO_4; clear HB; have HO_3 := n0_; have HO_4 := n1_; have HB := n2_; clear n0_ n1_ n2_; (try clear hb); (try clear hb2); (try clear hk); (try clear hi)))
          go_ret
          exact ⟨by first | rfl | (simp [errW_none, errW_some] <;> rfl) | (simp [*, errW_none, errW_some] <;> rfl), by repeat (first | (with_reducible first | exact HB.out | apply below_alloc | apply pw_below_drewN | apply below_drew1) | exact HB.out)⟩

end Go.Proofs.Ythlakeaefoljnaa.QFilePlays
