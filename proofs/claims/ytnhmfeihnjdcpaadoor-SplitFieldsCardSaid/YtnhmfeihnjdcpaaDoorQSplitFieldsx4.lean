-- Written by a program of this session (wip/tools), out of the kit's print of the loaded program: functions, and proofs that the calls come to them.
import Derived.Test.YtnhmfeihnjdcpaaDoorQSplitFieldsx0
import Derived.Test.YtnhmfeihnjdcpaaDoorQSplitFieldsx3
namespace Go.Proofs.YtnhmfeihnjdcpaaDoor.QSplitFields
open Go.RowKit Go.Proofs.YtnhmfeihnjdcpaaDoorW.PrintWords Go.Proofs.YtnhmfeihnjdcpaaDoorW.PrintLast Go.Proofs.YtnhmfeihnjdcpaaDoorW.PrintMore
attribute [local go_sem] max2_int min2_int max_two min_two max_three min_three max_four min_four   -- for this text's walks alone
set_option linter.unusedVariables false
set_option linter.unusedSimpArgs false

/-! ### lazarusref15_Fields: function 38 -/
mutual
def lazarusref15_Fields.l0 : Nat → List (S72) → List (List (S57)) → List (S57) → Bool → Int → Option ((List (List (S57))))
  | 0, _, _, _, _, _ => none
  | k + 1, x0, x3, x4, x5, x6 => if x6 < (x0.length : Int) then (if 0 ≤ x6 then (if (rd_T72 x0 x6).f3 = true then (if x5 = true then (if x3.length < 5864062014805 then (lazarusref15_Fields.l0 k x0 (x3 ++ [x4]) ([] : List (S57)) false (wrap64 (x6 + 1))) else (none)) else (lazarusref15_Fields.l0 k x0 x3 ([] : List (S57)) false (wrap64 (x6 + 1)))) else (if (rd_T72 x0 x6).f1 = true then (lazarusref15_Fields.j1 k x0 x3 x4 true x6 ((rd_T72 x0 x6).f0) ((rd_T72 x0 x6).f1) ((rd_T72 x0 x6).f2) ((rd_T72 x0 x6).f3)) else (lazarusref15_Fields.j1 k x0 x3 x4 x5 x6 ((rd_T72 x0 x6).f0) ((rd_T72 x0 x6).f1) ((rd_T72 x0 x6).f2) ((rd_T72 x0 x6).f3)))) else (none)) else (if x5 = true then (if x3.length < 5864062014805 then (some (x3 ++ [x4])) else (none)) else (some x3))
def lazarusref15_Fields.j1 : Nat → List (S72) → List (List (S57)) → List (S57) → Bool → Int → ByteArray → Bool → Bool → Bool → Option ((List (List (S57))))
  | 0, _, _, _, _, _, _, _, _, _ => none
  | k + 1, x0, x3, x4, x5, x6, x145000, x145001, x145002, x145003 => (lazarusref13_Chars.f k x145000 x145001).bind fun t148 => (lazarusref15_Fields.l1 k x0 x3 x4 x5 x6 t148 0 x145000 x145001 x145002 x145003)
def lazarusref15_Fields.l1 : Nat → List (S72) → List (List (S57)) → List (S57) → Bool → Int → List (S57) → Int → ByteArray → Bool → Bool → Bool → Option ((List (List (S57))))
  | 0, _, _, _, _, _, _, _, _, _, _, _ => none
  | k + 1, x0, x3, x4, x5, x6, x8, x9, x145000, x145001, x145002, x145003 => if x9 < (x8.length : Int) then (if x145002 = true then (if x145001 = true then (lazarusref15_Fields.j3 k x0 x3 x4 x5 x6 x8 x9 false x145000 x145001 x145002 x145003) else (if 0 ≤ x9 then ((lazarusref7_Blank.f ((rd_T57 x8 x9).f0)).bind fun t152 => (lazarusref15_Fields.j3 k x0 x3 x4 x5 x6 x8 x9 t152 x145000 x145001 x145002 x145003)) else (none))) else (lazarusref15_Fields.j3 k x0 x3 x4 x5 x6 x8 x9 false x145000 x145001 x145002 x145003)) else (lazarusref15_Fields.l0 k x0 x3 x4 x5 (wrap64 (x6 + 1)))
def lazarusref15_Fields.j3 : Nat → List (S72) → List (List (S57)) → List (S57) → Bool → Int → List (S57) → Int → Bool → ByteArray → Bool → Bool → Bool → Option ((List (List (S57))))
  | 0, _, _, _, _, _, _, _, _, _, _, _, _ => none
  | k + 1, x0, x3, x4, x5, x6, x8, x9, x54, x145000, x145001, x145002, x145003 => if x54 = true then (if x5 = true then (if x3.length < 5864062014805 then (lazarusref15_Fields.l1 k x0 (x3 ++ [x4]) ([] : List (S57)) false x6 x8 (wrap64 (x9 + 1)) x145000 x145001 x145002 x145003) else (none)) else (lazarusref15_Fields.l1 k x0 x3 ([] : List (S57)) false x6 x8 (wrap64 (x9 + 1)) x145000 x145001 x145002 x145003)) else (if 0 ≤ x9 then (if x9 < (x8.length : Int) then (if x4.length < 17592186044416 then (lazarusref15_Fields.l1 k x0 x3 (x4 ++ [(⟨(rd_T57 x8 x9).f0, (rd_T57 x8 x9).f1⟩ : S57)]) true x6 x8 (wrap64 (x9 + 1)) x145000 x145001 x145002 x145003) else (none)) else (none)) else (none))
end
def lazarusref15_Fields.f (k : Nat) (l0 : List (S72)) : Option ((List (List (S57)))) := lazarusref15_Fields.l0 k l0 ([] : List (List (S57))) ([] : List (S57)) false 0
theorem lazarusref15_Fields.mono_l : ∀ k, (∀ y0 y1 y2 y3 y4, LeO (lazarusref15_Fields.l0 k y0 y1 y2 y3 y4) (lazarusref15_Fields.l0 (k + 1) y0 y1 y2 y3 y4)) ∧ (∀ y0 y1 y2 y3 y4 y5 y6 y7 y8, LeO (lazarusref15_Fields.j1 k y0 y1 y2 y3 y4 y5 y6 y7 y8) (lazarusref15_Fields.j1 (k + 1) y0 y1 y2 y3 y4 y5 y6 y7 y8)) ∧ (∀ y0 y1 y2 y3 y4 y5 y6 y7 y8 y9 y10, LeO (lazarusref15_Fields.l1 k y0 y1 y2 y3 y4 y5 y6 y7 y8 y9 y10) (lazarusref15_Fields.l1 (k + 1) y0 y1 y2 y3 y4 y5 y6 y7 y8 y9 y10)) ∧ (∀ y0 y1 y2 y3 y4 y5 y6 y7 y8 y9 y10 y11, LeO (lazarusref15_Fields.j3 k y0 y1 y2 y3 y4 y5 y6 y7 y8 y9 y10 y11) (lazarusref15_Fields.j3 (k + 1) y0 y1 y2 y3 y4 y5 y6 y7 y8 y9 y10 y11))
  | 0 => ⟨fun _ _ _ _ _ r h => by simp [lazarusref15_Fields.l0] at h, fun _ _ _ _ _ _ _ _ _ r h => by simp [lazarusref15_Fields.j1] at h, fun _ _ _ _ _ _ _ _ _ _ _ r h => by simp [lazarusref15_Fields.l1] at h, fun _ _ _ _ _ _ _ _ _ _ _ _ r h => by simp [lazarusref15_Fields.j3] at h⟩
  | k + 1 => by
    obtain ⟨ih0, ih1, ih2, ih3⟩ := lazarusref15_Fields.mono_l k
    refine ⟨?_, ?_, ?_, ?_⟩
    · intro y0 y1 y2 y3 y4
      unfold lazarusref15_Fields.l0
      repeat' first
      | (with_reducible exact ih0 _ _ _ _ _)
      | (with_reducible exact ih1 _ _ _ _ _ _ _ _ _)
      | (with_reducible exact ih2 _ _ _ _ _ _ _ _ _ _ _)
      | (with_reducible exact ih3 _ _ _ _ _ _ _ _ _ _ _ _)
      | (with_reducible exact lazarusref13_Chars.mono _ _ _)
      | (with_reducible exact LeO.refl _)
      | (with_reducible exact LeO.none _)
      | (with_reducible refine LeO.ite ?_ ?_)
      | (with_reducible refine LeO.bind ?_ (fun _ => ?_))
      | exact ih0 _ _ _ _ _
      | exact ih1 _ _ _ _ _ _ _ _ _
      | exact ih2 _ _ _ _ _ _ _ _ _ _ _
      | exact ih3 _ _ _ _ _ _ _ _ _ _ _ _
      | exact lazarusref13_Chars.mono _ _ _
      | exact LeO.none _
      | refine LeO.ite ?_ ?_
      | refine LeO.bind ?_ (fun _ => ?_)
    · intro y0 y1 y2 y3 y4 y5 y6 y7 y8
      unfold lazarusref15_Fields.j1
      repeat' first
      | (with_reducible exact ih0 _ _ _ _ _)
      | (with_reducible exact ih1 _ _ _ _ _ _ _ _ _)
      | (with_reducible exact ih2 _ _ _ _ _ _ _ _ _ _ _)
      | (with_reducible exact ih3 _ _ _ _ _ _ _ _ _ _ _ _)
      | (with_reducible exact lazarusref13_Chars.mono _ _ _)
      | (with_reducible exact LeO.refl _)
      | (with_reducible exact LeO.none _)
      | (with_reducible refine LeO.ite ?_ ?_)
      | (with_reducible refine LeO.bind ?_ (fun _ => ?_))
      | exact ih0 _ _ _ _ _
      | exact ih1 _ _ _ _ _ _ _ _ _
      | exact ih2 _ _ _ _ _ _ _ _ _ _ _
      | exact ih3 _ _ _ _ _ _ _ _ _ _ _ _
      | exact lazarusref13_Chars.mono _ _ _
      | exact LeO.none _
      | refine LeO.ite ?_ ?_
      | refine LeO.bind ?_ (fun _ => ?_)
    · intro y0 y1 y2 y3 y4 y5 y6 y7 y8 y9 y10
      unfold lazarusref15_Fields.l1
      repeat' first
      | (with_reducible exact ih0 _ _ _ _ _)
      | (with_reducible exact ih1 _ _ _ _ _ _ _ _ _)
      | (with_reducible exact ih2 _ _ _ _ _ _ _ _ _ _ _)
      | (with_reducible exact ih3 _ _ _ _ _ _ _ _ _ _ _ _)
      | (with_reducible exact lazarusref13_Chars.mono _ _ _)
      | (with_reducible exact LeO.refl _)
      | (with_reducible exact LeO.none _)
      | (with_reducible refine LeO.ite ?_ ?_)
      | (with_reducible refine LeO.bind ?_ (fun _ => ?_))
      | exact ih0 _ _ _ _ _
      | exact ih1 _ _ _ _ _ _ _ _ _
      | exact ih2 _ _ _ _ _ _ _ _ _ _ _
      | exact ih3 _ _ _ _ _ _ _ _ _ _ _ _
      | exact lazarusref13_Chars.mono _ _ _
      | exact LeO.none _
      | refine LeO.ite ?_ ?_
      | refine LeO.bind ?_ (fun _ => ?_)
    · intro y0 y1 y2 y3 y4 y5 y6 y7 y8 y9 y10 y11
      unfold lazarusref15_Fields.j3
      repeat' first
      | (with_reducible exact ih0 _ _ _ _ _)
      | (with_reducible exact ih1 _ _ _ _ _ _ _ _ _)
      | (with_reducible exact ih2 _ _ _ _ _ _ _ _ _ _ _)
      | (with_reducible exact ih3 _ _ _ _ _ _ _ _ _ _ _ _)
      | (with_reducible exact lazarusref13_Chars.mono _ _ _)
      | (with_reducible exact LeO.refl _)
      | (with_reducible exact LeO.none _)
      | (with_reducible refine LeO.ite ?_ ?_)
      | (with_reducible refine LeO.bind ?_ (fun _ => ?_))
      | exact ih0 _ _ _ _ _
      | exact ih1 _ _ _ _ _ _ _ _ _
      | exact ih2 _ _ _ _ _ _ _ _ _ _ _
      | exact ih3 _ _ _ _ _ _ _ _ _ _ _ _
      | exact lazarusref13_Chars.mono _ _ _
      | exact LeO.none _
      | refine LeO.ite ?_ ?_
      | refine LeO.bind ?_ (fun _ => ?_)
theorem lazarusref15_Fields.mono : ∀ a0 k, LeO (lazarusref15_Fields.f k a0) (lazarusref15_Fields.f (k + 1) a0) := by
  intro a0 k
  obtain ⟨ih0, ih1, ih2, ih3⟩ := lazarusref15_Fields.mono_l k
  unfold lazarusref15_Fields.f
  repeat' first
      | (with_reducible exact ih0 _ _ _ _ _)
      | (with_reducible exact ih1 _ _ _ _ _ _ _ _ _)
      | (with_reducible exact ih2 _ _ _ _ _ _ _ _ _ _ _)
      | (with_reducible exact ih3 _ _ _ _ _ _ _ _ _ _ _ _)
      | (with_reducible exact lazarusref13_Chars.mono _ _ _)
      | (with_reducible exact LeO.refl _)
      | (with_reducible exact LeO.none _)
      | (with_reducible refine LeO.ite ?_ ?_)
      | (with_reducible refine LeO.bind ?_ (fun _ => ?_))
      | exact ih0 _ _ _ _ _
      | exact ih1 _ _ _ _ _ _ _ _ _
      | exact ih2 _ _ _ _ _ _ _ _ _ _ _
      | exact ih3 _ _ _ _ _ _ _ _ _ _ _ _
      | exact lazarusref13_Chars.mono _ _ _
      | exact LeO.none _
      | refine LeO.ite ?_ ?_
      | refine LeO.bind ?_ (fun _ => ?_)
set_option maxHeartbeats 8000000 in
set_option maxRecDepth 100000 in
theorem lazarusref15_Fields.calls (k : Nat) (A0 : Option Addr) (c0 : Nat) (l0 : List (S72)) (r : List (List (S57))) (w : World) (hr0 : Kd.C k72 w A0 l0.length l0) (hc0 : l0.length ≤ c0) (h : lazarusref15_Fields.f k l0 = some r) (hT : Lib.Utf8Tabs 0 1 w) :
    Calls Tryd.prog 38 #[.slice A0 l0.length c0] w fun e w' => ∃ v0_ : Value, e = .returned (v0_) ∧ Kd.R (Kd.slice 57 k57) 33 w' w.heap.size (fun _ => True) v0_ r ∧ Below w.heap.size w w' := by
  have HT := Aside0.mk hT
  clear hT
  have hu72 := Tryd.underlying72
  have hu57 := Tryd.underlying57
  have HR0 := Aside0.mk hr0
  have HC0 := Aside0.mk hc0
  clear hr0 hc0
  have HB := Aside0.mk (Below.refl w.heap.size w)
  have H : (lazarusref15_Fields.l0 k l0 ([] : List (List (S57))) ([] : List (S57)) false 0) = some r := h
  clear h
  have H' := Aside0.mk H
  clear H
  go_enter Tryd.func38, Tryd.ntmps38
  go_wp2
  go_loopg [3, 4, 5, 6] k (fun kq v3 v4 v5 v6 w' => ∃ (x3_1 : List (List (S57))) (x4_1 : List (S57)) (x5_1 : Bool) (x6_1 : Int), v5 = .bool x5_1 ∧ v6 = .int .i64 x6_1 ∧ Aside0 (lazarusref15_Fields.l0 kq l0 x3_1 x4_1 x5_1 x6_1 = some r) ∧ Aside0 (kq ≤ k) ∧ Aside0 (Kd.R (Kd.slice 57 k57) 33 w' w.heap.size (fun k_ => some k_ ≠ (v4 : Value).ownBlock) v3 x3_1) ∧ Aside0 (Kd.R k57 57 w' w.heap.size (fun _ => True) v4 x4_1) ∧ Aside0 (Below w.heap.size w w'))
  case atStart => exact ⟨(([] : List (List (S57)))), (([] : List (S57))), (false), (0), (by first | rfl | (simp; done) | (simp [*]; done) | (simp; unfold wrap64; omega)), (by first | rfl | (simp; done) | (simp [*]; done) | (simp; unfold wrap64; omega)), H', ⟨Nat.le_refl _⟩, ⟨by first | exact Kd.R_nil _ _ _ _ _ | exact Kd.N_nil _ _ _ _ _ | exact Kd.V_nil _ _ _ _ _ | exact Kd.Q_nil _ _ _ _ _ | exact Kd.S_nil _ _ _ _ _⟩, ⟨by first | exact Kd.R_nil _ _ _ _ _ | exact Kd.N_nil _ _ _ _ _ | exact Kd.V_nil _ _ _ _ _ | exact Kd.Q_nil _ _ _ _ _ | exact Kd.S_nil _ _ _ _ _⟩, ⟨by repeat (first | (with_reducible first | exact HB.out | apply below_alloc | apply pw_below_drewN | apply below_drew1) | exact HB.out)⟩⟩
  case round =>
    clear H'
    obtain ⟨x3_1, x4_1, x5_1, x6_1, rfl, rfl, HA, HK1, HO_3, HO_4, HB⟩ := hrel
    cases gk with
    | zero => exact absurd HA.out (by simp [lazarusref15_Fields.l0])
    | succ k1 =>
      have H := HA.out
      clear HA
      simp only [lazarusref15_Fields.l0] at H
      by_cases c2 : x6_1 < (l0.length : Int)
      · rw [if_pos c2] at H
        have c2b0 : decide (x6_1 < (l0.length : Int)) = true := decide_eq_true c2
        clear c2
        by_cases c3 : 0 ≤ x6_1
        · rw [if_pos c3] at H
          have c3b0 : decide (0 ≤ x6_1) = true := decide_eq_true c3
          clear c3
          obtain ⟨bq4, hbq4⟩ : ∃ b_ : Bool, b_ = ((rd_T72 l0 x6_1).f3) := ⟨_, rfl⟩
          replace H : (if bq4 = true then (if x5_1 = true then (if x3_1.length < 5864062014805 then (lazarusref15_Fields.l0 k1 l0 (x3_1 ++ [x4_1]) ([] : List (S57)) false (wrap64 (x6_1 + 1))) else (none)) else (lazarusref15_Fields.l0 k1 l0 x3_1 ([] : List (S57)) false (wrap64 (x6_1 + 1)))) else (if (rd_T72 l0 x6_1).f1 = true then (lazarusref15_Fields.j1 k1 l0 x3_1 x4_1 true x6_1 ((rd_T72 l0 x6_1).f0) ((rd_T72 l0 x6_1).f1) ((rd_T72 l0 x6_1).f2) bq4) else (lazarusref15_Fields.j1 k1 l0 x3_1 x4_1 x5_1 x6_1 ((rd_T72 l0 x6_1).f0) ((rd_T72 l0 x6_1).f1) ((rd_T72 l0 x6_1).f2) bq4))) = some r := by rw [← hbq4] at H; exact H
          have Nbq4 := Aside0.mk hbq4
          clear hbq4
          by_cases c5 : bq4 = true
          · subst c5
            have H1 : (if x5_1 = true then (if x3_1.length < 5864062014805 then (lazarusref15_Fields.l0 k1 l0 (x3_1 ++ [x4_1]) ([] : List (S57)) false (wrap64 (x6_1 + 1))) else (none)) else (lazarusref15_Fields.l0 k1 l0 x3_1 ([] : List (S57)) false (wrap64 (x6_1 + 1)))) = some r := by rw [if_pos rfl] at H; exact H
            clear H
            have H := H1
            clear H1
            by_cases c6 : x5_1 = true
            · subst c6
              have H1 : (if x3_1.length < 5864062014805 then (lazarusref15_Fields.l0 k1 l0 (x3_1 ++ [x4_1]) ([] : List (S57)) false (wrap64 (x6_1 + 1))) else (none)) = some r := by rw [if_pos rfl] at H; exact H
              clear H
              have H := H1
              clear H1
              by_cases c7 : x3_1.length < 5864062014805
              · rw [if_pos c7] at H
                have LMc7 := Aside0.mk c7
                clear c7
                obtain ⟨y145, hy145⟩ : ∃ y_ : List (List (S57)), y_ = (x3_1 ++ [x4_1]) := ⟨_, rfl⟩
                replace H : (lazarusref15_Fields.l0 k1 l0 y145 ([] : List (S57)) false (wrap64 (x6_1 + 1))) = some r := by first | (rw [hy145]; with_reducible exact H) | (have H2_ := (Option.bind_some _ _).symm.trans H; rw [hy145]; with_reducible exact H2_) | (have H2_ := (Option.bind_some _ _).symm.trans H; with_reducible exact H2_) | with_reducible exact H | (rw [hy145]; exact H) | exact H
                have Ny145 := Aside0.mk hy145
                clear hy145
                have H' := Aside0.mk H
                clear H
                have p143 : 0 ≤ (x6_1 : Int) := of_decide_eq_true (by first | (with_reducible assumption) | assumption)
                have q143 : x6_1 < (l0.length : Int) := of_decide_eq_true (by first | (with_reducible assumption) | assumption)
                obtain ⟨ad143, e143, hx143_0, hx143_1, hx143_2, hx143_3⟩ := at_T72 HR0.out x6_1 p143 q143
                (try rw [← Nbq4.out] at hx143_1)
                (try rw [← Nbq4.out] at hw143_1)
                (try rw [← Nbq4.out] at hx143_2)
                (try rw [← Nbq4.out] at hw143_2)
                (try rw [← Nbq4.out] at hx143_3)
                (try rw [← Nbq4.out] at hw143_3)
                cases e143
                replace hx143_0 := (HB.out.cell (World.block_lt_of_cell? w _ hx143_0)).trans hx143_0
                replace hx143_1 := (HB.out.cell (World.block_lt_of_cell? w _ hx143_1)).trans hx143_1
                replace hx143_2 := (HB.out.cell (World.block_lt_of_cell? w _ hx143_2)).trans hx143_2
                replace hx143_3 := (HB.out.cell (World.block_lt_of_cell? w _ hx143_3)).trans hx143_3
                replace p143 := eq_true p143
                replace q143 := eq_true q143
                go_wp2_with (first | ((with_reducible refine gate_dst (N := 7) rfl ?_); refine box_event ?hg (N := 7) ?hd (cs := #[.string (⟨#[]⟩ : ByteArray), .bool false, .bool false, .bool false]) (t := 72) ?hr ?_; (case hd => rfl); (case hg => rfl); (case hr => first | (go_simp; done) | (go_simp; rfl)); intro gb144 hg w8 hbox hb; have n0_ := Aside0.mk (Kd.R_below (by (with_reducible repeat (first | apply Kd.R_alloc | apply Kd.R_drewN | apply Kd.R_drew)); exact HO_3.out) hb); have n1_ := Aside0.mk (Kd.R_below (by (with_reducible repeat (first | apply Kd.R_alloc | apply Kd.R_drewN | apply Kd.R_drew)); exact HO_4.out) hb); have n2_ := Aside0.mk (below_step (by repeat (first | (with_reducible first | exact HB.out | apply below_alloc | apply pw_below_drewN | apply below_drew1) | exact HB.out)) hb); have n3_ := Aside0.mk (hbox); have n4_ := Aside0.mk ((by rw [hg]; exact (below_size (by repeat (first | (with_reducible first | exact HB.out | apply below_alloc | apply pw_below_drewN | apply below_drew1) | exact HB.out))) : w.heap.size ≤ gb144)); have n5_ := Aside0.mk ((by rw [hg]; exact (below_size (by repeat (first | (with_reducible first | exact HB.out | apply below_alloc | apply pw_below_drewN | apply below_drew1) | exact HB.out))) : w.heap.size ≤ gb144)); clear HO_3; clear HO_4; clear HB; have HO_3 := n0_; have HO_4 := n1_; have HB := n2_; have BK144 := n3_; have GW144 := n4_; have GE144 := n5_; clear n0_ n1_ n2_ n3_ n4_ n5_; clear hb hbox hg; have hcz9_0 : w8.cell? ⟨gb144, 0, none⟩ = some (.string (⟨#[]⟩ : ByteArray)) := (blk_cell BK144.out 0).trans rfl; have hcz9_1 : w8.cell? ⟨gb144, 1, none⟩ = some (.bool false) := (blk_cell BK144.out 1).trans rfl; have hcz9_2 : w8.cell? ⟨gb144, 2, none⟩ = some (.bool false) := (blk_cell BK144.out 2).trans rfl; have hcz9_3 : w8.cell? ⟨gb144, 3, none⟩ = some (.bool false) := (blk_cell BK144.out 3).trans rfl; have hfz9_0 := blk_frozen BK144.out 0; have hfz9_1 := blk_frozen BK144.out 1; have hfz9_2 := blk_frozen BK144.out 2; have hfz9_3 := blk_frozen BK144.out 3) | ((with_reducible refine gate_store (t := 72) (p := 7) rfl ?_); refine store_event (t := 72) (p := 7) (v := ?vo_w10) (w1 := ((((w8.setCell ⟨gb144, 0, none⟩ (.string ((rd_T72 l0 x6_1).f0))).setCell ⟨gb144, 1, none⟩ (.bool ((rd_T72 l0 x6_1).f1))).setCell ⟨gb144, 2, none⟩ (.bool ((rd_T72 l0 x6_1).f2))).setCell ⟨gb144, 3, none⟩ (.bool true))) ?hg ?ho ?hn ?hr ?_; (case ho => rfl); (case hg => rfl); (case hn => rfl); (case hr => first | (go_simp; done) | (go_simp; rfl)); intro w10 hw; have n0_ : Aside0 (Kd.R (Kd.slice 57 k57) 33 w10 w.heap.size (fun k_ => some k_ ≠ (u4 : Value).ownBlock) u3 x3_1) := ⟨(by rw [hw]; exact (by (with_reducible repeat (first | apply Kd.R_alloc | apply Kd.R_drewN | apply Kd.R_drew)); exact Kd.R_mono (Kd.R_far (p := ⟨gb144, 3, none⟩) (Kd.R_far (p := ⟨gb144, 2, none⟩) (Kd.R_far (p := ⟨gb144, 1, none⟩) (Kd.R_far (p := ⟨gb144, 0, none⟩) (Kd.R_types HO_3.out BK144.out (by decide)) (fun _ hk => hk.2) (.string ((rd_T72 l0 x6_1).f0))) (fun _ hk => hk.2) (.bool ((rd_T72 l0 x6_1).f1))) (fun _ hk => hk.2) (.bool ((rd_T72 l0 x6_1).f2))) (fun _ hk => hk.2) (.bool true)) (fun _ hk => hk.1)))⟩; have n1_ : Aside0 (Kd.R k57 57 w10 w.heap.size (fun _ => True) u4 x4_1) := ⟨(by rw [hw]; exact (by (with_reducible repeat (first | apply Kd.R_alloc | apply Kd.R_drewN | apply Kd.R_drew)); exact Kd.R_mono (Kd.R_far (p := ⟨gb144, 3, none⟩) (Kd.R_far (p := ⟨gb144, 2, none⟩) (Kd.R_far (p := ⟨gb144, 1, none⟩) (Kd.R_far (p := ⟨gb144, 0, none⟩) (Kd.R_types HO_4.out BK144.out (by decide)) (fun _ hk => hk.2) (.string ((rd_T72 l0 x6_1).f0))) (fun _ hk => hk.2) (.bool ((rd_T72 l0 x6_1).f1))) (fun _ hk => hk.2) (.bool ((rd_T72 l0 x6_1).f2))) (fun _ hk => hk.2) (.bool true)) (fun _ hk => trivial)))⟩; have n2_ : Aside0 (w10.heap[gb144]? = some (.cells #[.string ((rd_T72 l0 x6_1).f0), .bool ((rd_T72 l0 x6_1).f1), .bool ((rd_T72 l0 x6_1).f2), .bool true] 72 (0, 0))) := ⟨(by rw [hw]; exact (by (with_reducible repeat (first | refine blk_drewN ?_ _ | refine blk_drew ?_ | refine blk_alloc ?_ _)); refine blk_put (cs := #[.string ((rd_T72 l0 x6_1).f0), .bool ((rd_T72 l0 x6_1).f1), .bool ((rd_T72 l0 x6_1).f2), .bool false]) ?_ 3 _ rfl; (with_reducible repeat (first | refine blk_drewN ?_ _ | refine blk_drew ?_ | refine blk_alloc ?_ _)); refine blk_put (cs := #[.string ((rd_T72 l0 x6_1).f0), .bool ((rd_T72 l0 x6_1).f1), .bool false, .bool false]) ?_ 2 _ rfl; (with_reducible repeat (first | refine blk_drewN ?_ _ | refine blk_drew ?_ | refine blk_alloc ?_ _)); refine blk_put (cs := #[.string ((rd_T72 l0 x6_1).f0), .bool false, .bool false, .bool false]) ?_ 1 _ rfl; (with_reducible repeat (first | refine blk_drewN ?_ _ | refine blk_drew ?_ | refine blk_alloc ?_ _)); refine blk_put (cs := #[.string (⟨#[]⟩ : ByteArray), .bool false, .bool false, .bool false]) ?_ 0 _ rfl; (with_reducible repeat (first | refine blk_drewN ?_ _ | refine blk_drew ?_ | refine blk_alloc ?_ _)); exact BK144.out))⟩; have n3_ : Aside0 (Below w.heap.size w w10) := ⟨(by rw [hw]; exact (by repeat (first | (with_reducible first | exact HB.out | apply below_alloc | apply pw_below_drewN | apply below_drew1 | refine below_set ?_ GE144.out) | exact HB.out)))⟩; clear hw; clear HO_3; clear HO_4; clear BK144; clear HB; have HO_3 := n0_; have HO_4 := n1_; have BK144 := n2_; have HB := n3_; clear n0_ n1_ n2_ n3_; have hcz11_0 : w10.cell? ⟨gb144, 0, none⟩ = some (.string ((rd_T72 l0 x6_1).f0)) := (blk_cell BK144.out 0).trans rfl; have hcz11_1 : w10.cell? ⟨gb144, 1, none⟩ = some (.bool ((rd_T72 l0 x6_1).f1)) := (blk_cell BK144.out 1).trans rfl; have hcz11_2 : w10.cell? ⟨gb144, 2, none⟩ = some (.bool ((rd_T72 l0 x6_1).f2)) := (blk_cell BK144.out 2).trans rfl; have hcz11_3 : w10.cell? ⟨gb144, 3, none⟩ = some (.bool true) := (blk_cell BK144.out 3).trans rfl; have hfz11_0 := blk_frozen BK144.out 0; have hfz11_1 := blk_frozen BK144.out 1; have hfz11_2 := blk_frozen BK144.out 2; have hfz11_3 := blk_frozen BK144.out 3; obtain ⟨Ao13, co13, eo13⟩ := Kd.R_slice HO_4.out; subst eo13) | ((with_reducible refine gate_builtin (b := .append) (xs := #[.tmp 23, .tmp 25]) rfl ?_); at_builtin; refine Kd.R_append (Kd.slice 57 k57) (w0 := w) w.heap.size rfl (.tmp 23) (.tmp 25) 43 33 (.slice none 0 0) 24 rfl Tryd.underlying43 info33 rfl (by decide) (by omega) u3 x3_1 x4_1 [.slice Ao13 x4_1.length co13] (fun _ => True) (fun k_ => ((fun _ => True)) k_ ∧ some k_ ≠ (u3 : Value).ownBlock) rfl rfl ?aP (fun _ hk => hk) ?aF ?aO ?aB ?aS ?aL ?_; (case aP => exact Kd.M_row (Kd.R_mono (Kd.R_apart' (HO_4.out) (Kd.R_typed HO_3.out) (by decide)) (fun k_ hk => ⟨trivial, hk.2⟩))); (case aB => exact (by repeat (first | (with_reducible first | exact HB.out | apply below_alloc | apply pw_below_drewN | apply below_drew1 | refine below_set ?_ GE144.out) | exact HB.out))); (case aF => exact (fun _ _ => trivial)); (case aO => exact (by (with_reducible repeat (first | apply Kd.R_alloc | apply Kd.R_drewN | apply Kd.R_drew)); exact Kd.R_mono HO_3.out (fun _ hk => trivial))); (case aS => exact (below_size (by repeat (first | (with_reducible first | exact HB.out | apply below_alloc | apply pw_below_drewN | apply below_drew1 | refine below_set ?_ GE144.out) | exact HB.out)))); (case aL => have := LMc7.out; omega); intro v146 w12 ho hb hg hat; rw [← Ny145.out] at ho; have n0_ := Aside0.mk (blk_grown (g := gb144) (o := .cells #[.string ((rd_T72 l0 x6_1).f0), .bool ((rd_T72 l0 x6_1).f1), .bool ((rd_T72 l0 x6_1).f2), .bool true] 72 (0, 0)) (by (with_reducible repeat (first | refine blk_drewN ?_ _ | refine blk_drew ?_ | refine blk_alloc ?_ _)); exact BK144.out) hg (Kd.R_ne HO_3.out BK144.out (by decide))); have n1_ := Aside0.mk (hb); have n2_ := Aside0.mk (ho); clear BK144; clear HB; clear HO_3; clear HO_4; have BK144 := n0_; have HB := n1_; have HO147 := n2_; clear n0_ n1_ n2_; clear ho hb hg hat))
                go_roundg k1
                case measure => have := HK1.out; omega
                case rel => (try simp only [← Nbq4.out]); exact ⟨(y145), (([] : List (S57))), (false), (wrap64 (x6_1 + 1)), (by first | rfl | (simp; done) | (simp [*]; done) | (simp; unfold wrap64; omega)), (by first | rfl | (simp; done) | (simp [*]; done) | (simp; unfold wrap64; omega)), H', ⟨by have := HK1.out; omega⟩, ⟨by (with_reducible repeat (first | apply Kd.R_alloc | apply Kd.R_drewN | apply Kd.R_drew)); exact Kd.R_mono HO147.out (fun _ hk => (by simp [Value.ownBlock]))⟩, ⟨by first | exact Kd.R_nil _ _ _ _ _ | exact Kd.N_nil _ _ _ _ _ | exact Kd.V_nil _ _ _ _ _ | exact Kd.Q_nil _ _ _ _ _ | exact Kd.S_nil _ _ _ _ _⟩, ⟨by repeat (first | (with_reducible first | exact HB.out | apply below_alloc | apply pw_below_drewN | apply below_drew1 | refine below_set ?_ GE144.out) | exact HB.out)⟩⟩
              · rw [if_neg c7] at H
                exact absurd H (by simp)
            · replace c6 := Bool.eq_false_iff.mpr c6
              subst c6
              have H1 : (lazarusref15_Fields.l0 k1 l0 x3_1 ([] : List (S57)) false (wrap64 (x6_1 + 1))) = some r := by rw [if_neg (show ¬ (false = true) by decide)] at H; exact H
              clear H
              have H := H1
              clear H1
              have H' := Aside0.mk H
              clear H
              have p143 : 0 ≤ (x6_1 : Int) := of_decide_eq_true (by first | (with_reducible assumption) | assumption)
              have q143 : x6_1 < (l0.length : Int) := of_decide_eq_true (by first | (with_reducible assumption) | assumption)
              obtain ⟨ad143, e143, hx143_0, hx143_1, hx143_2, hx143_3⟩ := at_T72 HR0.out x6_1 p143 q143
              (try rw [← Nbq4.out] at hx143_1)
              (try rw [← Nbq4.out] at hw143_1)
              (try rw [← Nbq4.out] at hx143_2)
              (try rw [← Nbq4.out] at hw143_2)
              (try rw [← Nbq4.out] at hx143_3)
              (try rw [← Nbq4.out] at hw143_3)
              cases e143
              replace hx143_0 := (HB.out.cell (World.block_lt_of_cell? w _ hx143_0)).trans hx143_0
              replace hx143_1 := (HB.out.cell (World.block_lt_of_cell? w _ hx143_1)).trans hx143_1
              replace hx143_2 := (HB.out.cell (World.block_lt_of_cell? w _ hx143_2)).trans hx143_2
              replace hx143_3 := (HB.out.cell (World.block_lt_of_cell? w _ hx143_3)).trans hx143_3
              replace p143 := eq_true p143
              replace q143 := eq_true q143
              go_wp2_with (first | ((with_reducible refine gate_dst (N := 7) rfl ?_); refine box_event ?hg (N := 7) ?hd (cs := #[.string (⟨#[]⟩ : ByteArray), .bool false, .bool false, .bool false]) (t := 72) ?hr ?_; (case hd => rfl); (case hg => rfl); (case hr => first | (go_simp; done) | (go_simp; rfl)); intro gb144 hg w14 hbox hb; have n0_ := Aside0.mk (Kd.R_below (by (with_reducible repeat (first | apply Kd.R_alloc | apply Kd.R_drewN | apply Kd.R_drew)); exact HO_3.out) hb); have n1_ := Aside0.mk (Kd.R_below (by (with_reducible repeat (first | apply Kd.R_alloc | apply Kd.R_drewN | apply Kd.R_drew)); exact HO_4.out) hb); have n2_ := Aside0.mk (below_step (by repeat (first | (with_reducible first | exact HB.out | apply below_alloc | apply pw_below_drewN | apply below_drew1) | exact HB.out)) hb); have n3_ := Aside0.mk (hbox); have n4_ := Aside0.mk ((by rw [hg]; exact (below_size (by repeat (first | (with_reducible first | exact HB.out | apply below_alloc | apply pw_below_drewN | apply below_drew1) | exact HB.out))) : w.heap.size ≤ gb144)); have n5_ := Aside0.mk ((by rw [hg]; exact (below_size (by repeat (first | (with_reducible first | exact HB.out | apply below_alloc | apply pw_below_drewN | apply below_drew1) | exact HB.out))) : w.heap.size ≤ gb144)); clear HO_3; clear HO_4; clear HB; have HO_3 := n0_; have HO_4 := n1_; have HB := n2_; have BK144 := n3_; have GW144 := n4_; have GE144 := n5_; clear n0_ n1_ n2_ n3_ n4_ n5_; clear hb hbox hg; have hcz15_0 : w14.cell? ⟨gb144, 0, none⟩ = some (.string (⟨#[]⟩ : ByteArray)) := (blk_cell BK144.out 0).trans rfl; have hcz15_1 : w14.cell? ⟨gb144, 1, none⟩ = some (.bool false) := (blk_cell BK144.out 1).trans rfl; have hcz15_2 : w14.cell? ⟨gb144, 2, none⟩ = some (.bool false) := (blk_cell BK144.out 2).trans rfl; have hcz15_3 : w14.cell? ⟨gb144, 3, none⟩ = some (.bool false) := (blk_cell BK144.out 3).trans rfl; have hfz15_0 := blk_frozen BK144.out 0; have hfz15_1 := blk_frozen BK144.out 1; have hfz15_2 := blk_frozen BK144.out 2; have hfz15_3 := blk_frozen BK144.out 3))
              go_roundg k1
              case measure => have := HK1.out; omega
              case rel => (try simp only [← Nbq4.out]); exact ⟨(x3_1), (([] : List (S57))), (false), (wrap64 (x6_1 + 1)), (by first | rfl | (simp; done) | (simp [*]; done) | (simp; unfold wrap64; omega)), (by first | rfl | (simp; done) | (simp [*]; done) | (simp; unfold wrap64; omega)), H', ⟨by have := HK1.out; omega⟩, ⟨by (with_reducible repeat (first | apply Kd.R_alloc | apply Kd.R_drewN | apply Kd.R_drew)); exact Kd.R_mono (Kd.R_far (p := ⟨gb144, 3, none⟩) (Kd.R_far (p := ⟨gb144, 2, none⟩) (Kd.R_far (p := ⟨gb144, 1, none⟩) (Kd.R_far (p := ⟨gb144, 0, none⟩) (Kd.R_types HO_3.out BK144.out (by decide)) (fun _ hk => hk.2) (.string ((rd_T72 l0 x6_1).f0))) (fun _ hk => hk.2) (.bool ((rd_T72 l0 x6_1).f1))) (fun _ hk => hk.2) (.bool ((rd_T72 l0 x6_1).f2))) (fun _ hk => hk.2) (.bool true)) (fun _ hk => (by simp [Value.ownBlock]))⟩, ⟨by first | exact Kd.R_nil _ _ _ _ _ | exact Kd.N_nil _ _ _ _ _ | exact Kd.V_nil _ _ _ _ _ | exact Kd.Q_nil _ _ _ _ _ | exact Kd.S_nil _ _ _ _ _⟩, ⟨by repeat (first | (with_reducible first | exact HB.out | apply below_alloc | apply pw_below_drewN | apply below_drew1 | refine below_set ?_ GE144.out) | exact HB.out)⟩⟩
          · replace c5 := Bool.eq_false_iff.mpr c5
            subst c5
            have H1 : (if (rd_T72 l0 x6_1).f1 = true then (lazarusref15_Fields.j1 k1 l0 x3_1 x4_1 true x6_1 ((rd_T72 l0 x6_1).f0) ((rd_T72 l0 x6_1).f1) ((rd_T72 l0 x6_1).f2) false) else (lazarusref15_Fields.j1 k1 l0 x3_1 x4_1 x5_1 x6_1 ((rd_T72 l0 x6_1).f0) ((rd_T72 l0 x6_1).f1) ((rd_T72 l0 x6_1).f2) false)) = some r := by rw [if_neg (show ¬ (false = true) by decide)] at H; exact H
            clear H
            have H := H1
            clear H1
            have HC16 := Aside0.mk H
            clear H
            have p143 : 0 ≤ (x6_1 : Int) := of_decide_eq_true (by first | (with_reducible assumption) | assumption)
            have q143 : x6_1 < (l0.length : Int) := of_decide_eq_true (by first | (with_reducible assumption) | assumption)
            obtain ⟨ad143, e143, hx143_0, hx143_1, hx143_2, hx143_3⟩ := at_T72 HR0.out x6_1 p143 q143
            (try rw [← Nbq4.out] at hx143_1)
            (try rw [← Nbq4.out] at hw143_1)
            (try rw [← Nbq4.out] at hx143_2)
            (try rw [← Nbq4.out] at hw143_2)
            (try rw [← Nbq4.out] at hx143_3)
            (try rw [← Nbq4.out] at hw143_3)
            cases e143
            replace hx143_0 := (HB.out.cell (World.block_lt_of_cell? w _ hx143_0)).trans hx143_0
            replace hx143_1 := (HB.out.cell (World.block_lt_of_cell? w _ hx143_1)).trans hx143_1
            replace hx143_2 := (HB.out.cell (World.block_lt_of_cell? w _ hx143_2)).trans hx143_2
            replace hx143_3 := (HB.out.cell (World.block_lt_of_cell? w _ hx143_3)).trans hx143_3
            replace p143 := eq_true p143
            replace q143 := eq_true q143
            go_upto_if 28 with (first | ((with_reducible refine gate_dst (N := 7) rfl ?_); refine box_event ?hg (N := 7) ?hd (cs := #[.string (⟨#[]⟩ : ByteArray), .bool false, .bool false, .bool false]) (t := 72) ?hr ?_; (case hd => rfl); (case hg => rfl); (case hr => first | (go_simp; done) | (go_simp; rfl)); intro gb144 hg w17 hbox hb; have n0_ := Aside0.mk (Kd.R_below (by (with_reducible repeat (first | apply Kd.R_alloc | apply Kd.R_drewN | apply Kd.R_drew)); exact HO_3.out) hb); have n1_ := Aside0.mk (Kd.R_below (by (with_reducible repeat (first | apply Kd.R_alloc | apply Kd.R_drewN | apply Kd.R_drew)); exact HO_4.out) hb); have n2_ := Aside0.mk (below_step (by repeat (first | (with_reducible first | exact HB.out | apply below_alloc | apply pw_below_drewN | apply below_drew1) | exact HB.out)) hb); have n3_ := Aside0.mk (hbox); have n4_ := Aside0.mk ((by rw [hg]; exact (below_size (by repeat (first | (with_reducible first | exact HB.out | apply below_alloc | apply pw_below_drewN | apply below_drew1) | exact HB.out))) : w.heap.size ≤ gb144)); have n5_ := Aside0.mk ((by rw [hg]; exact (below_size (by repeat (first | (with_reducible first | exact HB.out | apply below_alloc | apply pw_below_drewN | apply below_drew1) | exact HB.out))) : w.heap.size ≤ gb144)); clear HO_3; clear HO_4; clear HB; have HO_3 := n0_; have HO_4 := n1_; have HB := n2_; have BK144 := n3_; have GW144 := n4_; have GE144 := n5_; clear n0_ n1_ n2_ n3_ n4_ n5_; clear hb hbox hg; have hcz18_0 : w17.cell? ⟨gb144, 0, none⟩ = some (.string (⟨#[]⟩ : ByteArray)) := (blk_cell BK144.out 0).trans rfl; have hcz18_1 : w17.cell? ⟨gb144, 1, none⟩ = some (.bool false) := (blk_cell BK144.out 1).trans rfl; have hcz18_2 : w17.cell? ⟨gb144, 2, none⟩ = some (.bool false) := (blk_cell BK144.out 2).trans rfl; have hcz18_3 : w17.cell? ⟨gb144, 3, none⟩ = some (.bool false) := (blk_cell BK144.out 3).trans rfl; have hfz18_0 := blk_frozen BK144.out 0; have hfz18_1 := blk_frozen BK144.out 1; have hfz18_2 := blk_frozen BK144.out 2; have hfz18_3 := blk_frozen BK144.out 3))
            (try simp only [Act.put, List.setIfInBounds_toArray, List.set_cons_zero, List.set_cons_succ])
            go_cut [5] (fun v5 wc => ∃ (kq : Nat) (x5_15 : Bool), v5 = .bool x5_15 ∧ Aside0 (lazarusref15_Fields.j1 kq l0 x3_1 x4_1 x5_15 x6_1 ((rd_T72 l0 x6_1).f0) ((rd_T72 l0 x6_1).f1) ((rd_T72 l0 x6_1).f2) false = some r) ∧ Aside0 (kq ≤ k1) ∧ Aside0 (Kd.R (Kd.slice 57 k57) 33 wc w.heap.size (fun k_ => some k_ ≠ (u4 : Value).ownBlock) u3 x3_1) ∧ Aside0 (Kd.R k57 57 wc w.heap.size (fun _ => True) u4 x4_1) ∧ Aside0 (wc.heap[gb144]? = some (.cells #[.string ((rd_T72 l0 x6_1).f0), .bool ((rd_T72 l0 x6_1).f1), .bool ((rd_T72 l0 x6_1).f2), .bool false] 72 (0, 0))) ∧ Aside0 (Below w.heap.size w wc))
            case first =>
              have H := HC16.out
              clear HC16
              obtain ⟨bq19, hbq19⟩ : ∃ b_ : Bool, b_ = ((rd_T72 l0 x6_1).f1) := ⟨_, rfl⟩
              replace H : (if bq19 = true then (lazarusref15_Fields.j1 k1 l0 x3_1 x4_1 true x6_1 ((rd_T72 l0 x6_1).f0) bq19 ((rd_T72 l0 x6_1).f2) false) else (lazarusref15_Fields.j1 k1 l0 x3_1 x4_1 x5_1 x6_1 ((rd_T72 l0 x6_1).f0) bq19 ((rd_T72 l0 x6_1).f2) false)) = some r := by rw [← hbq19] at H; exact H
              have Nbq19 := Aside0.mk hbq19
              clear hbq19
              (try rw [← Nbq19.out])
              by_cases c20 : bq19 = true
              · subst c20
                have H1 : (lazarusref15_Fields.j1 k1 l0 x3_1 x4_1 true x6_1 ((rd_T72 l0 x6_1).f0) true ((rd_T72 l0 x6_1).f2) false) = some r := by rw [if_pos rfl] at H; exact H
                clear H
                have H := H1
                clear H1
                have H' := Aside0.mk H
                clear H
                go_wp2
                go_meet
                case rel => (try simp only [← Nbq19.out]); exact ⟨_, (true), (by first | rfl | (simp; done) | (simp [*]; done) | (simp; unfold wrap64; omega)), H', ⟨by have := HK1.out; first | omega | exact Nat.le_refl _⟩, ⟨by (with_reducible repeat (first | apply Kd.R_alloc | apply Kd.R_drewN | apply Kd.R_drew)); exact Kd.R_mono (Kd.R_far (p := ⟨gb144, 3, none⟩) (Kd.R_far (p := ⟨gb144, 2, none⟩) (Kd.R_far (p := ⟨gb144, 1, none⟩) (Kd.R_far (p := ⟨gb144, 0, none⟩) (Kd.R_types HO_3.out BK144.out (by decide)) (fun _ hk => hk.2) (.string ((rd_T72 l0 x6_1).f0))) (fun _ hk => hk.2) (.bool (true))) (fun _ hk => hk.2) (.bool ((rd_T72 l0 x6_1).f2))) (fun _ hk => hk.2) (.bool false)) (fun _ hk => hk.1)⟩, ⟨by (with_reducible repeat (first | apply Kd.R_alloc | apply Kd.R_drewN | apply Kd.R_drew)); exact Kd.R_mono (Kd.R_far (p := ⟨gb144, 3, none⟩) (Kd.R_far (p := ⟨gb144, 2, none⟩) (Kd.R_far (p := ⟨gb144, 1, none⟩) (Kd.R_far (p := ⟨gb144, 0, none⟩) (Kd.R_types HO_4.out BK144.out (by decide)) (fun _ hk => hk.2) (.string ((rd_T72 l0 x6_1).f0))) (fun _ hk => hk.2) (.bool (true))) (fun _ hk => hk.2) (.bool ((rd_T72 l0 x6_1).f2))) (fun _ hk => hk.2) (.bool false)) (fun _ hk => trivial)⟩, ⟨by (with_reducible repeat (first | refine blk_drewN ?_ _ | refine blk_drew ?_ | refine blk_alloc ?_ _)); refine blk_put (cs := #[.string ((rd_T72 l0 x6_1).f0), .bool (true), .bool ((rd_T72 l0 x6_1).f2), .bool false]) ?_ 3 _ rfl; (with_reducible repeat (first | refine blk_drewN ?_ _ | refine blk_drew ?_ | refine blk_alloc ?_ _)); refine blk_put (cs := #[.string ((rd_T72 l0 x6_1).f0), .bool (true), .bool false, .bool false]) ?_ 2 _ rfl; (with_reducible repeat (first | refine blk_drewN ?_ _ | refine blk_drew ?_ | refine blk_alloc ?_ _)); refine blk_put (cs := #[.string ((rd_T72 l0 x6_1).f0), .bool false, .bool false, .bool false]) ?_ 1 _ rfl; (with_reducible repeat (first | refine blk_drewN ?_ _ | refine blk_drew ?_ | refine blk_alloc ?_ _)); refine blk_put (cs := #[.string (⟨#[]⟩ : ByteArray), .bool false, .bool false, .bool false]) ?_ 0 _ rfl; (with_reducible repeat (first | refine blk_drewN ?_ _ | refine blk_drew ?_ | refine blk_alloc ?_ _)); exact BK144.out⟩, ⟨by repeat (first | (with_reducible first | exact HB.out | apply below_alloc | apply pw_below_drewN | apply below_drew1 | refine below_set ?_ GE144.out) | exact HB.out)⟩⟩
              · replace c20 := Bool.eq_false_iff.mpr c20
                subst c20
                have H1 : (lazarusref15_Fields.j1 k1 l0 x3_1 x4_1 x5_1 x6_1 ((rd_T72 l0 x6_1).f0) false ((rd_T72 l0 x6_1).f2) false) = some r := by rw [if_neg (show ¬ (false = true) by decide)] at H; exact H
                clear H
                have H := H1
                clear H1
                have H' := Aside0.mk H
                clear H
                go_wp2
                go_meet
                case rel => (try simp only [← Nbq19.out]); exact ⟨_, (x5_1), (by first | rfl | (simp; done) | (simp [*]; done) | (simp; unfold wrap64; omega)), H', ⟨by have := HK1.out; first | omega | exact Nat.le_refl _⟩, ⟨by (with_reducible repeat (first | apply Kd.R_alloc | apply Kd.R_drewN | apply Kd.R_drew)); exact Kd.R_mono (Kd.R_far (p := ⟨gb144, 3, none⟩) (Kd.R_far (p := ⟨gb144, 2, none⟩) (Kd.R_far (p := ⟨gb144, 1, none⟩) (Kd.R_far (p := ⟨gb144, 0, none⟩) (Kd.R_types HO_3.out BK144.out (by decide)) (fun _ hk => hk.2) (.string ((rd_T72 l0 x6_1).f0))) (fun _ hk => hk.2) (.bool (false))) (fun _ hk => hk.2) (.bool ((rd_T72 l0 x6_1).f2))) (fun _ hk => hk.2) (.bool false)) (fun _ hk => hk.1)⟩, ⟨by (with_reducible repeat (first | apply Kd.R_alloc | apply Kd.R_drewN | apply Kd.R_drew)); exact Kd.R_mono (Kd.R_far (p := ⟨gb144, 3, none⟩) (Kd.R_far (p := ⟨gb144, 2, none⟩) (Kd.R_far (p := ⟨gb144, 1, none⟩) (Kd.R_far (p := ⟨gb144, 0, none⟩) (Kd.R_types HO_4.out BK144.out (by decide)) (fun _ hk => hk.2) (.string ((rd_T72 l0 x6_1).f0))) (fun _ hk => hk.2) (.bool (false))) (fun _ hk => hk.2) (.bool ((rd_T72 l0 x6_1).f2))) (fun _ hk => hk.2) (.bool false)) (fun _ hk => trivial)⟩, ⟨by (with_reducible repeat (first | refine blk_drewN ?_ _ | refine blk_drew ?_ | refine blk_alloc ?_ _)); refine blk_put (cs := #[.string ((rd_T72 l0 x6_1).f0), .bool (false), .bool ((rd_T72 l0 x6_1).f2), .bool false]) ?_ 3 _ rfl; (with_reducible repeat (first | refine blk_drewN ?_ _ | refine blk_drew ?_ | refine blk_alloc ?_ _)); refine blk_put (cs := #[.string ((rd_T72 l0 x6_1).f0), .bool (false), .bool false, .bool false]) ?_ 2 _ rfl; (with_reducible repeat (first | refine blk_drewN ?_ _ | refine blk_drew ?_ | refine blk_alloc ?_ _)); refine blk_put (cs := #[.string ((rd_T72 l0 x6_1).f0), .bool false, .bool false, .bool false]) ?_ 1 _ rfl; (with_reducible repeat (first | refine blk_drewN ?_ _ | refine blk_drew ?_ | refine blk_alloc ?_ _)); refine blk_put (cs := #[.string (⟨#[]⟩ : ByteArray), .bool false, .bool false, .bool false]) ?_ 0 _ rfl; (with_reducible repeat (first | refine blk_drewN ?_ _ | refine blk_drew ?_ | refine blk_alloc ?_ _)); exact BK144.out⟩, ⟨by repeat (first | (with_reducible first | exact HB.out | apply below_alloc | apply pw_below_drewN | apply below_drew1 | refine below_set ?_ GE144.out) | exact HB.out)⟩⟩
            case rest =>
              clear HC16
              try clear p1
              try clear q1
              try clear hx1
              try clear c2
              try clear c2b0
              try clear p2
              try clear c3
              try clear c3b0
              try clear q4
              try clear c5
              try clear c6
              try clear p6
              try clear c7
              try clear p14
              try clear q14
              try clear hx14
              try clear q19
              try clear c20
              try clear hcz11_0
              try clear hcz11_1
              try clear hcz11_2
              try clear hcz11_3
              try clear hcz15_0
              try clear hcz15_1
              try clear hcz15_2
              try clear hcz15_3
              try clear hcz18_0
              try clear hcz18_1
              try clear hcz18_2
              try clear hcz18_3
              try clear hcz9_0
              try clear hcz9_1
              try clear hcz9_2
              try clear hcz9_3
              try clear hfz11_0
              try clear hfz11_1
              try clear hfz11_2
              try clear hfz11_3
              try clear hfz15_0
              try clear hfz15_1
              try clear hfz15_2
              try clear hfz15_3
              try clear hfz18_0
              try clear hfz18_1
              try clear hfz18_2
              try clear hfz18_3
              try clear hfz9_0
              try clear hfz9_1
              try clear hfz9_2
              try clear hfz9_3
              try clear hx143_0
              try clear hx143_1
              try clear hx143_2
              try clear hx143_3
              try clear p143
              try clear q143
              obtain ⟨kq, x5_15, rfl, HA, HJ15, HO_3, HO_4, BK144, HB⟩ := hcut
              cases kq with
              | zero => exact absurd HA.out (by simp [lazarusref15_Fields.j1])
              | succ kj15 =>
                have H := HA.out
                clear HA
                simp only [lazarusref15_Fields.j1] at H
                replace H := Option.bind_eq_some_iff.mp H
                obtain ⟨t148, A210, H⟩ := H
                replace H : (lazarusref15_Fields.l1 kj15 l0 x3_1 x4_1 x5_15 x6_1 t148 0 ((rd_T72 l0 x6_1).f0) ((rd_T72 l0 x6_1).f1) ((rd_T72 l0 x6_1).f2) false) = some r := H
                have A21 := Aside0.mk A210
                clear A210
                have H' := Aside0.mk H
                clear H
                have hcz22_0 : wc.cell? ⟨gb144, 0, none⟩ = some (.string ((rd_T72 l0 x6_1).f0)) := (blk_cell BK144.out 0).trans rfl
                have hcz22_1 : wc.cell? ⟨gb144, 1, none⟩ = some (.bool ((rd_T72 l0 x6_1).f1)) := (blk_cell BK144.out 1).trans rfl
                have hcz22_2 : wc.cell? ⟨gb144, 2, none⟩ = some (.bool ((rd_T72 l0 x6_1).f2)) := (blk_cell BK144.out 2).trans rfl
                have hcz22_3 : wc.cell? ⟨gb144, 3, none⟩ = some (.bool false) := (blk_cell BK144.out 3).trans rfl
                have hfz22_0 := blk_frozen BK144.out 0
                have hfz22_1 := blk_frozen BK144.out 1
                have hfz22_2 := blk_frozen BK144.out 2
                have hfz22_3 := blk_frozen BK144.out 3
                go_wp2_with (first | ((with_reducible refine gate_callee (f := 30) rfl ?_); refine goesL_ (some 33) rfl rfl Tryd.func30 (by kernel_rfl) rfl #[.string ((rd_T72 l0 x6_1).f0), .bool ((rd_T72 l0 x6_1).f1)] rfl (by (try simp only [List.map_toArray, List.map_cons, List.map_nil]); first | done | rfl | (simp only [List.length_drop, List.length_take]; rfl)) ?_; (with_reducible refine (lazarusref13_Chars.calls kj15 ((rd_T72 l0 x6_1).f0) ((rd_T72 l0 x6_1).f1) t148 _ A21.out ?sT).mono ?_); (case sT => exact utf8_DecodeRuneInString.below HT.out (by repeat (first | (with_reducible first | exact HB.out | exact Below.refl _ _ | apply below_alloc | apply pw_below_drewN | apply below_drew1) | exact HB.out))); rintro e w23 ⟨v149, rfl, ho0, hb⟩; refine ⟨_, rfl, ?_⟩; have n0_ := Aside0.mk (Kd.R_elder' (by (with_reducible repeat (first | apply Kd.R_alloc | apply Kd.R_drewN | apply Kd.R_drew)); exact HO_3.out) (Kd.R_base ho0) hb); have n1_ := Aside0.mk (Kd.R_elder' (by (with_reducible repeat (first | apply Kd.R_alloc | apply Kd.R_drewN | apply Kd.R_drew)); exact HO_4.out) (Kd.R_base ho0) hb); have n2_ := Aside0.mk (Kd.R_lower (Kd.R_new' ho0 (Kd.R_lt (by (with_reducible repeat (first | apply Kd.R_alloc | apply Kd.R_drewN | apply Kd.R_drew)); exact HO_4.out))) (below_size (by repeat (first | (with_reducible first | exact HB.out | apply below_alloc | apply pw_below_drewN | apply below_drew1 | refine below_set ?_ GE144.out) | exact HB.out)))); have n3_ := Aside0.mk (blk_below (g := gb144) (o := .cells #[.string ((rd_T72 l0 x6_1).f0), .bool ((rd_T72 l0 x6_1).f1), .bool ((rd_T72 l0 x6_1).f2), .bool false] 72 (0, 0)) (by (with_reducible repeat (first | refine blk_drewN ?_ _ | refine blk_drew ?_ | refine blk_alloc ?_ _)); exact BK144.out) hb); have n4_ := Aside0.mk (below_step (by repeat (first | (with_reducible first | exact HB.out | apply below_alloc | apply pw_below_drewN | apply below_drew1 | refine below_set ?_ GE144.out) | exact HB.out)) hb); clear HO_3; clear HO_4; clear BK144; clear HB; have HO_3 := n0_; have HO_4 := n1_; have HO150 := n2_; have BK144 := n3_; have HB := n4_; clear n0_ n1_ n2_ n3_ n4_; (try clear hb); (try clear hb2); (try clear hk); (try clear hi); (try clear ho0)))
                go_loopg [3, 4, 5, 9] kj15 (fun kq v3 v4 v5 v9 w' => ∃ (x3_3 : List (List (S57))) (x4_3 : List (S57)) (x5_3 : Bool) (x9_3 : Int), v5 = .bool x5_3 ∧ v9 = .int .i64 x9_3 ∧ Aside0 (lazarusref15_Fields.l1 kq l0 x3_3 x4_3 x5_3 x6_1 t148 x9_3 ((rd_T72 l0 x6_1).f0) ((rd_T72 l0 x6_1).f1) ((rd_T72 l0 x6_1).f2) false = some r) ∧ Aside0 (kq ≤ kj15) ∧ Aside0 (Kd.R (Kd.slice 57 k57) 33 w' w.heap.size (fun k_ => some k_ ≠ (v4 : Value).ownBlock ∧ some k_ ≠ (v149 : Value).ownBlock) v3 x3_3) ∧ Aside0 (Kd.R k57 57 w' w.heap.size (fun k_ => some k_ ≠ (v149 : Value).ownBlock) v4 x4_3) ∧ Aside0 (Kd.R k57 57 w' w.heap.size (fun k_ => some k_ ≠ (v4 : Value).ownBlock) v149 t148) ∧ Aside0 (w'.heap[gb144]? = some (.cells #[.string ((rd_T72 l0 x6_1).f0), .bool ((rd_T72 l0 x6_1).f1), .bool ((rd_T72 l0 x6_1).f2), .bool false] 72 (0, 0))) ∧ Aside0 (Below w.heap.size w w'))
                case atStart => exact ⟨(x3_1), (x4_1), (x5_15), (0), (by first | rfl | (simp; done) | (simp [*]; done) | (simp; unfold wrap64; omega)), (by first | rfl | (simp; done) | (simp [*]; done) | (simp; unfold wrap64; omega)), H', ⟨Nat.le_refl _⟩, ⟨by (with_reducible repeat (first | apply Kd.R_alloc | apply Kd.R_drewN | apply Kd.R_drew)); exact HO_3.out⟩, ⟨by (with_reducible repeat (first | apply Kd.R_alloc | apply Kd.R_drewN | apply Kd.R_drew)); exact Kd.R_mono HO_4.out (fun _ hk => hk.2)⟩, ⟨by (with_reducible repeat (first | apply Kd.R_alloc | apply Kd.R_drewN | apply Kd.R_drew)); exact Kd.R_mono HO150.out (fun _ hk => hk.2)⟩, ⟨by (with_reducible repeat (first | refine blk_drewN ?_ _ | refine blk_drew ?_ | refine blk_alloc ?_ _)); exact BK144.out⟩, ⟨by repeat (first | (with_reducible first | exact HB.out | apply below_alloc | apply pw_below_drewN | apply below_drew1 | refine below_set ?_ GE144.out) | exact HB.out)⟩⟩
                case round =>
                  clear H'
                  try clear p1
                  try clear q1
                  try clear hx1
                  try clear c2
                  try clear c2b0
                  try clear p2
                  try clear c3
                  try clear c3b0
                  try clear q4
                  try clear c5
                  try clear c6
                  try clear p6
                  try clear c7
                  try clear p14
                  try clear q14
                  try clear hx14
                  try clear q19
                  try clear c20
                  try clear hcz11_0
                  try clear hcz11_1
                  try clear hcz11_2
                  try clear hcz11_3
                  try clear hcz15_0
                  try clear hcz15_1
                  try clear hcz15_2
                  try clear hcz15_3
                  try clear hcz18_0
                  try clear hcz18_1
                  try clear hcz18_2
                  try clear hcz18_3
                  try clear hcz22_0
                  try clear hcz22_1
                  try clear hcz22_2
                  try clear hcz22_3
                  try clear hcz9_0
                  try clear hcz9_1
                  try clear hcz9_2
                  try clear hcz9_3
                  try clear hfz11_0
                  try clear hfz11_1
                  try clear hfz11_2
                  try clear hfz11_3
                  try clear hfz15_0
                  try clear hfz15_1
                  try clear hfz15_2
                  try clear hfz15_3
                  try clear hfz18_0
                  try clear hfz18_1
                  try clear hfz18_2
                  try clear hfz18_3
                  try clear hfz22_0
                  try clear hfz22_1
                  try clear hfz22_2
                  try clear hfz22_3
                  try clear hfz9_0
                  try clear hfz9_1
                  try clear hfz9_2
                  try clear hfz9_3
                  try clear hx143_0
                  try clear hx143_1
                  try clear hx143_2
                  try clear hx143_3
                  try clear p1
                  try clear p14
                  try clear p143
                  try clear p2
                  try clear p6
                  try clear q1
                  try clear q14
                  try clear q143
                  try clear q19
                  try clear q4
                  obtain ⟨x3_3, x4_3, x5_3, x9_3, rfl, rfl, HA, HK3, HO_3, HO_4, HO_8, BK144, HB⟩ := hrel
                  cases gk with
                  | zero => exact absurd HA.out (by simp [lazarusref15_Fields.l1])
                  | succ k3 =>
                    have H := HA.out
                    clear HA
                    simp only [lazarusref15_Fields.l1] at H
                    by_cases c24 : x9_3 < (t148.length : Int)
                    · rw [if_pos c24] at H
                      have c24b0 : decide (x9_3 < (t148.length : Int)) = true := decide_eq_true c24
                      clear c24
                      have HC25 := Aside0.mk H
                      clear H
                      obtain ⟨Ao26, co26, eo26⟩ := Kd.R_slice HO_8.out
                      subst eo26
                      go_upto_region 18 with (fail)
                      generalize hzq : ((rd_T72 l0 x6_1).f1) = zq at *
                      go_cut [54] (fun v54 wc => ∃ (kq : Nat) (x54_24 : Bool), v54 = .bool x54_24 ∧ Aside0 (lazarusref15_Fields.j3 kq l0 x3_3 x4_3 x5_3 x6_1 t148 x9_3 x54_24 ((rd_T72 l0 x6_1).f0) zq ((rd_T72 l0 x6_1).f2) false = some r) ∧ Aside0 (kq ≤ k3) ∧ Aside0 (Kd.R (Kd.slice 57 k57) 33 wc w.heap.size (fun k_ => some k_ ≠ (u4 : Value).ownBlock ∧ some k_ ≠ ((.slice Ao26 t148.length co26) : Value).ownBlock) u3 x3_3) ∧ Aside0 (Kd.R k57 57 wc w.heap.size (fun k_ => some k_ ≠ ((.slice Ao26 t148.length co26) : Value).ownBlock) u4 x4_3) ∧ Aside0 (Kd.R k57 57 wc w.heap.size (fun k_ => some k_ ≠ (u4 : Value).ownBlock) (.slice Ao26 t148.length co26) t148) ∧ Aside0 (wc.heap[gb144]? = some (.cells #[.string ((rd_T72 l0 x6_1).f0), .bool zq, .bool ((rd_T72 l0 x6_1).f2), .bool false] 72 (0, 0))) ∧ Aside0 (Below w.heap.size w wc))
                      case first =>
                        have H := HC25.out
                        clear HC25
                        by_cases c27 : ((rd_T72 l0 x6_1).f2) = true
                        · rw [if_pos c27] at H
                          have c27b0 : ((rd_T72 l0 x6_1).f2) = true := c27
                          clear c27
                          (first | rw [c27b0] | (simp only [i64_w, i32_w]; rw [c27b0]) | skip)
                          by_cases c28 : zq = true
                          · subst c28
                            rw [if_pos rfl] at H
                            have H' := Aside0.mk H
                            clear H
                            have hcz29_0 : wr.cell? ⟨gb144, 0, none⟩ = some (.string ((rd_T72 l0 x6_1).f0)) := (blk_cell BK144.out 0).trans rfl
                            have hcz29_1 : wr.cell? ⟨gb144, 1, none⟩ = some (.bool true) := (blk_cell BK144.out 1).trans rfl
                            have hcz29_2 : wr.cell? ⟨gb144, 2, none⟩ = some (.bool ((rd_T72 l0 x6_1).f2)) := (blk_cell BK144.out 2).trans rfl
                            have hcz29_3 : wr.cell? ⟨gb144, 3, none⟩ = some (.bool false) := (blk_cell BK144.out 3).trans rfl
                            have hfz29_0 := blk_frozen BK144.out 0
                            have hfz29_1 := blk_frozen BK144.out 1
                            have hfz29_2 := blk_frozen BK144.out 2
                            have hfz29_3 := blk_frozen BK144.out 3
                            go_wp2
                            go_meet
                            case rel => exact ⟨_, (false), (by first | rfl | (simp; done) | (simp [*]; done) | (simp; unfold wrap64; omega)), H', ⟨by have := HK1.out; have := HJ15.out; have := HK3.out; first | omega | exact Nat.le_refl _⟩, ⟨by (with_reducible repeat (first | apply Kd.R_alloc | apply Kd.R_drewN | apply Kd.R_drew)); exact HO_3.out⟩, ⟨by (with_reducible repeat (first | apply Kd.R_alloc | apply Kd.R_drewN | apply Kd.R_drew)); exact HO_4.out⟩, ⟨by (with_reducible repeat (first | apply Kd.R_alloc | apply Kd.R_drewN | apply Kd.R_drew)); exact HO_8.out⟩, ⟨by (with_reducible repeat (first | refine blk_drewN ?_ _ | refine blk_drew ?_ | refine blk_alloc ?_ _)); exact BK144.out⟩, ⟨by repeat (first | (with_reducible first | exact HB.out | apply below_alloc | apply pw_below_drewN | apply below_drew1 | refine below_set ?_ GE144.out) | exact HB.out)⟩⟩
                          · replace c28 := Bool.eq_false_iff.mpr c28
                            subst c28
                            rw [if_neg (by decide)] at H
                            by_cases c30 : 0 ≤ x9_3
                            · rw [if_pos c30] at H
                              have c30b0 : decide (0 ≤ x9_3) = true := decide_eq_true c30
                              clear c30
                              replace H := Option.bind_eq_some_iff.mp H
                              obtain ⟨t152, A310, H⟩ := H
                              replace H : (lazarusref15_Fields.j3 k3 l0 x3_3 x4_3 x5_3 x6_1 t148 x9_3 t152 ((rd_T72 l0 x6_1).f0) false ((rd_T72 l0 x6_1).f2) false) = some r := H
                              have A31 := Aside0.mk A310
                              clear A310
                              have H' := Aside0.mk H
                              clear H
                              have hcz32_0 : wr.cell? ⟨gb144, 0, none⟩ = some (.string ((rd_T72 l0 x6_1).f0)) := (blk_cell BK144.out 0).trans rfl
                              have hcz32_1 : wr.cell? ⟨gb144, 1, none⟩ = some (.bool false) := (blk_cell BK144.out 1).trans rfl
                              have hcz32_2 : wr.cell? ⟨gb144, 2, none⟩ = some (.bool ((rd_T72 l0 x6_1).f2)) := (blk_cell BK144.out 2).trans rfl
                              have hcz32_3 : wr.cell? ⟨gb144, 3, none⟩ = some (.bool false) := (blk_cell BK144.out 3).trans rfl
                              have hfz32_0 := blk_frozen BK144.out 0
                              have hfz32_1 := blk_frozen BK144.out 1
                              have hfz32_2 := blk_frozen BK144.out 2
                              have hfz32_3 := blk_frozen BK144.out 3
                              have p151 : 0 ≤ (x9_3 : Int) := of_decide_eq_true (by first | (with_reducible assumption) | assumption)
                              have q151 : x9_3 < (t148.length : Int) := of_decide_eq_true (by first | (with_reducible assumption) | assumption)
                              obtain ⟨ad151, e151, hx151_0, hx151_1⟩ := at_T57 (Kd.R_reads' HO_8.out).2.2 x9_3 p151 q151
                              (try rw [← Nbq4.out] at hx151_1)
                              (try rw [← Nbq4.out] at hw151_1)
                              cases e151
                              replace p151 := eq_true p151
                              replace q151 := eq_true q151
                              go_wp2_with (first | (go_at_call 18; (with_reducible refine (lazarusref7_Blank.calls ((rd_T57 t148 x9_3).f0) t152 _ A31.out).mono ?_); rintro e w' ⟨rfl, ⟨nd, rfl⟩⟩))
                              go_meet
                              case rel => exact ⟨_, (t152), (by first | rfl | (simp; done) | (simp [*]; done) | (simp; unfold wrap64; omega)), H', ⟨by have := HK1.out; have := HJ15.out; have := HK3.out; first | omega | exact Nat.le_refl _⟩, ⟨by (with_reducible repeat (first | apply Kd.R_alloc | apply Kd.R_drewN | apply Kd.R_drew)); exact HO_3.out⟩, ⟨by (with_reducible repeat (first | apply Kd.R_alloc | apply Kd.R_drewN | apply Kd.R_drew)); exact HO_4.out⟩, ⟨by (with_reducible repeat (first | apply Kd.R_alloc | apply Kd.R_drewN | apply Kd.R_drew)); exact HO_8.out⟩, ⟨by (with_reducible repeat (first | refine blk_drewN ?_ _ | refine blk_drew ?_ | refine blk_alloc ?_ _)); exact BK144.out⟩, ⟨by repeat (first | (with_reducible first | exact HB.out | apply below_alloc | apply pw_below_drewN | apply below_drew1 | refine below_set ?_ GE144.out) | exact HB.out)⟩⟩
                            · rw [if_neg c30] at H
                              exact absurd H (by simp)
                        · rw [if_neg c27] at H
                          have c27b0 : ((rd_T72 l0 x6_1).f2) = false := by simpa using c27
                          clear c27
                          (first | rw [c27b0] | (simp only [i64_w, i32_w]; rw [c27b0]) | skip)
                          have H' := Aside0.mk H
                          clear H
                          have hcz33_0 : wr.cell? ⟨gb144, 0, none⟩ = some (.string ((rd_T72 l0 x6_1).f0)) := (blk_cell BK144.out 0).trans rfl
                          have hcz33_1 : wr.cell? ⟨gb144, 1, none⟩ = some (.bool zq) := (blk_cell BK144.out 1).trans rfl
                          have hcz33_2 : wr.cell? ⟨gb144, 2, none⟩ = some (.bool ((rd_T72 l0 x6_1).f2)) := (blk_cell BK144.out 2).trans rfl
                          have hcz33_3 : wr.cell? ⟨gb144, 3, none⟩ = some (.bool false) := (blk_cell BK144.out 3).trans rfl
                          have hfz33_0 := blk_frozen BK144.out 0
                          have hfz33_1 := blk_frozen BK144.out 1
                          have hfz33_2 := blk_frozen BK144.out 2
                          have hfz33_3 := blk_frozen BK144.out 3
                          go_wp2
                          go_meet
                          case rel => exact ⟨_, (false), (by first | rfl | (simp; done) | (simp [*]; done) | (simp; unfold wrap64; omega)), H', ⟨by have := HK1.out; have := HJ15.out; have := HK3.out; first | omega | exact Nat.le_refl _⟩, ⟨by (with_reducible repeat (first | apply Kd.R_alloc | apply Kd.R_drewN | apply Kd.R_drew)); exact HO_3.out⟩, ⟨by (with_reducible repeat (first | apply Kd.R_alloc | apply Kd.R_drewN | apply Kd.R_drew)); exact HO_4.out⟩, ⟨by (with_reducible repeat (first | apply Kd.R_alloc | apply Kd.R_drewN | apply Kd.R_drew)); exact HO_8.out⟩, ⟨by (with_reducible repeat (first | refine blk_drewN ?_ _ | refine blk_drew ?_ | refine blk_alloc ?_ _)); exact BK144.out⟩, ⟨by repeat (first | (with_reducible first | exact HB.out | apply below_alloc | apply pw_below_drewN | apply below_drew1 | refine below_set ?_ GE144.out) | exact HB.out)⟩⟩
                      case rest =>
                        subst hzq
                        clear HC25
                        try clear p1
                        try clear q1
                        try clear hx1
                        try clear c2
                        try clear c2b0
                        try clear p2
                        try clear c3
                        try clear c3b0
                        try clear q4
                        try clear c5
                        try clear c6
                        try clear p6
                        try clear c7
                        try clear p14
                        try clear q14
                        try clear hx14
                        try clear p15
                        try clear q15
                        try clear hx15
                        try clear q19
                        try clear c20
                        try clear c24
                        try clear c24b0
                        try clear c27
                        try clear c27b0
                        try clear c28
                        try clear c28b0
                        try clear c30
                        try clear c30b0
                        try clear hcz11_0
                        try clear hcz11_1
                        try clear hcz11_2
                        try clear hcz11_3
                        try clear hcz15_0
                        try clear hcz15_1
                        try clear hcz15_2
                        try clear hcz15_3
                        try clear hcz18_0
                        try clear hcz18_1
                        try clear hcz18_2
                        try clear hcz18_3
                        try clear hcz22_0
                        try clear hcz22_1
                        try clear hcz22_2
                        try clear hcz22_3
                        try clear hcz29_0
                        try clear hcz29_1
                        try clear hcz29_2
                        try clear hcz29_3
                        try clear hcz32_0
                        try clear hcz32_1
                        try clear hcz32_2
                        try clear hcz32_3
                        try clear hcz33_0
                        try clear hcz33_1
                        try clear hcz33_2
                        try clear hcz33_3
                        try clear hcz9_0
                        try clear hcz9_1
                        try clear hcz9_2
                        try clear hcz9_3
                        try clear hfz11_0
                        try clear hfz11_1
                        try clear hfz11_2
                        try clear hfz11_3
                        try clear hfz15_0
                        try clear hfz15_1
                        try clear hfz15_2
                        try clear hfz15_3
                        try clear hfz18_0
                        try clear hfz18_1
                        try clear hfz18_2
                        try clear hfz18_3
                        try clear hfz22_0
                        try clear hfz22_1
                        try clear hfz22_2
                        try clear hfz22_3
                        try clear hfz29_0
                        try clear hfz29_1
                        try clear hfz29_2
                        try clear hfz29_3
                        try clear hfz32_0
                        try clear hfz32_1
                        try clear hfz32_2
                        try clear hfz32_3
                        try clear hfz33_0
                        try clear hfz33_1
                        try clear hfz33_2
                        try clear hfz33_3
                        try clear hfz9_0
                        try clear hfz9_1
                        try clear hfz9_2
                        try clear hfz9_3
                        try clear hx143_0
                        try clear hx143_1
                        try clear hx143_2
                        try clear hx143_3
                        try clear hx151_0
                        try clear hx151_1
                        try clear p1
                        try clear p14
                        try clear p143
                        try clear p151
                        try clear p2
                        try clear p6
                        try clear q1
                        try clear q14
                        try clear q143
                        try clear q151
                        try clear q19
                        try clear q4
                        obtain ⟨kq, x54_24, rfl, HA, HJ24, HO_3, HO_4, HO_8, BK144, HB⟩ := hcut
                        cases kq with
                        | zero => exact absurd HA.out (by simp [lazarusref15_Fields.j3])
                        | succ kj24 =>
                          have H := HA.out
                          clear HA
                          simp only [lazarusref15_Fields.j3] at H
                          by_cases c34 : x54_24 = true
                          · subst c34
                            have H1 : (if x5_3 = true then (if x3_3.length < 5864062014805 then (lazarusref15_Fields.l1 kj24 l0 (x3_3 ++ [x4_3]) ([] : List (S57)) false x6_1 t148 (wrap64 (x9_3 + 1)) ((rd_T72 l0 x6_1).f0) ((rd_T72 l0 x6_1).f1) ((rd_T72 l0 x6_1).f2) false) else (none)) else (lazarusref15_Fields.l1 kj24 l0 x3_3 ([] : List (S57)) false x6_1 t148 (wrap64 (x9_3 + 1)) ((rd_T72 l0 x6_1).f0) ((rd_T72 l0 x6_1).f1) ((rd_T72 l0 x6_1).f2) false)) = some r := by rw [if_pos rfl] at H; exact H
                            clear H
                            have H := H1
                            clear H1
                            by_cases c35 : x5_3 = true
                            · subst c35
                              have H1 : (if x3_3.length < 5864062014805 then (lazarusref15_Fields.l1 kj24 l0 (x3_3 ++ [x4_3]) ([] : List (S57)) false x6_1 t148 (wrap64 (x9_3 + 1)) ((rd_T72 l0 x6_1).f0) ((rd_T72 l0 x6_1).f1) ((rd_T72 l0 x6_1).f2) false) else (none)) = some r := by rw [if_pos rfl] at H; exact H
                              clear H
                              have H := H1
                              clear H1
                              by_cases c36 : x3_3.length < 5864062014805
                              · rw [if_pos c36] at H
                                have LMc36 := Aside0.mk c36
                                clear c36
                                obtain ⟨y153, hy153⟩ : ∃ y_ : List (List (S57)), y_ = (x3_3 ++ [x4_3]) := ⟨_, rfl⟩
                                replace H : (lazarusref15_Fields.l1 kj24 l0 y153 ([] : List (S57)) false x6_1 t148 (wrap64 (x9_3 + 1)) ((rd_T72 l0 x6_1).f0) ((rd_T72 l0 x6_1).f1) ((rd_T72 l0 x6_1).f2) false) = some r := by first | (rw [hy153]; with_reducible exact H) | (have H2_ := (Option.bind_some _ _).symm.trans H; rw [hy153]; with_reducible exact H2_) | (have H2_ := (Option.bind_some _ _).symm.trans H; with_reducible exact H2_) | with_reducible exact H | (rw [hy153]; exact H) | exact H
                                have Ny153 := Aside0.mk hy153
                                clear hy153
                                have H' := Aside0.mk H
                                clear H
                                obtain ⟨Ao38, co38, eo38⟩ := Kd.R_slice HO_4.out
                                subst eo38
                                go_wp2_with (first | ((with_reducible refine gate_builtin (b := .append) (xs := #[.tmp 56, .tmp 58]) rfl ?_); at_builtin; refine Kd.R_append (Kd.slice 57 k57) (w0 := w) w.heap.size rfl (.tmp 56) (.tmp 58) 43 33 (.slice none 0 0) 24 rfl Tryd.underlying43 info33 rfl (by decide) (by omega) u3 x3_3 x4_3 [.slice Ao38 x4_3.length co38] (fun k_ => some k_ ≠ (.slice Ao26 t148.length co26 : Value).ownBlock) (fun k_ => ((fun k_ => some k_ ≠ (.slice Ao26 t148.length co26 : Value).ownBlock)) k_ ∧ some k_ ≠ (u3 : Value).ownBlock) rfl rfl ?aP (fun _ hk => hk) ?aF ?aO ?aB ?aS ?aL ?_; (case aP => exact Kd.M_row (Kd.R_mono (Kd.R_apart' (HO_4.out) (Kd.R_typed HO_3.out) (by decide)) (fun k_ hk => ⟨hk.1, hk.2⟩))); (case aB => exact (by repeat (first | (with_reducible first | exact HB.out | apply below_alloc | apply pw_below_drewN | apply below_drew1 | refine below_set ?_ GE144.out) | exact HB.out))); (case aF => exact (fun k_ hk => Kd.fresh' (Kd.R_lt (by (with_reducible repeat (first | apply Kd.R_alloc | apply Kd.R_drewN | apply Kd.R_drew)); exact HO_8.out)) k_ hk)); (case aO => exact (by (with_reducible repeat (first | apply Kd.R_alloc | apply Kd.R_drewN | apply Kd.R_drew)); exact Kd.R_mono HO_3.out (fun _ hk => hk.2))); (case aS => exact (below_size (by repeat (first | (with_reducible first | exact HB.out | apply below_alloc | apply pw_below_drewN | apply below_drew1 | refine below_set ?_ GE144.out) | exact HB.out)))); (case aL => have := LMc36.out; omega); intro v154 w37 ho hb hg hat; rw [← Ny153.out] at ho; have n0_ := Aside0.mk (Kd.R_over' (by (with_reducible repeat (first | apply Kd.R_alloc | apply Kd.R_drewN | apply Kd.R_drew)); exact HO_8.out) (Kd.R_typed (by (with_reducible repeat (first | apply Kd.R_alloc | apply Kd.R_drewN | apply Kd.R_drew)); exact HO_3.out)) (by decide) hg); have n1_ := Aside0.mk (blk_grown (g := gb144) (o := .cells #[.string ((rd_T72 l0 x6_1).f0), .bool ((rd_T72 l0 x6_1).f1), .bool ((rd_T72 l0 x6_1).f2), .bool false] 72 (0, 0)) (by (with_reducible repeat (first | refine blk_drewN ?_ _ | refine blk_drew ?_ | refine blk_alloc ?_ _)); exact BK144.out) hg (Kd.R_ne HO_3.out BK144.out (by decide))); have n2_ := Aside0.mk (hb); have n3_ := Aside0.mk (ho); clear HO_8; clear BK144; clear HB; clear HO_3; clear HO_4; have HO_8 := n0_; have BK144 := n1_; have HB := n2_; have HO155 := n3_; clear n0_ n1_ n2_ n3_; clear ho hb hg hat))
                                go_roundg kj24
                                case measure => have := HK1.out; have := HJ15.out; have := HK3.out; have := HJ24.out; omega
                                case rel => exact ⟨(y153), (([] : List (S57))), (false), (wrap64 (x9_3 + 1)), (by first | rfl | (simp; done) | (simp [*]; done) | (simp; unfold wrap64; omega)), (by first | rfl | (simp; done) | (simp [*]; done) | (simp; unfold wrap64; omega)), H', ⟨by have := HK1.out; have := HJ15.out; have := HK3.out; have := HJ24.out; omega⟩, ⟨by (with_reducible repeat (first | apply Kd.R_alloc | apply Kd.R_drewN | apply Kd.R_drew)); exact Kd.R_mono HO155.out (fun _ hk => ⟨(by simp [Value.ownBlock]), hk⟩)⟩, ⟨by first | exact Kd.R_nil _ _ _ _ _ | exact Kd.N_nil _ _ _ _ _ | exact Kd.V_nil _ _ _ _ _ | exact Kd.Q_nil _ _ _ _ _ | exact Kd.S_nil _ _ _ _ _⟩, ⟨by (with_reducible repeat (first | apply Kd.R_alloc | apply Kd.R_drewN | apply Kd.R_drew)); exact Kd.R_mono HO_8.out (fun _ hk => (by simp [Value.ownBlock]))⟩, ⟨by (with_reducible repeat (first | refine blk_drewN ?_ _ | refine blk_drew ?_ | refine blk_alloc ?_ _)); exact BK144.out⟩, ⟨by repeat (first | (with_reducible first | exact HB.out | apply below_alloc | apply pw_below_drewN | apply below_drew1 | refine below_set ?_ GE144.out) | exact HB.out)⟩⟩
                              · rw [if_neg c36] at H
                                exact absurd H (by simp)
                            · replace c35 := Bool.eq_false_iff.mpr c35
                              subst c35
                              have H1 : (lazarusref15_Fields.l1 kj24 l0 x3_3 ([] : List (S57)) false x6_1 t148 (wrap64 (x9_3 + 1)) ((rd_T72 l0 x6_1).f0) ((rd_T72 l0 x6_1).f1) ((rd_T72 l0 x6_1).f2) false) = some r := by rw [if_neg (show ¬ (false = true) by decide)] at H; exact H
                              clear H
                              have H := H1
                              clear H1
                              have H' := Aside0.mk H
                              clear H
                              go_wp2
                              go_roundg kj24
                              case measure => have := HK1.out; have := HJ15.out; have := HK3.out; have := HJ24.out; omega
                              case rel => exact ⟨(x3_3), (([] : List (S57))), (false), (wrap64 (x9_3 + 1)), (by first | rfl | (simp; done) | (simp [*]; done) | (simp; unfold wrap64; omega)), (by first | rfl | (simp; done) | (simp [*]; done) | (simp; unfold wrap64; omega)), H', ⟨by have := HK1.out; have := HJ15.out; have := HK3.out; have := HJ24.out; omega⟩, ⟨by (with_reducible repeat (first | apply Kd.R_alloc | apply Kd.R_drewN | apply Kd.R_drew)); exact Kd.R_mono HO_3.out (fun _ hk => ⟨(by simp [Value.ownBlock]), hk.2⟩)⟩, ⟨by first | exact Kd.R_nil _ _ _ _ _ | exact Kd.N_nil _ _ _ _ _ | exact Kd.V_nil _ _ _ _ _ | exact Kd.Q_nil _ _ _ _ _ | exact Kd.S_nil _ _ _ _ _⟩, ⟨by (with_reducible repeat (first | apply Kd.R_alloc | apply Kd.R_drewN | apply Kd.R_drew)); exact Kd.R_mono HO_8.out (fun _ hk => (by simp [Value.ownBlock]))⟩, ⟨by (with_reducible repeat (first | refine blk_drewN ?_ _ | refine blk_drew ?_ | refine blk_alloc ?_ _)); exact BK144.out⟩, ⟨by repeat (first | (with_reducible first | exact HB.out | apply below_alloc | apply pw_below_drewN | apply below_drew1 | refine below_set ?_ GE144.out) | exact HB.out)⟩⟩
                          · replace c34 := Bool.eq_false_iff.mpr c34
                            subst c34
                            have H1 : (if 0 ≤ x9_3 then (if x9_3 < (t148.length : Int) then (if x4_3.length < 17592186044416 then (lazarusref15_Fields.l1 kj24 l0 x3_3 (x4_3 ++ [(⟨(rd_T57 t148 x9_3).f0, (rd_T57 t148 x9_3).f1⟩ : S57)]) true x6_1 t148 (wrap64 (x9_3 + 1)) ((rd_T72 l0 x6_1).f0) ((rd_T72 l0 x6_1).f1) ((rd_T72 l0 x6_1).f2) false) else (none)) else (none)) else (none)) = some r := by rw [if_neg (show ¬ (false = true) by decide)] at H; exact H
                            clear H
                            have H := H1
                            clear H1
                            by_cases c39 : 0 ≤ x9_3
                            · rw [if_pos c39] at H
                              have c39b0 : decide (0 ≤ x9_3) = true := decide_eq_true c39
                              clear c39
                              by_cases c40 : x9_3 < (t148.length : Int)
                              · rw [if_pos c40] at H
                                have c40b0 : decide (x9_3 < (t148.length : Int)) = true := decide_eq_true c40
                                clear c40
                                by_cases c41 : x4_3.length < 17592186044416
                                · rw [if_pos c41] at H
                                  have LMc41 := Aside0.mk c41
                                  clear c41
                                  obtain ⟨y157, hy157⟩ : ∃ y_ : List (S57), y_ = (x4_3 ++ [(⟨(rd_T57 t148 x9_3).f0, (rd_T57 t148 x9_3).f1⟩ : S57)]) := ⟨_, rfl⟩
                                  replace H : (lazarusref15_Fields.l1 kj24 l0 x3_3 y157 true x6_1 t148 (wrap64 (x9_3 + 1)) ((rd_T72 l0 x6_1).f0) ((rd_T72 l0 x6_1).f1) ((rd_T72 l0 x6_1).f2) false) = some r := by first | (rw [hy157]; with_reducible exact H) | (have H2_ := (Option.bind_some _ _).symm.trans H; rw [hy157]; with_reducible exact H2_) | (have H2_ := (Option.bind_some _ _).symm.trans H; with_reducible exact H2_) | with_reducible exact H | (rw [hy157]; exact H) | exact H
                                  have Ny157 := Aside0.mk hy157
                                  clear hy157
                                  have H' := Aside0.mk H
                                  clear H
                                  have p156 : 0 ≤ (x9_3 : Int) := of_decide_eq_true (by first | (with_reducible assumption) | assumption)
                                  have q156 : x9_3 < (t148.length : Int) := of_decide_eq_true (by first | (with_reducible assumption) | assumption)
                                  obtain ⟨ad156, e156, hx156_0, hx156_1⟩ := at_T57 (Kd.R_reads' HO_8.out).2.2 x9_3 p156 q156
                                  (try rw [← Nbq4.out] at hx156_1)
                                  (try rw [← Nbq4.out] at hw156_1)
                                  cases e156
                                  replace p156 := eq_true p156
                                  replace q156 := eq_true q156
                                  go_wp2_with (first | ((with_reducible refine gate_builtin (b := .append) (xs := #[.tmp 60, .tmp 65]) rfl ?_); at_builtin; refine Kd.R_append k57 (w0 := w) w.heap.size rfl (.tmp 60) (.tmp 65) 33 57 (.agg #[(.int .i32 0), (.bool false)]) 8 rfl Tryd.underlying33 info57 rfl (by decide) (by omega) u4 x4_3 (⟨(rd_T57 t148 x9_3).f0, (rd_T57 t148 x9_3).f1⟩ : S57) [.int .i32 ((rd_T57 t148 x9_3).f0), .bool ((rd_T57 t148 x9_3).f1)] (fun k_ => some k_ ≠ (.slice (some ad156) t148.length co26 : Value).ownBlock) (fun _ => False) rfl rfl ?aP (fun _ hk => hk.elim) ?aF ?aO ?aB ?aS ?aL ?_; (case aP => exact k57_mkM _ _ _ (⟨(rd_T57 t148 x9_3).f0, (rd_T57 t148 x9_3).f1⟩ : S57)); (case aB => exact (by repeat (first | (with_reducible first | exact HB.out | apply below_alloc | apply pw_below_drewN | apply below_drew1 | refine below_set ?_ GE144.out) | exact HB.out))); (case aF => exact (fun k_ hk => Kd.fresh' (Kd.R_lt (by (with_reducible repeat (first | apply Kd.R_alloc | apply Kd.R_drewN | apply Kd.R_drew)); exact HO_8.out)) k_ hk)); (case aO => exact (by (with_reducible repeat (first | apply Kd.R_alloc | apply Kd.R_drewN | apply Kd.R_drew)); exact HO_4.out)); (case aS => exact (below_size (by repeat (first | (with_reducible first | exact HB.out | apply below_alloc | apply pw_below_drewN | apply below_drew1 | refine below_set ?_ GE144.out) | exact HB.out)))); (case aL => have := LMc41.out; omega); intro v158 w42 ho hb hg hat; rw [← Ny157.out] at ho; have n0_ := Aside0.mk (Kd.R_after (ok := (fun k_ => some k_ ≠ (.slice (some ad156) t148.length co26 : Value).ownBlock)) (by (with_reducible repeat (first | apply Kd.R_alloc | apply Kd.R_drewN | apply Kd.R_drew)); exact Kd.R_mono HO_3.out (fun _ hk => ⟨hk.2, hk.1⟩)) hg hat); have n1_ := Aside0.mk (Kd.R_after (ok := (fun _ => True)) (by (with_reducible repeat (first | apply Kd.R_alloc | apply Kd.R_drewN | apply Kd.R_drew)); exact Kd.R_mono HO_8.out (fun _ hk => ⟨trivial, hk⟩)) hg hat); have n2_ := Aside0.mk (blk_grown (g := gb144) (o := .cells #[.string ((rd_T72 l0 x6_1).f0), .bool ((rd_T72 l0 x6_1).f1), .bool ((rd_T72 l0 x6_1).f2), .bool false] 72 (0, 0)) (by (with_reducible repeat (first | refine blk_drewN ?_ _ | refine blk_drew ?_ | refine blk_alloc ?_ _)); exact BK144.out) hg (Kd.R_ne HO_4.out BK144.out (by decide))); have n3_ := Aside0.mk (hb); have n4_ := Aside0.mk (ho); clear HO_3; clear HO_8; clear BK144; clear HB; clear HO_4; have HO_3 := n0_; have HO_8 := n1_; have BK144 := n2_; have HB := n3_; have HO159 := n4_; clear n0_ n1_ n2_ n3_ n4_; clear ho hb hg hat))
                                  go_roundg kj24
                                  case measure => have := HK1.out; have := HJ15.out; have := HK3.out; have := HJ24.out; omega
                                  case rel => exact ⟨(x3_3), (y157), (true), (wrap64 (x9_3 + 1)), (by first | rfl | (simp; done) | (simp [*]; done) | (simp; unfold wrap64; omega)), (by first | rfl | (simp; done) | (simp [*]; done) | (simp; unfold wrap64; omega)), H', ⟨by have := HK1.out; have := HJ15.out; have := HK3.out; have := HJ24.out; omega⟩, ⟨by (with_reducible repeat (first | apply Kd.R_alloc | apply Kd.R_drewN | apply Kd.R_drew)); exact Kd.R_mono HO_3.out (fun _ hk => ⟨hk.2, hk.1⟩)⟩, ⟨by (with_reducible repeat (first | apply Kd.R_alloc | apply Kd.R_drewN | apply Kd.R_drew)); exact HO159.out⟩, ⟨by (with_reducible repeat (first | apply Kd.R_alloc | apply Kd.R_drewN | apply Kd.R_drew)); exact Kd.R_mono HO_8.out (fun _ hk => hk.2)⟩, ⟨by (with_reducible repeat (first | refine blk_drewN ?_ _ | refine blk_drew ?_ | refine blk_alloc ?_ _)); exact BK144.out⟩, ⟨by repeat (first | (with_reducible first | exact HB.out | apply below_alloc | apply pw_below_drewN | apply below_drew1 | refine below_set ?_ GE144.out) | exact HB.out)⟩⟩
                                · rw [if_neg c41] at H
                                  exact absurd H (by simp)
                              · rw [if_neg c40] at H
                                exact absurd H (by simp)
                            · rw [if_neg c39] at H
                              exact absurd H (by simp)
                    · rw [if_neg c24] at H
                      have c24b0 : decide (x9_3 < (t148.length : Int)) = false := decide_eq_false c24
                      clear c24
                      have H' := Aside0.mk H
                      clear H
                      obtain ⟨Ao43, co43, eo43⟩ := Kd.R_slice HO_8.out
                      subst eo43
                      go_wp2
                      go_roundg k3
                      case measure => have := HK1.out; have := HJ15.out; have := HK3.out; omega
                      case rel => exact ⟨(x3_3), (x4_3), (x5_3), (wrap64 (x6_1 + 1)), (by first | rfl | (simp; done) | (simp [*]; done) | (simp; unfold wrap64; omega)), (by first | rfl | (simp; done) | (simp [*]; done) | (simp; unfold wrap64; omega)), H', ⟨by have := HK1.out; have := HJ15.out; have := HK3.out; omega⟩, ⟨by (with_reducible repeat (first | apply Kd.R_alloc | apply Kd.R_drewN | apply Kd.R_drew)); exact Kd.R_mono HO_3.out (fun _ hk => hk.1)⟩, ⟨by (with_reducible repeat (first | apply Kd.R_alloc | apply Kd.R_drewN | apply Kd.R_drew)); exact Kd.R_mono HO_4.out (fun _ hk => trivial)⟩, ⟨by repeat (first | (with_reducible first | exact HB.out | apply below_alloc | apply pw_below_drewN | apply below_drew1 | refine below_set ?_ GE144.out) | exact HB.out)⟩⟩
        · rw [if_neg c3] at H
          exact absurd H (by simp)
      · rw [if_neg c2] at H
        have c2b0 : decide (x6_1 < (l0.length : Int)) = false := decide_eq_false c2
        clear c2
        by_cases c44 : x5_1 = true
        · subst c44
          have H1 : (if x3_1.length < 5864062014805 then (some (x3_1 ++ [x4_1])) else (none)) = some r := by rw [if_pos rfl] at H; exact H
          clear H
          have H := H1
          clear H1
          by_cases c45 : x3_1.length < 5864062014805
          · rw [if_pos c45] at H
            have LMc45 := Aside0.mk c45
            clear c45
            obtain ⟨y140, hy140⟩ : ∃ y_ : List (List (S57)), y_ = (x3_1 ++ [x4_1]) := ⟨_, rfl⟩
            replace H : (some y140) = some r := by first | (rw [hy140]; with_reducible exact H) | (have H2_ := (Option.bind_some _ _).symm.trans H; rw [hy140]; with_reducible exact H2_) | (have H2_ := (Option.bind_some _ _).symm.trans H; with_reducible exact H2_) | with_reducible exact H | (rw [hy140]; exact H) | exact H
            have Ny140 := Aside0.mk hy140
            clear hy140
            obtain rfl := Option.some.inj H
            obtain ⟨Ao47, co47, eo47⟩ := Kd.R_slice HO_4.out
            subst eo47
            go_wp2_with (first | ((with_reducible refine gate_builtin (b := .append) (xs := #[.tmp 68, .tmp 70]) rfl ?_); at_builtin; refine Kd.R_append (Kd.slice 57 k57) (w0 := w) w.heap.size rfl (.tmp 68) (.tmp 70) 43 33 (.slice none 0 0) 24 rfl Tryd.underlying43 info33 rfl (by decide) (by omega) u3 x3_1 x4_1 [.slice Ao47 x4_1.length co47] (fun _ => True) (fun k_ => ((fun _ => True)) k_ ∧ some k_ ≠ (u3 : Value).ownBlock) rfl rfl ?aP (fun _ hk => hk) ?aF ?aO ?aB ?aS ?aL ?_; (case aP => exact Kd.M_row (Kd.R_mono (Kd.R_apart' (HO_4.out) (Kd.R_typed HO_3.out) (by decide)) (fun k_ hk => ⟨trivial, hk.2⟩))); (case aB => exact (by repeat (first | (with_reducible first | exact HB.out | apply below_alloc | apply pw_below_drewN | apply below_drew1) | exact HB.out))); (case aF => exact (fun _ _ => trivial)); (case aO => exact (by (with_reducible repeat (first | apply Kd.R_alloc | apply Kd.R_drewN | apply Kd.R_drew)); exact Kd.R_mono HO_3.out (fun _ hk => trivial))); (case aS => exact (below_size (by repeat (first | (with_reducible first | exact HB.out | apply below_alloc | apply pw_below_drewN | apply below_drew1) | exact HB.out)))); (case aL => have := LMc45.out; omega); intro v141 w46 ho hb hg hat; rw [← Ny140.out] at ho; have n0_ := Aside0.mk (hb); have n1_ := Aside0.mk (ho); clear HB; clear HO_3; clear HO_4; have HB := n0_; have HO142 := n1_; clear n0_ n1_; clear ho hb hg hat))
            go_ret
            exact ⟨_, by first | rfl | (simp [errW_none, errW_some] <;> rfl) | (simp [*, errW_none, errW_some] <;> rfl), by (with_reducible repeat (first | apply Kd.R_alloc | apply Kd.R_drewN | apply Kd.R_drew)); exact HO142.out, by repeat (first | (with_reducible first | exact HB.out | apply below_alloc | apply pw_below_drewN | apply below_drew1) | exact HB.out)⟩
          · rw [if_neg c45] at H
            exact absurd H (by simp)
        · replace c44 := Bool.eq_false_iff.mpr c44
          subst c44
          have H1 : (some x3_1) = some r := by rw [if_neg (show ¬ (false = true) by decide)] at H; exact H
          clear H
          have H := H1
          clear H1
          obtain rfl := Option.some.inj H
          go_wp2
          go_ret
          exact ⟨_, by first | rfl | (simp [errW_none, errW_some] <;> rfl) | (simp [*, errW_none, errW_some] <;> rfl), by (with_reducible repeat (first | apply Kd.R_alloc | apply Kd.R_drewN | apply Kd.R_drew)); exact Kd.R_mono HO_3.out (fun _ hk => trivial), by repeat (first | (with_reducible first | exact HB.out | apply below_alloc | apply pw_below_drewN | apply below_drew1) | exact HB.out)⟩

end Go.Proofs.YtnhmfeihnjdcpaaDoor.QSplitFields
