-- Written by a program of this session (wip/tools), out of the kit's print of the loaded program: functions, and proofs that the calls come to them.
import Derived.Test.YtnhmfeihnjdcpaaDoorQGlobStarx0
import Derived.Test.YtnhmfeihnjdcpaaDoorQGlobStarx1
import Derived.Test.YtnhmfeihnjdcpaaDoorQGlobStarx3
namespace Go.Proofs.YtnhmfeihnjdcpaaDoor.QGlobStar
open Go.RowKit Go.Proofs.YtnhmfeihnjdcpaaDoorW.PrintWords Go.Proofs.YtnhmfeihnjdcpaaDoorW.PrintLast Go.Proofs.YtnhmfeihnjdcpaaDoorW.PrintMore
attribute [local go_sem] max2_int min2_int max_two min_two max_three min_three max_four min_four   -- for this text's walks alone
set_option linter.unusedVariables false
set_option linter.unusedSimpArgs false

/-! ### glob_Match: function 27 -/
mutual
def glob_Match.l0 : Nat → List Int → List Bool → List (S63) → Int → Int → Option (Bool)
  | 0, _, _, _, _, _ => none
  | k + 1, x5, x6, x20, x21, x22 => if x22 < x21 then (if 0 ≤ x22 then (if x22 < (x20.length : Int) then (if 0 ≤ (wrap64 ((x5.length : Int) + 1)) then (if (wrap64 ((x5.length : Int) + 1) : Int).toNat ≤ 281474976710656 then ((some (List.replicate (wrap64 ((x5.length : Int) + 1) : Int).toNat false : List Bool)).bind fun y203 => (glob_Match.l1 k x5 x6 y203 x20 x21 x22 (y203.length : Int) 0 ((rd_T63 x20 x22).f0) ((rd_T63 x20 x22).f1) ((rd_T63 x20 x22).f2))) else (none)) else (none)) else (none)) else (none)) else (if 0 ≤ (x5.length : Int) then (if (x5.length : Int) < (x6.length : Int) then (some (rdOf false x6 (x5.length : Int))) else (none)) else (none))
def glob_Match.l1 : Nat → List Int → List Bool → List Bool → List (S63) → Int → Int → Int → Int → Bool → Bool → List (S76) → Option (Bool)
  | 0, _, _, _, _, _, _, _, _, _, _, _ => none
  | k + 1, x5, x6, x9, x20, x21, x22, x31, x32, x203000, x203001, x203002 => if x32 < x31 then (if x203000 = true then (if 0 ≤ x32 then (if x32 < (x6.length : Int) then (if rdOf false x6 x32 = true then (if x32 < (x9.length : Int) then (glob_Match.l1 k x5 x6 (x9.set (x32 : Int).toNat true) x20 x21 x22 x31 (wrap64 (x32 + 1)) x203000 x203001 x203002) else (none)) else (if x32 > 0 then (if 0 ≤ (wrap64 (x32 - 1)) then (if (wrap64 (x32 - 1)) < (x9.length : Int) then (if x32 < (x9.length : Int) then (glob_Match.l1 k x5 x6 (x9.set (x32 : Int).toNat (rdOf false x9 (wrap64 (x32 - 1)))) x20 x21 x22 x31 (wrap64 (x32 + 1)) x203000 x203001 x203002) else (none)) else (none)) else (none)) else (if x32 < (x9.length : Int) then (glob_Match.l1 k x5 x6 (x9.set (x32 : Int).toNat false) x20 x21 x22 x31 (wrap64 (x32 + 1)) x203000 x203001 x203002) else (none)))) else (none)) else (none)) else (if x32 > 0 then (if 0 ≤ (wrap64 (x32 - 1)) then (if (wrap64 (x32 - 1)) < (x6.length : Int) then (if rdOf false x6 (wrap64 (x32 - 1)) = true then (if (wrap64 (x32 - 1)) < (x5.length : Int) then ((glob_piece_fits.f x203000 x203001 x203002 (rd x5 (wrap64 (x32 - 1)))).bind fun t213 => (if 0 ≤ x32 then (if x32 < (x9.length : Int) then (glob_Match.l1 k x5 x6 (x9.set (x32 : Int).toNat t213) x20 x21 x22 x31 (wrap64 (x32 + 1)) x203000 x203001 x203002) else (none)) else (none))) else (none)) else (if 0 ≤ x32 then (if x32 < (x9.length : Int) then (glob_Match.l1 k x5 x6 (x9.set (x32 : Int).toNat false) x20 x21 x22 x31 (wrap64 (x32 + 1)) x203000 x203001 x203002) else (none)) else (none))) else (none)) else (none)) else (glob_Match.l1 k x5 x6 x9 x20 x21 x22 x31 (wrap64 (x32 + 1)) x203000 x203001 x203002))) else (glob_Match.l0 k x5 x9 x20 x21 (wrap64 (x22 + 1)))
end
def glob_Match.f (k : Nat) (l0 : List (S57)) (a1 : ByteArray) : Option (Bool) := (glyph_Runes.f a1).bind fun t190 => (if 0 ≤ (wrap64 ((t190.length : Int) + 1)) then (if (wrap64 ((t190.length : Int) + 1) : Int).toNat ≤ 281474976710656 then ((some (List.replicate (wrap64 ((t190.length : Int) + 1) : Int).toNat false : List Bool)).bind fun y193 => (if 0 < (y193.length : Int) then ((glob_pieces.f k l0).bind fun t197 => (glob_Match.l0 k t190 (y193.set (0 : Int).toNat true) t197 (t197.length : Int) 0)) else (none))) else (none)) else (none))
theorem glob_Match.mono_l : ∀ k, (∀ y0 y1 y2 y3 y4, LeO (glob_Match.l0 k y0 y1 y2 y3 y4) (glob_Match.l0 (k + 1) y0 y1 y2 y3 y4)) ∧ (∀ y0 y1 y2 y3 y4 y5 y6 y7 y8 y9 y10, LeO (glob_Match.l1 k y0 y1 y2 y3 y4 y5 y6 y7 y8 y9 y10) (glob_Match.l1 (k + 1) y0 y1 y2 y3 y4 y5 y6 y7 y8 y9 y10))
  | 0 => ⟨fun _ _ _ _ _ r h => by simp [glob_Match.l0] at h, fun _ _ _ _ _ _ _ _ _ _ _ r h => by simp [glob_Match.l1] at h⟩
  | k + 1 => by
    obtain ⟨ih0, ih1⟩ := glob_Match.mono_l k
    refine ⟨?_, ?_⟩
    · intro y0 y1 y2 y3 y4
      unfold glob_Match.l0
      repeat' first
      | (with_reducible exact ih0 _ _ _ _ _)
      | (with_reducible exact ih1 _ _ _ _ _ _ _ _ _ _ _)
      | (with_reducible exact glob_pieces.mono _ _)
      | (with_reducible exact LeO.refl _)
      | (with_reducible exact LeO.none _)
      | (with_reducible refine LeO.ite ?_ ?_)
      | (with_reducible refine LeO.bind ?_ (fun _ => ?_))
      | exact ih0 _ _ _ _ _
      | exact ih1 _ _ _ _ _ _ _ _ _ _ _
      | exact glob_pieces.mono _ _
      | exact LeO.none _
      | refine LeO.ite ?_ ?_
      | refine LeO.bind ?_ (fun _ => ?_)
    · intro y0 y1 y2 y3 y4 y5 y6 y7 y8 y9 y10
      unfold glob_Match.l1
      repeat' first
      | (with_reducible exact ih0 _ _ _ _ _)
      | (with_reducible exact ih1 _ _ _ _ _ _ _ _ _ _ _)
      | (with_reducible exact glob_pieces.mono _ _)
      | (with_reducible exact LeO.refl _)
      | (with_reducible exact LeO.none _)
      | (with_reducible refine LeO.ite ?_ ?_)
      | (with_reducible refine LeO.bind ?_ (fun _ => ?_))
      | exact ih0 _ _ _ _ _
      | exact ih1 _ _ _ _ _ _ _ _ _ _ _
      | exact glob_pieces.mono _ _
      | exact LeO.none _
      | refine LeO.ite ?_ ?_
      | refine LeO.bind ?_ (fun _ => ?_)
theorem glob_Match.mono : ∀ a0 a1 k, LeO (glob_Match.f k a0 a1) (glob_Match.f (k + 1) a0 a1) := by
  intro a0 a1 k
  obtain ⟨ih0, ih1⟩ := glob_Match.mono_l k
  unfold glob_Match.f
  repeat' first
      | (with_reducible exact ih0 _ _ _ _ _)
      | (with_reducible exact ih1 _ _ _ _ _ _ _ _ _ _ _)
      | (with_reducible exact glob_pieces.mono _ _)
      | (with_reducible exact LeO.refl _)
      | (with_reducible exact LeO.none _)
      | (with_reducible refine LeO.ite ?_ ?_)
      | (with_reducible refine LeO.bind ?_ (fun _ => ?_))
      | exact ih0 _ _ _ _ _
      | exact ih1 _ _ _ _ _ _ _ _ _ _ _
      | exact glob_pieces.mono _ _
      | exact LeO.none _
      | refine LeO.ite ?_ ?_
      | refine LeO.bind ?_ (fun _ => ?_)
def glob_Match.T14 : Bool × List (List Nat × List Nat) := (true, [([], []), ([], []), ([], []), ([], []), ([3], [3]), ([2, 4], [2, 4]), ([5], [5]), ([6], [6]), ([7], [7]), ([7], [7]), ([7], [7]), ([10, 7], [7, 10]), ([9, 11, 7], [7, 9, 11]), ([12, 7], [7, 12]), ([8, 13, 7, 7], [7, 8, 13]), ([7, 14], [7, 14]), ([0, 1, 0, 1, 2, 3, 4, 5, 6, 7, 8, 9, 10, 11, 12, 13, 14, 15], [0, 1]), ([16, 15, 14, 0, 1, 2, 3, 4, 5, 6, 7, 8, 9, 10, 11, 12, 13, 14, 15], [15, 16])])
def glob_Match.B14 : List Nat := [0, 0, 0, 0, 8, 28, 60, 124, 252, 252, 252, 1276, 3836, 7932, 16380, 32764, 65535, 131071]
theorem glob_Match.tab14 : rtab .any (opsOf Tryd.f27 14) = glob_Match.T14 := by kernel_rfl
theorem glob_Match.bits14 : waitsOk glob_Match.T14.2 glob_Match.B14 = true := by kernel_rfl
set_option maxHeartbeats 8000000 in
set_option maxRecDepth 100000 in
theorem glob_Match.calls (k : Nat) (A0 : Option Addr) (c0 : Nat) (l0 : List (S57)) (a1 : ByteArray) (r : Bool) (w : World) (hr0 : Kd.C k57 w A0 l0.length l0) (hc0 : l0.length ≤ c0) (h : glob_Match.f k l0 a1 = some r) :
    Calls Tryd.prog 27 #[.slice A0 l0.length c0, .string a1] w fun e w' => e = .returned (.bool r) ∧ Below w.heap.size w w' := by
  have hu63 := Tryd.underlying63
  have HR0 := Aside0.mk hr0
  have HC0 := Aside0.mk hc0
  clear hr0 hc0
  have HB := Aside0.mk (Below.refl w.heap.size w)
  have H : ((glyph_Runes.f a1).bind fun t190 => (if 0 ≤ (wrap64 ((t190.length : Int) + 1)) then (if (wrap64 ((t190.length : Int) + 1) : Int).toNat ≤ 281474976710656 then ((some (List.replicate (wrap64 ((t190.length : Int) + 1) : Int).toNat false : List Bool)).bind fun y193 => (if 0 < (y193.length : Int) then ((glob_pieces.f k l0).bind fun t197 => (glob_Match.l0 k t190 (y193.set (0 : Int).toNat true) t197 (t197.length : Int) 0)) else (none))) else (none)) else (none))) = some r := h
  clear h
  replace H := Option.bind_eq_some_iff.mp H
  obtain ⟨t190, A30, H⟩ := H
  replace H : (if 0 ≤ (wrap64 ((t190.length : Int) + 1)) then (if (wrap64 ((t190.length : Int) + 1) : Int).toNat ≤ 281474976710656 then ((some (List.replicate (wrap64 ((t190.length : Int) + 1) : Int).toNat false : List Bool)).bind fun y193 => (if 0 < (y193.length : Int) then ((glob_pieces.f k l0).bind fun t197 => (glob_Match.l0 k t190 (y193.set (0 : Int).toNat true) t197 (t197.length : Int) 0)) else (none))) else (none)) else (none)) = some r := H
  have A3 := Aside0.mk A30
  clear A30
  obtain ⟨ji4, hji4⟩ : ∃ j_ : Int, (wrap64 ((t190.length : Int) + 1)) = j_ := ⟨_, rfl⟩
  replace H : (if 0 ≤ (ji4) then (if (ji4 : Int).toNat ≤ 281474976710656 then ((some (List.replicate (ji4 : Int).toNat false : List Bool)).bind fun y193 => (if 0 < (y193.length : Int) then ((glob_pieces.f k l0).bind fun t197 => (glob_Match.l0 k t190 (y193.set (0 : Int).toNat true) t197 (t197.length : Int) 0)) else (none))) else (none)) else (none)) = some r := by first | (rw [hji4] at H; exact H) | (simp only [hji4] at H ⊢; exact H)
  (try rw [hji4] at A3)
  have hji4w : (IntKind.i64.wrap ((t190.length : Int) + 1)) = ji4 := (i64_w _).trans hji4
  by_cases c5 : 0 ≤ (ji4)
  · rw [if_pos c5] at H
    have c5b0 := eq_true c5
    have c5b1 : decide (0 ≤ (ji4)) = true := decide_eq_true c5
    clear c5
    by_cases c6 : (ji4 : Int).toNat ≤ 281474976710656
    · rw [if_pos c6] at H
      have c6b0 := eq_true c6
      have c6b1 : decide ((ji4 : Int).toNat ≤ 281474976710656) = true := decide_eq_true c6
      clear c6
      obtain ⟨y193, hy193⟩ : ∃ y_ : List Bool, y_ = (List.replicate (ji4 : Int).toNat false) := ⟨_, rfl⟩
      replace H : (if 0 < (y193.length : Int) then ((glob_pieces.f k l0).bind fun t197 => (glob_Match.l0 k t190 (y193.set (0 : Int).toNat true) t197 (t197.length : Int) 0)) else (none)) = some r := by first | (rw [hy193]; with_reducible exact H) | (have H2_ := (Option.bind_some _ _).symm.trans H; rw [hy193]; with_reducible exact H2_) | (have H2_ := (Option.bind_some _ _).symm.trans H; with_reducible exact H2_) | with_reducible exact H | (rw [hy193]; exact H) | exact H
      have Ny193 := Aside0.mk hy193
      clear hy193
      by_cases c7 : 0 < (y193.length : Int)
      · rw [if_pos c7] at H
        have c7b0 : decide (0 < (y193.length : Int)) = true := decide_eq_true c7
        have c7b1 : decide (0 < y193.length) = true := decide_eq_true (by omega)
        clear c7
        obtain ⟨y196, hy196⟩ : ∃ y_ : List Bool, y_ = (y193.set (0 : Int).toNat true) := ⟨_, rfl⟩
        replace H : ((glob_pieces.f k l0).bind fun t197 => (glob_Match.l0 k t190 y196 t197 (t197.length : Int) 0)) = some r := by first | (rw [hy196]; with_reducible exact H) | (have H2_ := (Option.bind_some _ _).symm.trans H; rw [hy196]; with_reducible exact H2_) | (have H2_ := (Option.bind_some _ _).symm.trans H; with_reducible exact H2_) | with_reducible exact H | (rw [hy196]; exact H) | exact H
        have Ny196 := Aside0.mk hy196
        clear hy196
        replace H := Option.bind_eq_some_iff.mp H
        obtain ⟨t197, A90, H⟩ := H
        replace H : (glob_Match.l0 k t190 y196 t197 (t197.length : Int) 0) = some r := H
        have A9 := Aside0.mk A90
        clear A90
        have H' := Aside0.mk H
        clear H
        go_enter Tryd.func27, Tryd.ntmps27
        go_wp2_with (first | ((with_reducible refine gate_callee (f := 23) rfl ?_); refine goesL_ (some 12) rfl rfl Tryd.func23 (by kernel_rfl) rfl #[.string a1] rfl (by (try simp only [List.map_toArray, List.map_cons, List.map_nil]); first | done | rfl | (simp only [List.length_drop, List.length_take]; rfl)) ?_; (with_reducible refine (glyph_Runes.calls a1 t190 _ A3.out).mono ?_); rintro e w10 ⟨v191, rfl, ho0, hb⟩; refine ⟨_, rfl, ?_⟩; have n0_ := Aside0.mk (Kd.R_lower ho0 (below_size (by repeat (first | (with_reducible first | exact HB.out | apply below_alloc | apply pw_below_drewN | apply below_drew1) | exact HB.out)))); have n1_ := Aside0.mk (below_step (by repeat (first | (with_reducible first | exact HB.out | apply below_alloc | apply pw_below_drewN | apply below_drew1) | exact HB.out)) hb); clear HB; have HO192 := n0_; have HB := n1_; clear n0_ n1_; (try clear hb); (try clear hb2); (try clear hk); (try clear hi); (try clear ho0); obtain ⟨Ao11, co11, eo11⟩ := Kd.R_slice HO192.out; subst eo11) | ((with_reducible refine gate_dst (N := 16) rfl ?_); refine Kd.R_make Kd.bool _ 4 rfl (N := 16) rfl 58 _ _ rfl ji4 rfl rfl Tryd.underlying58 (.bool false) 1 info4 rfl (by decide) (by omega) false (ok := fun _ => True) (okp := fun _ => True) rfl (fun _ hk => hk) trivial (of_decide_eq_true (by first | (with_reducible assumption) | assumption)) (Nat.le_trans (Nat.mul_le_mul_right _ (of_decide_eq_true (by first | (with_reducible assumption) | assumption) : ji4.toNat ≤ 281474976710656)) (by omega)) (Below.refl _ _) (Nat.le_refl _) ?_; intro v194 w12 ho13 hb hg_ hnew_; clear hg_ hnew_; (first | rw [← Ny193.out] at ho13 | (simp only [Int.reduceToNat] at ho13; rw [← Ny193.out] at ho13)); have n0_ := Aside0.mk (Kd.R_below (by (with_reducible repeat (first | apply Kd.R_alloc | apply Kd.R_drewN | apply Kd.R_drew)); exact HO192.out) hb); have n1_ := Aside0.mk (Kd.R_lower ho13 (below_size (by repeat (first | (with_reducible first | exact HB.out | apply below_alloc | apply pw_below_drewN | apply below_drew1) | exact HB.out)))); have n2_ := Aside0.mk (below_step (by repeat (first | (with_reducible first | exact HB.out | apply below_alloc | apply pw_below_drewN | apply below_drew1) | exact HB.out)) hb); clear HO192; clear HB; have HO192 := n0_; have HO195 := n1_; have HB := n2_; clear n0_ n1_ n2_; clear hb ho13; have p8 : 0 ≤ (0 : Int) := (by omega); have q8 : (0 : Int) < ((y193.length : Int) : Int) := of_decide_eq_true (by first | (with_reducible assumption) | assumption); have qi8 : (0 < y193.length) = True := eq_true (by omega); obtain ⟨go8, co8, eo8, gb8, gl8, cl8, HG8⟩ := Kd.R_form HO195.out (by omega); (first | cases eo8 | (injection eo8 with ea_ en_ ec_; (first | subst ea_ | (injection ea_ with ea_; subst ea_)); subst ec_; clear en_)); have GB8 := Aside0.mk gb8; have GG8 := Aside0.mk HG8; clear gb8 gl8 HG8; obtain ⟨hx8_0, hf8_0⟩ := Kd.R_celln false HO195.out (0 : Int) p8 q8; (try rw [show ((0 : Int)).toNat = 0 from rfl] at hx8_0); (try simp only [Nat.reduceMul, Nat.zero_mul, Nat.zero_add, Nat.reduceAdd] at hx8_0); (try rw [show ((0 : Int)).toNat = 0 from rfl] at hf8_0); (try simp only [Nat.reduceMul, Nat.zero_mul, Nat.zero_add, Nat.reduceAdd] at hf8_0); replace p8 := eq_true p8; replace q8 := eq_true q8; obtain ⟨hy14_, hz14_⟩ := Kd.R_celln false HO195.out (0 : Int) (by omega) (of_decide_eq_true (by first | (with_reducible assumption) | assumption)); (try simp only [Int.reduceToNat, Int.toNat_zero, Int.toNat_ofNat, Nat.reduceMul, Nat.zero_mul, Nat.zero_add] at hy14_ hz14_); (try rw [show ((0 : Int)).toNat = 0 from rfl] at hy14_); (try rw [show ((0 : Int)).toNat = 0 from rfl] at hz14_); have HP14 := Kd.R_putg HO195.out (0 : Int) true) | ((with_reducible refine gate_store (t := 4) (p := 18) rfl ?_); refine store_event (t := 4) (p := 18) (v := ?vo_w15) (w1 := (w12.setCell ⟨go8, (0 : Int).toNat, none⟩ (.bool true))) ?hg ?ho ?hn ?hr ?_; (case ho => rfl); (case hg => rfl); (case hn => rfl); (case hr => first | (go_simp; done) | (go_simp; rfl)); intro w15 hw; have hg : w12.grownBy w15 (some go8) := (by rw [hw]; exact HP14.2); have hp_ : Kd.R Kd.bool 4 w15 w.heap.size (fun _ => True) (.slice (some ⟨go8, 0, none⟩) y193.length co8) y196 := (by rw [hw, Ny196.out]; exact HP14.1); clear HP14; have n0_ := Aside0.mk (Kd.R_over' (v := (.slice (some ⟨go8, 0, none⟩) y193.length co8)) (by (with_reducible repeat (first | apply Kd.R_alloc | apply Kd.R_drewN | apply Kd.R_drew)); exact HO192.out) (Kd.R_typed HO195.out) (by decide) hg); have n1_ := Aside0.mk (hp_); have n2_ := Aside0.mk ((by rw [hw]; exact below_set (HB.out) GB8.out : Below w.heap.size w w15)); clear HO192; clear HO195; clear HB; have HO192 := n0_; have HO195 := n1_; have HB := n2_; clear n0_ n1_ n2_; clear hg hw hp_) | ((with_reducible refine gate_callee (f := 43) rfl ?_); refine goesL_ (some 20) rfl rfl Tryd.func43 (by kernel_rfl) rfl #[.slice A0 l0.length c0] rfl (by (try simp only [List.map_toArray, List.map_cons, List.map_nil]); first | done | rfl | (simp only [List.length_drop, List.length_take]; rfl)) ?_; (with_reducible refine (glob_pieces.calls k _ _ l0 t197 _ ?side1 ?side2 A9.out).mono ?_); (case side1 => repeat (first | (with_reducible exact HR0.out) | exact (Kd.C_below HR0.out HB.out) | (with_reducible refine Kd.C_alloc ?_ _) | (with_reducible refine Kd.C_drewN ?_ _) | (with_reducible refine Kd.C_drew ?_))); (case side2 => exact HC0.out); rintro e w16 ⟨v198, rfl, ho0, hb⟩; refine ⟨_, rfl, ?_⟩; have n0_ := Aside0.mk (Kd.R_below (by (with_reducible repeat (first | apply Kd.R_alloc | apply Kd.R_drewN | apply Kd.R_drew)); exact HO192.out) hb); have n1_ := Aside0.mk (Kd.R_below (by (with_reducible repeat (first | apply Kd.R_alloc | apply Kd.R_drewN | apply Kd.R_drew)); exact HO195.out) hb); have n2_ := Aside0.mk (Kd.R_lower ho0 (below_size (by repeat (first | (with_reducible first | exact HB.out | apply below_alloc | apply pw_below_drewN | apply below_drew1) | exact HB.out)))); have n3_ := Aside0.mk (below_step (by repeat (first | (with_reducible first | exact HB.out | apply below_alloc | apply pw_below_drewN | apply below_drew1) | exact HB.out)) hb); clear HO192; clear HO195; clear HB; have HO192 := n0_; have HO195 := n1_; have HO199 := n2_; have HB := n3_; clear n0_ n1_ n2_ n3_; (try clear hb); (try clear hb2); (try clear hk); (try clear hi); (try clear ho0); obtain ⟨Ao17, co17, eo17⟩ := Kd.R_slice HO199.out; subst eo17))
        go_loopg [6, 22] k (fun kq v6 v22 w' => ∃ (x6_1 : List Bool) (x22_1 : Int), v22 = .int .i64 x22_1 ∧ Aside0 (glob_Match.l0 kq t190 x6_1 t197 (t197.length : Int) x22_1 = some r) ∧ Aside0 (kq ≤ k) ∧ Aside0 (Kd.R (Kd.int .i32) 21 w' w.heap.size (fun _ => True) (.slice Ao11 t190.length co11) t190) ∧ Aside0 (Kd.R Kd.bool 4 w' w.heap.size (fun _ => True) v6 x6_1) ∧ Aside0 (Kd.R k63 63 w' w.heap.size (fun _ => True) (.slice Ao17 t197.length co17) t197) ∧ Aside0 (Below w.heap.size w w'))
        case atStart => exact ⟨(y196), (0), (by first | rfl | (simp; done) | (simp [*]; done) | (simp; unfold wrap64; omega)), H', ⟨Nat.le_refl _⟩, ⟨by (with_reducible repeat (first | apply Kd.R_alloc | apply Kd.R_drewN | apply Kd.R_drew)); exact HO192.out⟩, ⟨by (with_reducible repeat (first | apply Kd.R_alloc | apply Kd.R_drewN | apply Kd.R_drew)); exact HO195.out⟩, ⟨by (with_reducible repeat (first | apply Kd.R_alloc | apply Kd.R_drewN | apply Kd.R_drew)); exact HO199.out⟩, ⟨by repeat (first | (with_reducible first | exact HB.out | apply below_alloc | apply pw_below_drewN | apply below_drew1) | exact HB.out)⟩⟩
        case round =>
          clear H'
          try clear c2
          try clear p2
          try clear c4
          try clear c5
          try clear c5b0
          try clear c5b1
          try clear c6
          try clear c6b0
          try clear c6b1
          try clear p6
          try clear c7
          try clear c7b0
          try clear c7b1
          try clear p8
          try clear q8
          try clear hx8
          try clear qi8
          try clear hf8
          try clear hx8_0
          try clear p8
          try clear q8
          obtain ⟨x6_1, x22_1, rfl, HA, HK1, HO_5, HO_6, HO_20, HB⟩ := hrel
          cases gk with
          | zero => exact absurd HA.out (by simp [glob_Match.l0])
          | succ k1 =>
            have H := HA.out
            clear HA
            simp only [glob_Match.l0] at H
            by_cases c18 : x22_1 < (t197.length : Int)
            · rw [if_pos c18] at H
              have c18b0 : decide (x22_1 < (t197.length : Int)) = true := decide_eq_true c18
              clear c18
              by_cases c19 : 0 ≤ x22_1
              · rw [if_pos c19] at H
                have c19b0 : decide (0 ≤ x22_1) = true := decide_eq_true c19
                clear c19
                by_cases c20 : x22_1 < (t197.length : Int)
                · rw [if_pos c20] at H
                  have c20b0 : decide (x22_1 < (t197.length : Int)) = true := decide_eq_true c20
                  clear c20
                  (try clear hji4w)
                  obtain ⟨ji21, hji21⟩ : ∃ j_ : Int, (wrap64 ((t190.length : Int) + 1)) = j_ := ⟨_, rfl⟩
                  replace H : (if 0 ≤ (ji21) then (if (ji21 : Int).toNat ≤ 281474976710656 then ((some (List.replicate (ji21 : Int).toNat false : List Bool)).bind fun y203 => (glob_Match.l1 k1 t190 x6_1 y203 t197 (t197.length : Int) x22_1 (y203.length : Int) 0 ((rd_T63 t197 x22_1).f0) ((rd_T63 t197 x22_1).f1) ((rd_T63 t197 x22_1).f2))) else (none)) else (none)) = some r := by first | (rw [hji21] at H; exact H) | (simp only [hji21] at H ⊢; exact H)
                  have hji21w : (IntKind.i64.wrap ((t190.length : Int) + 1)) = ji21 := (i64_w _).trans hji21
                  by_cases c22 : 0 ≤ (ji21)
                  · rw [if_pos c22] at H
                    have c22b0 := eq_true c22
                    have c22b1 : decide (0 ≤ (ji21)) = true := decide_eq_true c22
                    clear c22
                    by_cases c23 : (ji21 : Int).toNat ≤ 281474976710656
                    · rw [if_pos c23] at H
                      have c23b0 := eq_true c23
                      have c23b1 : decide ((ji21 : Int).toNat ≤ 281474976710656) = true := decide_eq_true c23
                      clear c23
                      obtain ⟨y203, hy203⟩ : ∃ y_ : List Bool, y_ = (List.replicate (ji21 : Int).toNat false) := ⟨_, rfl⟩
                      replace H : (glob_Match.l1 k1 t190 x6_1 y203 t197 (t197.length : Int) x22_1 (y203.length : Int) 0 ((rd_T63 t197 x22_1).f0) ((rd_T63 t197 x22_1).f1) ((rd_T63 t197 x22_1).f2)) = some r := by first | (rw [hy203]; with_reducible exact H) | (have H2_ := (Option.bind_some _ _).symm.trans H; rw [hy203]; with_reducible exact H2_) | (have H2_ := (Option.bind_some _ _).symm.trans H; with_reducible exact H2_) | with_reducible exact H | (rw [hy203]; exact H) | exact H
                      have Ny203 := Aside0.mk hy203
                      clear hy203
                      have H' := Aside0.mk H
                      clear H
                      have p201 : 0 ≤ (x22_1 : Int) := of_decide_eq_true (by first | (with_reducible assumption) | assumption)
                      have q201 : x22_1 < (t197.length : Int) := of_decide_eq_true (by first | (with_reducible assumption) | assumption)
                      obtain ⟨ad201, A201_2, c201_2, e201, hx201_0, hx201_1, hx201_2, hl201_2, hi201_2⟩ := at_T63 (Kd.R_reads' HO_20.out).2.2 x22_1 p201 q201
                      cases e201
                      obtain ⟨fb0, hfb0⟩ : ∃ b_ : Bool, ((rd_T63 t197 x22_1).f0) = b_ := ⟨_, rfl⟩
                      rw [hfb0] at hx201_0
                      have H'2 := H'.out
                      rw [hfb0] at H'2
                      clear H'
                      have H' := Aside0.mk H'2
                      clear H'2
                      obtain ⟨ce201, hce201, hMe201, hcc201⟩ := Kd.R_get HO_20.out z63 x22_1 p201 (by first | exact q201 | exact of_decide_eq_true (by first | (with_reducible assumption) | assumption) | (have e_ := (Kd.R_reads' HO_20.out).1; omega))
                      obtain ⟨ve201_2, rfl, ge201_2⟩ := k63_openM hMe201
                      have hv201_2 := hcc201 2 _ rfl
                      rw [add_field _ _ 2 (by omega)] at hv201_2
                      replace hv201_2 := Option.some.inj (hv201_2.symm.trans hx201_2)
                      rw [hv201_2] at ge201_2
                      have HL201_2 := Aside0.mk (show Kd.R k76 76 _ _ _ _ ((rd_T63 t197 x22_1).f2) from ge201_2)
                      clear hv201_2 ge201_2
                      clear hcc201 hce201
                      have HR201_2 := Aside0.mk hi201_2
                      have HC201_2 := Aside0.mk hl201_2
                      clear hi201_2 hl201_2
                      replace p201 := eq_true p201
                      replace q201 := eq_true q201
                      go_wp2_with (first | ((with_reducible refine gate_dst (N := 8) rfl ?_); refine box_event ?hg (N := 8) ?hd (cs := #[.bool false, .bool false, .slice none 0 0]) (t := 63) ?hr ?_; (case hd => rfl); (case hg => rfl); (case hr => first | (go_simp; done) | (go_simp; rfl)); intro gb202 hg w24 hbox hb; have n0_ := Aside0.mk (Kd.R_below (by (with_reducible repeat (first | apply Kd.R_alloc | apply Kd.R_drewN | apply Kd.R_drew)); exact HO_5.out) hb); have n1_ := Aside0.mk (Kd.R_below (by (with_reducible repeat (first | apply Kd.R_alloc | apply Kd.R_drewN | apply Kd.R_drew)); exact HO_6.out) hb); have n2_ := Aside0.mk (Kd.R_below (Kd.R_elderB (by (with_reducible repeat (first | apply Kd.R_alloc | apply Kd.R_drewN | apply Kd.R_drew)); exact HO_20.out) gb202 (Nat.le_of_eq hg.symm)) hb); have n3_ := Aside0.mk (Kd.R_below (by (with_reducible repeat (first | apply Kd.R_alloc | apply Kd.R_drewN | apply Kd.R_drew)); exact HL201_2.out) hb); have n4_ := Aside0.mk (Kd.C_below (by repeat (first | (with_reducible exact HR201_2.out) | (with_reducible refine Kd.C_alloc ?_ _) | (with_reducible refine Kd.C_drewN ?_ _) | (with_reducible refine Kd.C_drew ?_) | exact HR201_2.out)) hb); have n5_ := Aside0.mk (below_step (by repeat (first | (with_reducible first | exact HB.out | apply below_alloc | apply pw_below_drewN | apply below_drew1) | exact HB.out)) hb); have n6_ := Aside0.mk (hbox); have n7_ := Aside0.mk ((by rw [hg]; exact (below_size (by repeat (first | (with_reducible first | exact HB.out | apply below_alloc | apply pw_below_drewN | apply below_drew1) | exact HB.out))) : w.heap.size ≤ gb202)); have n8_ := Aside0.mk ((by rw [hg]; exact (below_size (by repeat (first | (with_reducible first | exact HB.out | apply below_alloc | apply pw_below_drewN | apply below_drew1) | exact HB.out))) : w.heap.size ≤ gb202)); clear HO_5; clear HO_6; clear HO_20; clear HL201_2; clear HR201_2; clear HB; have HO_5 := n0_; have HO_6 := n1_; have HO_20 := n2_; have HL201_2 := n3_; have HR201_2 := n4_; have HB := n5_; have BK202 := n6_; have GW202 := n7_; have GE202 := n8_; clear n0_ n1_ n2_ n3_ n4_ n5_ n6_ n7_ n8_; clear hb hbox hg; have hcz25_0 : w24.cell? ⟨gb202, 0, none⟩ = some (.bool false) := (blk_cell BK202.out 0).trans rfl; have hcz25_1 : w24.cell? ⟨gb202, 1, none⟩ = some (.bool false) := (blk_cell BK202.out 1).trans rfl; have hcz25_2 : w24.cell? ⟨gb202, 2, none⟩ = some (.slice none 0 0) := (blk_cell BK202.out 2).trans rfl; have hfz25_0 := blk_frozen BK202.out 0; have hfz25_1 := blk_frozen BK202.out 1; have hfz25_2 := blk_frozen BK202.out 2) | ((with_reducible refine gate_dst (N := 29) rfl ?_); refine Kd.R_make Kd.bool _ 4 rfl (N := 29) rfl 58 _ _ rfl ji21 rfl rfl Tryd.underlying58 (.bool false) 1 info4 rfl (by decide) (by omega) false (ok := fun _ => True) (okp := fun _ => True) rfl (fun _ hk => hk) trivial (of_decide_eq_true (by first | (with_reducible assumption) | assumption)) (Nat.le_trans (Nat.mul_le_mul_right _ (of_decide_eq_true (by first | (with_reducible assumption) | assumption) : ji21.toNat ≤ 281474976710656)) (by omega)) (Below.refl _ _) (Nat.le_refl _) ?_; intro v204 w26 ho27 hb hg_ hnew_; clear hg_ hnew_; (first | rw [← Ny203.out] at ho27 | (simp only [Int.reduceToNat] at ho27; rw [← Ny203.out] at ho27)); have n0_ := Aside0.mk (Kd.R_below (by (with_reducible repeat (first | apply Kd.R_alloc | apply Kd.R_drewN | apply Kd.R_drew)); exact (Kd.R_mono (Kd.R_far (p := ⟨gb202, 2, none⟩) (Kd.R_far (p := ⟨gb202, 1, none⟩) (Kd.R_far (p := ⟨gb202, 0, none⟩) (Kd.R_types HO_5.out BK202.out (by decide)) (fun _ hk => hk.2) (.bool fb0)) (fun _ hk => hk.2) (.bool ((rd_T63 t197 x22_1).f1))) (fun _ hk => hk.2) (.slice A201_2 ((rd_T63 t197 x22_1).f2).length c201_2)) (fun _ h_ => h_.1))) hb); have n1_ := Aside0.mk (Kd.R_elder' (by (with_reducible repeat (first | apply Kd.R_alloc | apply Kd.R_drewN | apply Kd.R_drew)); exact (Kd.R_mono (Kd.R_far (p := ⟨gb202, 2, none⟩) (Kd.R_far (p := ⟨gb202, 1, none⟩) (Kd.R_far (p := ⟨gb202, 0, none⟩) (Kd.R_types HO_6.out BK202.out (by decide)) (fun _ hk => hk.2) (.bool fb0)) (fun _ hk => hk.2) (.bool ((rd_T63 t197 x22_1).f1))) (fun _ hk => hk.2) (.slice A201_2 ((rd_T63 t197 x22_1).f2).length c201_2)) (fun _ h_ => h_.1))) (Kd.R_base ho27) hb); have n2_ := Aside0.mk (Kd.R_below (by (with_reducible repeat (first | apply Kd.R_alloc | apply Kd.R_drewN | apply Kd.R_drew)); exact (Kd.R_mono (Kd.R_far (p := ⟨gb202, 2, none⟩) (Kd.R_far (p := ⟨gb202, 1, none⟩) (Kd.R_far (p := ⟨gb202, 0, none⟩) (Kd.R_mono HO_20.out (fun k_ hk => (⟨hk, hk.2⟩ : _ ∧ k_ ≠ gb202))) (fun _ hk => hk.2) (.bool fb0)) (fun _ hk => hk.2) (.bool ((rd_T63 t197 x22_1).f1))) (fun _ hk => hk.2) (.slice A201_2 ((rd_T63 t197 x22_1).f2).length c201_2)) (fun _ h_ => h_.1))) hb); have n3_ := Aside0.mk (Kd.R_below (by (with_reducible repeat (first | apply Kd.R_alloc | apply Kd.R_drewN | apply Kd.R_drew)); exact (Kd.R_mono (Kd.R_far (p := ⟨gb202, 2, none⟩) (Kd.R_far (p := ⟨gb202, 1, none⟩) (Kd.R_far (p := ⟨gb202, 0, none⟩) (Kd.R_types HL201_2.out BK202.out (by decide)) (fun _ hk => hk.2) (.bool fb0)) (fun _ hk => hk.2) (.bool ((rd_T63 t197 x22_1).f1))) (fun _ hk => hk.2) (.slice A201_2 ((rd_T63 t197 x22_1).f2).length c201_2)) (fun _ h_ => h_.1))) hb); have n4_ := Aside0.mk (Kd.R_lower (Kd.R_new' ho27 (Kd.R_lt (by (with_reducible repeat (first | apply Kd.R_alloc | apply Kd.R_drewN | apply Kd.R_drew)); exact (Kd.R_mono (Kd.R_far (p := ⟨gb202, 2, none⟩) (Kd.R_far (p := ⟨gb202, 1, none⟩) (Kd.R_far (p := ⟨gb202, 0, none⟩) (Kd.R_types HO_6.out BK202.out (by decide)) (fun _ hk => hk.2) (.bool fb0)) (fun _ hk => hk.2) (.bool ((rd_T63 t197 x22_1).f1))) (fun _ hk => hk.2) (.slice A201_2 ((rd_T63 t197 x22_1).f2).length c201_2)) (fun _ h_ => h_.1))))) (below_size (by repeat (first | (with_reducible first | exact HB.out | apply below_alloc | apply pw_below_drewN | apply below_drew1 | refine below_set ?_ GE202.out) | exact HB.out)))); have n5_ := Aside0.mk (Kd.C_below ((Kd.R_reads' (by (with_reducible repeat (first | apply Kd.R_alloc | apply Kd.R_drewN | apply Kd.R_drew)); exact (Kd.R_mono (Kd.R_far (p := ⟨gb202, 2, none⟩) (Kd.R_far (p := ⟨gb202, 1, none⟩) (Kd.R_far (p := ⟨gb202, 0, none⟩) (Kd.R_types HL201_2.out BK202.out (by decide)) (fun _ hk => hk.2) (.bool fb0)) (fun _ hk => hk.2) (.bool ((rd_T63 t197 x22_1).f1))) (fun _ hk => hk.2) (.slice A201_2 ((rd_T63 t197 x22_1).f2).length c201_2)) (fun _ h_ => h_.1)))).2.2) hb); have n6_ := Aside0.mk (blk_below (g := gb202) (o := .cells #[.bool fb0, .bool ((rd_T63 t197 x22_1).f1), .slice A201_2 ((rd_T63 t197 x22_1).f2).length c201_2] 63 (0, 0)) (by (with_reducible repeat (first | refine blk_drewN ?_ _ | refine blk_drew ?_ | refine blk_alloc ?_ _)); refine blk_put (cs := #[.bool fb0, .bool ((rd_T63 t197 x22_1).f1), .slice none 0 0]) ?_ 2 _ rfl; (with_reducible repeat (first | refine blk_drewN ?_ _ | refine blk_drew ?_ | refine blk_alloc ?_ _)); refine blk_put (cs := #[.bool fb0, .bool false, .slice none 0 0]) ?_ 1 _ rfl; (with_reducible repeat (first | refine blk_drewN ?_ _ | refine blk_drew ?_ | refine blk_alloc ?_ _)); refine blk_put (cs := #[.bool false, .bool false, .slice none 0 0]) ?_ 0 _ rfl; (with_reducible repeat (first | refine blk_drewN ?_ _ | refine blk_drew ?_ | refine blk_alloc ?_ _)); exact BK202.out) hb); have n7_ := Aside0.mk (below_step (by repeat (first | (with_reducible first | exact HB.out | apply below_alloc | apply pw_below_drewN | apply below_drew1 | refine below_set ?_ GE202.out) | exact HB.out)) hb); clear HO_5; clear HO_6; clear HO_20; clear HL201_2; clear HR201_2; clear BK202; clear HB; have HO_5 := n0_; have HO_6 := n1_; have HO_20 := n2_; have HL201_2 := n3_; have HO205 := n4_; have HR201_2 := n5_; have BK202 := n6_; have HB := n7_; clear n0_ n1_ n2_ n3_ n4_ n5_ n6_ n7_; clear hb ho27; obtain ⟨Ao28, co28, eo28⟩ := Kd.R_slice HO205.out; subst eo28))
                      go_loopg [32] k1 (fun kq v32 w' => ∃ (x9_2 : List Bool) (x32_2 : Int), v32 = .int .i64 x32_2 ∧ Aside0 (glob_Match.l1 kq t190 x6_1 x9_2 t197 (t197.length : Int) x22_1 (y203.length : Int) x32_2 fb0 ((rd_T63 t197 x22_1).f1) ((rd_T63 t197 x22_1).f2) = some r) ∧ Aside0 (kq ≤ k1) ∧ Aside0 (Kd.R (Kd.int .i32) 21 w' w.heap.size (fun _ => True) (.slice Ao11 t190.length co11) t190) ∧ Aside0 (Kd.R Kd.bool 4 w' w.heap.size (fun k_ => some k_ ≠ ((.slice Ao28 y203.length co28) : Value).ownBlock) u6 x6_1) ∧ Aside0 (Kd.R Kd.bool 4 w' w.heap.size (fun k_ => some k_ ≠ (u6 : Value).ownBlock) (.slice Ao28 y203.length co28) x9_2) ∧ Aside0 (Kd.R k63 63 w' w.heap.size (fun k_ => k_ ≠ gb202) (.slice (some ad201) t197.length co17) t197) ∧ Aside0 (w'.heap[gb202]? = some (.cells #[.bool fb0, .bool ((rd_T63 t197 x22_1).f1), (.slice A201_2 ((rd_T63 t197 x22_1).f2).length c201_2)] 63 (0, 0))) ∧ Aside0 (Kd.C k76 w' A201_2 ((rd_T63 t197 x22_1).f2).length ((rd_T63 t197 x22_1).f2)) ∧ Aside0 (Kd.R k76 76 w' w.heap.size (fun _ => True) (.slice A201_2 ((rd_T63 t197 x22_1).f2).length c201_2) ((rd_T63 t197 x22_1).f2)) ∧ Aside0 (Below w.heap.size w w'))
                      case atStart => exact ⟨(y203), (0), (by first | rfl | (simp; done) | (simp [*]; done) | (simp; unfold wrap64; omega)), H', ⟨Nat.le_refl _⟩, ⟨by (with_reducible repeat (first | apply Kd.R_alloc | apply Kd.R_drewN | apply Kd.R_drew)); exact HO_5.out⟩, ⟨by (with_reducible repeat (first | apply Kd.R_alloc | apply Kd.R_drewN | apply Kd.R_drew)); exact Kd.R_mono HO_6.out (fun _ hk => hk.2)⟩, ⟨by (with_reducible repeat (first | apply Kd.R_alloc | apply Kd.R_drewN | apply Kd.R_drew)); exact Kd.R_mono HO205.out (fun _ hk => hk.2)⟩, ⟨by (with_reducible repeat (first | apply Kd.R_alloc | apply Kd.R_drewN | apply Kd.R_drew)); exact Kd.R_mono HO_20.out (fun _ hk => hk.2)⟩, ⟨by (with_reducible repeat (first | refine blk_drewN ?_ _ | refine blk_drew ?_ | refine blk_alloc ?_ _)); exact BK202.out⟩, ⟨by repeat (first | (with_reducible exact HR201_2.out) | (with_reducible refine Kd.C_alloc ?_ _) | (with_reducible refine Kd.C_drewN ?_ _) | (with_reducible refine Kd.C_drew ?_) | exact HR201_2.out)⟩, ⟨by (with_reducible repeat (first | apply Kd.R_alloc | apply Kd.R_drewN | apply Kd.R_drew)); exact Kd.R_mono HL201_2.out (fun _ hk => trivial)⟩, ⟨by repeat (first | (with_reducible first | exact HB.out | apply below_alloc | apply pw_below_drewN | apply below_drew1 | refine below_set ?_ GE202.out) | exact HB.out)⟩⟩
                      case round =>
                        clear H'
                        try clear c1
                        try clear c2
                        try clear p2
                        try clear q2
                        try clear hx2
                        try clear c4
                        try clear c5
                        try clear c5b0
                        try clear c5b1
                        try clear c6
                        try clear c6b0
                        try clear c6b1
                        try clear p6
                        try clear c7
                        try clear c7b0
                        try clear c7b1
                        try clear p8
                        try clear q8
                        try clear hx8
                        try clear qi8
                        try clear hf8
                        try clear c18
                        try clear c18b0
                        try clear c19
                        try clear c19b0
                        try clear c20
                        try clear c20b0
                        try clear p20
                        try clear q20
                        try clear hx20
                        try clear c22
                        try clear c22b0
                        try clear c22b1
                        try clear c23
                        try clear c23b0
                        try clear c23b1
                        try clear c27
                        try clear hcz25_0
                        try clear hcz25_1
                        try clear hcz25_2
                        try clear hfz25_0
                        try clear hfz25_1
                        try clear hfz25_2
                        try clear hx201_0
                        try clear hx201_1
                        try clear hx201_2
                        try clear hx8_0
                        try clear p2
                        try clear p201
                        try clear p6
                        try clear p8
                        try clear q201
                        try clear q8
                        obtain ⟨x9_2, x32_2, rfl, HA, HK2, HO_5, HO_6, HO_9, HO_20, BK202, HR201_2, HL201_2, HB⟩ := hrel
                        have hl9_2 := (Kd.R_reads' HO_9.out).1
                        rw [hl9_2] at HO_9
                        (try simp only [hl9_2])
                        (try simp only [hl9_2] at BK202)
                        (try simp only [hl9_2] at HO_5)
                        (try simp only [hl9_2] at HO_6)
                        (try simp only [hl9_2] at HO_20)
                        cases gk with
                        | zero => exact absurd HA.out (by simp [glob_Match.l1])
                        | succ k2 =>
                          have H := HA.out
                          clear HA
                          simp only [glob_Match.l1] at H
                          by_cases c29 : x32_2 < (y203.length : Int)
                          · rw [if_pos c29] at H
                            have c29b0 : decide (x32_2 < (y203.length : Int)) = true := decide_eq_true c29
                            (try simp only [hl9_2] at c29b0)
                            clear c29
                            by_cases c30 : fb0 = true
                            · subst c30
                              rw [if_pos rfl] at H
                              by_cases c31 : 0 ≤ x32_2
                              · rw [if_pos c31] at H
                                have c31b0 : decide (0 ≤ x32_2) = true := decide_eq_true c31
                                clear c31
                                by_cases c32 : x32_2 < (x6_1.length : Int)
                                · rw [if_pos c32] at H
                                  have c32b0 : decide (x32_2 < (x6_1.length : Int)) = true := decide_eq_true c32
                                  (try simp only [hl9_2] at c32b0)
                                  clear c32
                                  obtain ⟨bq33, hbq33⟩ : ∃ b_ : Bool, b_ = (rdOf false x6_1 x32_2) := ⟨_, rfl⟩
                                  replace H : (if bq33 = true then (if x32_2 < (x9_2.length : Int) then (glob_Match.l1 k2 t190 x6_1 (x9_2.set (x32_2 : Int).toNat true) t197 (t197.length : Int) x22_1 (y203.length : Int) (wrap64 (x32_2 + 1)) true ((rd_T63 t197 x22_1).f1) ((rd_T63 t197 x22_1).f2)) else (none)) else (if x32_2 > 0 then (if 0 ≤ (wrap64 (x32_2 - 1)) then (if (wrap64 (x32_2 - 1)) < (x9_2.length : Int) then (if x32_2 < (x9_2.length : Int) then (glob_Match.l1 k2 t190 x6_1 (x9_2.set (x32_2 : Int).toNat (rdOf false x9_2 (wrap64 (x32_2 - 1)))) t197 (t197.length : Int) x22_1 (y203.length : Int) (wrap64 (x32_2 + 1)) true ((rd_T63 t197 x22_1).f1) ((rd_T63 t197 x22_1).f2)) else (none)) else (none)) else (none)) else (if x32_2 < (x9_2.length : Int) then (glob_Match.l1 k2 t190 x6_1 (x9_2.set (x32_2 : Int).toNat false) t197 (t197.length : Int) x22_1 (y203.length : Int) (wrap64 (x32_2 + 1)) true ((rd_T63 t197 x22_1).f1) ((rd_T63 t197 x22_1).f2)) else (none)))) = some r := by rw [← hbq33] at H; exact H
                                  have Nbq33 := Aside0.mk hbq33
                                  clear hbq33
                                  by_cases c34 : bq33 = true
                                  · subst c34
                                    have H1 : (if x32_2 < (x9_2.length : Int) then (glob_Match.l1 k2 t190 x6_1 (x9_2.set (x32_2 : Int).toNat true) t197 (t197.length : Int) x22_1 (y203.length : Int) (wrap64 (x32_2 + 1)) true ((rd_T63 t197 x22_1).f1) ((rd_T63 t197 x22_1).f2)) else (none)) = some r := by rw [if_pos rfl] at H; exact H
                                    clear H
                                    have H := H1
                                    clear H1
                                    by_cases c35 : x32_2 < (x9_2.length : Int)
                                    · rw [if_pos c35] at H
                                      have c35b0 : decide (x32_2 < (x9_2.length : Int)) = true := decide_eq_true c35
                                      (try simp only [hl9_2] at c35b0)
                                      clear c35
                                      obtain ⟨y207, hy207⟩ : ∃ y_ : List Bool, y_ = (x9_2.set (x32_2 : Int).toNat true) := ⟨_, rfl⟩
                                      replace H : (glob_Match.l1 k2 t190 x6_1 y207 t197 (t197.length : Int) x22_1 (y203.length : Int) (wrap64 (x32_2 + 1)) true ((rd_T63 t197 x22_1).f1) ((rd_T63 t197 x22_1).f2)) = some r := by first | (rw [hy207]; with_reducible exact H) | (have H2_ := (Option.bind_some _ _).symm.trans H; rw [hy207]; with_reducible exact H2_) | (have H2_ := (Option.bind_some _ _).symm.trans H; with_reducible exact H2_) | with_reducible exact H | (rw [hy207]; exact H) | exact H
                                      have Ny207 := Aside0.mk hy207
                                      clear hy207
                                      have H' := Aside0.mk H
                                      clear H
                                      have hcz37_0 : wr.cell? ⟨gb202, 0, none⟩ = some (.bool true) := (blk_cell BK202.out 0).trans rfl
                                      have hcz37_1 : wr.cell? ⟨gb202, 1, none⟩ = some (.bool ((rd_T63 t197 x22_1).f1)) := (blk_cell BK202.out 1).trans rfl
                                      have hcz37_2 : wr.cell? ⟨gb202, 2, none⟩ = some (.slice A201_2 ((rd_T63 t197 x22_1).f2).length c201_2) := (blk_cell BK202.out 2).trans rfl
                                      have hfz37_0 := blk_frozen BK202.out 0
                                      have hfz37_1 := blk_frozen BK202.out 1
                                      have hfz37_2 := blk_frozen BK202.out 2
                                      obtain ⟨Ao38, co38, eo38⟩ := Kd.R_slice HO_6.out
                                      subst eo38
                                      have p206 : 0 ≤ (x32_2 : Int) := of_decide_eq_true (by first | (with_reducible assumption) | assumption)
                                      have q206 : x32_2 < (x6_1.length : Int) := of_decide_eq_true (by first | (with_reducible assumption) | assumption)
                                      obtain ⟨ad206, e206, hx206_0⟩ := Kd.at_bool (Kd.R_reads' HO_6.out).2.2 x32_2 p206 q206
                                      (try rw [← Nbq33.out] at hx206_0)
                                      cases e206
                                      replace p206 := eq_true p206
                                      replace q206 := eq_true q206
                                      have p36 : 0 ≤ (x32_2 : Int) := of_decide_eq_true (by first | (with_reducible assumption) | assumption)
                                      have q36 : (x32_2 : Int) < ((x9_2.length : Int) : Int) := of_decide_eq_true (by first | (with_reducible assumption) | assumption)
                                      obtain ⟨go36, co36, eo36, gb36, gl36, cl36, HG36⟩ := Kd.R_form HO_9.out (by omega)
                                      (first | cases eo36 | (injection eo36 with ea_ en_ ec_; (first | subst ea_ | (injection ea_ with ea_; subst ea_)); subst ec_; clear en_))
                                      have GB36 := Aside0.mk gb36
                                      have GG36 := Aside0.mk HG36
                                      clear gb36 gl36 HG36
                                      obtain ⟨hx36_0, hf36_0⟩ := Kd.R_celln false HO_9.out (x32_2 : Int) p36 q36
                                      replace p36 := eq_true p36
                                      replace q36 := eq_true q36
                                      have HP39 := Kd.R_putg HO_9.out (x32_2 : Int) true
                                      go_wp2_with (first | ((with_reducible refine gate_store (t := 4) (p := 55) rfl ?_); refine store_event (t := 4) (p := 55) (v := ?vo_w40) (w1 := (wr.setCell ⟨go36, (x32_2 : Int).toNat, none⟩ (.bool true))) ?hg ?ho ?hn ?hr ?_; (case ho => rfl); (case hg => rfl); (case hn => rfl); (case hr => first | (go_simp; done) | (go_simp; rfl)); intro w40 hw; have hg : wr.grownBy w40 (some go36) := (by rw [hw]; exact HP39.2); have hp_ : Kd.R Kd.bool 4 w40 w.heap.size (fun k_ => some k_ ≠ (.slice (some ad206) x6_1.length co38 : Value).ownBlock) (.slice (some ⟨go36, 0, none⟩) x9_2.length co28) y207 := (by rw [hw, Ny207.out]; exact HP39.1); clear HP39; have n0_ := Aside0.mk (Kd.R_over' (v := (.slice (some ⟨go36, 0, none⟩) x9_2.length co28)) (by (with_reducible repeat (first | apply Kd.R_alloc | apply Kd.R_drewN | apply Kd.R_drew)); exact HO_5.out) (Kd.R_typed HO_9.out) (by decide) hg); have n1_ := Aside0.mk (Kd.R_after (v := (.slice (some ⟨go36, 0, none⟩) x9_2.length co28)) (v1 := (.slice (some ⟨go36, 0, none⟩) x9_2.length co28)) (ok := (fun _ => True)) (by (with_reducible repeat (first | apply Kd.R_alloc | apply Kd.R_drewN | apply Kd.R_drew)); exact Kd.R_mono HO_6.out (fun _ hk => ⟨trivial, hk⟩)) hg (.inl rfl)); have n2_ := Aside0.mk (hp_); have n3_ := Aside0.mk (Kd.R_over' (v := (.slice (some ⟨go36, 0, none⟩) x9_2.length co28)) (by (with_reducible repeat (first | apply Kd.R_alloc | apply Kd.R_drewN | apply Kd.R_drew)); exact HO_20.out) (Kd.R_typed HO_9.out) (by decide) hg); have n4_ := Aside0.mk (blk_grown (g := gb202) (o := .cells #[.bool true, .bool ((rd_T63 t197 x22_1).f1), .slice A201_2 ((rd_T63 t197 x22_1).f2).length c201_2] 63 (0, 0)) (by (with_reducible repeat (first | refine blk_drewN ?_ _ | refine blk_drew ?_ | refine blk_alloc ?_ _)); exact BK202.out) hg (Kd.R_ne HO_9.out BK202.out (by decide))); have n5_ := Aside0.mk (Kd.R_over' (v := (.slice (some ⟨go36, 0, none⟩) x9_2.length co28)) (by (with_reducible repeat (first | apply Kd.R_alloc | apply Kd.R_drewN | apply Kd.R_drew)); exact HL201_2.out) (Kd.R_typed HO_9.out) (by decide) hg); have n6_ := Aside0.mk ((by rw [hw]; exact below_set (HB.out) GB36.out : Below w.heap.size w w40)); clear HO_5; clear HO_6; clear HO_9; clear HO_20; clear BK202; clear HL201_2; clear HB; have HO_5 := n0_; have HO_6 := n1_; have HO_9 := n2_; have HO_20 := n3_; have BK202 := n4_; have HL201_2 := n5_; have HB := n6_; clear n0_ n1_ n2_ n3_ n4_ n5_ n6_; clear hg hw hp_))
                                      (try simp only [← hl9_2])
                                      go_roundg k2
                                      case measure => have := HK1.out; have := HK2.out; omega
                                      case rel => exact ⟨(y207), (wrap64 (x32_2 + 1)), (by first | rfl | (simp; done) | (simp [*]; done) | (simp; unfold wrap64; omega)), H', ⟨by have := HK1.out; have := HK2.out; omega⟩, ⟨by (try simp only [hl9_2]); (with_reducible repeat (first | apply Kd.R_alloc | apply Kd.R_drewN | apply Kd.R_drew)); exact HO_5.out⟩, ⟨by (try simp only [hl9_2]); (with_reducible repeat (first | apply Kd.R_alloc | apply Kd.R_drewN | apply Kd.R_drew)); exact Kd.R_mono HO_6.out (fun _ hk => hk.2)⟩, ⟨by (try simp only [hl9_2]); (with_reducible repeat (first | apply Kd.R_alloc | apply Kd.R_drewN | apply Kd.R_drew)); exact HO_9.out⟩, ⟨by (try simp only [hl9_2]); (with_reducible repeat (first | apply Kd.R_alloc | apply Kd.R_drewN | apply Kd.R_drew)); exact HO_20.out⟩, ⟨by (try simp only [hl9_2]); (with_reducible repeat (first | refine blk_drewN ?_ _ | refine blk_drew ?_ | refine blk_alloc ?_ _)); exact BK202.out⟩, ⟨(Kd.R_reads' (by (with_reducible repeat (first | apply Kd.R_alloc | apply Kd.R_drewN | apply Kd.R_drew)); exact HL201_2.out)).2.2⟩, ⟨by (try simp only [hl9_2]); (with_reducible repeat (first | apply Kd.R_alloc | apply Kd.R_drewN | apply Kd.R_drew)); exact HL201_2.out⟩, ⟨by repeat (first | (with_reducible first | exact HB.out | apply below_alloc | apply pw_below_drewN | apply below_drew1 | refine below_set ?_ GE202.out) | exact HB.out)⟩⟩
                                    · rw [if_neg c35] at H
                                      exact absurd H (by simp)
                                  · replace c34 := Bool.eq_false_iff.mpr c34
                                    subst c34
                                    have H1 : (if x32_2 > 0 then (if 0 ≤ (wrap64 (x32_2 - 1)) then (if (wrap64 (x32_2 - 1)) < (x9_2.length : Int) then (if x32_2 < (x9_2.length : Int) then (glob_Match.l1 k2 t190 x6_1 (x9_2.set (x32_2 : Int).toNat (rdOf false x9_2 (wrap64 (x32_2 - 1)))) t197 (t197.length : Int) x22_1 (y203.length : Int) (wrap64 (x32_2 + 1)) true ((rd_T63 t197 x22_1).f1) ((rd_T63 t197 x22_1).f2)) else (none)) else (none)) else (none)) else (if x32_2 < (x9_2.length : Int) then (glob_Match.l1 k2 t190 x6_1 (x9_2.set (x32_2 : Int).toNat false) t197 (t197.length : Int) x22_1 (y203.length : Int) (wrap64 (x32_2 + 1)) true ((rd_T63 t197 x22_1).f1) ((rd_T63 t197 x22_1).f2)) else (none))) = some r := by rw [if_neg (show ¬ (false = true) by decide)] at H; exact H
                                    clear H
                                    have H := H1
                                    clear H1
                                    by_cases c41 : x32_2 > 0
                                    · rw [if_pos c41] at H
                                      have c41b0 : decide (0 < x32_2) = true := decide_eq_true c41
                                      clear c41
                                      obtain ⟨ji42, hji42⟩ : ∃ j_ : Int, (wrap64 (x32_2 - 1)) = j_ := ⟨_, rfl⟩
                                      replace H : (if 0 ≤ (ji42) then (if (ji42) < (x9_2.length : Int) then (if x32_2 < (x9_2.length : Int) then (glob_Match.l1 k2 t190 x6_1 (x9_2.set (x32_2 : Int).toNat (rdOf false x9_2 (ji42))) t197 (t197.length : Int) x22_1 (y203.length : Int) (wrap64 (x32_2 + 1)) true ((rd_T63 t197 x22_1).f1) ((rd_T63 t197 x22_1).f2)) else (none)) else (none)) else (none)) = some r := by first | (rw [hji42] at H; exact H) | (simp only [hji42] at H ⊢; exact H)
                                      have hji42w : (IntKind.i64.wrap (x32_2 - 1)) = ji42 := (i64_w _).trans hji42
                                      by_cases c43 : 0 ≤ (ji42)
                                      · rw [if_pos c43] at H
                                        have c43b0 : decide (0 ≤ (ji42)) = true := decide_eq_true c43
                                        clear c43
                                        by_cases c44 : (ji42) < (x9_2.length : Int)
                                        · rw [if_pos c44] at H
                                          have c44b0 : decide ((ji42) < (x9_2.length : Int)) = true := decide_eq_true c44
                                          (try simp only [hl9_2] at c44b0)
                                          clear c44
                                          by_cases c45 : x32_2 < (x9_2.length : Int)
                                          · rw [if_pos c45] at H
                                            have c45b0 : decide (x32_2 < (x9_2.length : Int)) = true := decide_eq_true c45
                                            (try simp only [hl9_2] at c45b0)
                                            clear c45
                                            obtain ⟨y209, hy209⟩ : ∃ y_ : List Bool, y_ = (x9_2.set (x32_2 : Int).toNat (rdOf false x9_2 (ji42))) := ⟨_, rfl⟩
                                            replace H : (glob_Match.l1 k2 t190 x6_1 y209 t197 (t197.length : Int) x22_1 (y203.length : Int) (wrap64 (x32_2 + 1)) true ((rd_T63 t197 x22_1).f1) ((rd_T63 t197 x22_1).f2)) = some r := by first | (rw [hy209]; with_reducible exact H) | (have H2_ := (Option.bind_some _ _).symm.trans H; rw [hy209]; with_reducible exact H2_) | (have H2_ := (Option.bind_some _ _).symm.trans H; with_reducible exact H2_) | with_reducible exact H | (rw [hy209]; exact H) | exact H
                                            have Ny209 := Aside0.mk hy209
                                            clear hy209
                                            have H' := Aside0.mk H
                                            clear H
                                            have hcz47_0 : wr.cell? ⟨gb202, 0, none⟩ = some (.bool true) := (blk_cell BK202.out 0).trans rfl
                                            have hcz47_1 : wr.cell? ⟨gb202, 1, none⟩ = some (.bool ((rd_T63 t197 x22_1).f1)) := (blk_cell BK202.out 1).trans rfl
                                            have hcz47_2 : wr.cell? ⟨gb202, 2, none⟩ = some (.slice A201_2 ((rd_T63 t197 x22_1).f2).length c201_2) := (blk_cell BK202.out 2).trans rfl
                                            have hfz47_0 := blk_frozen BK202.out 0
                                            have hfz47_1 := blk_frozen BK202.out 1
                                            have hfz47_2 := blk_frozen BK202.out 2
                                            obtain ⟨Ao48, co48, eo48⟩ := Kd.R_slice HO_6.out
                                            subst eo48
                                            have p206 : 0 ≤ (x32_2 : Int) := of_decide_eq_true (by first | (with_reducible assumption) | assumption)
                                            have q206 : x32_2 < (x6_1.length : Int) := of_decide_eq_true (by first | (with_reducible assumption) | assumption)
                                            obtain ⟨ad206, e206, hx206_0⟩ := Kd.at_bool (Kd.R_reads' HO_6.out).2.2 x32_2 p206 q206
                                            (try rw [← Nbq33.out] at hx206_0)
                                            cases e206
                                            replace p206 := eq_true p206
                                            replace q206 := eq_true q206
                                            have p208 : 0 ≤ ((ji42) : Int) := of_decide_eq_true (by first | (with_reducible assumption) | assumption)
                                            have q208 : (ji42) < (x9_2.length : Int) := of_decide_eq_true (by first | (with_reducible assumption) | assumption)
                                            obtain ⟨ad208, e208, hx208_0⟩ := Kd.at_bool (Kd.R_reads' HO_9.out).2.2 (ji42) p208 q208
                                            (try rw [← Nbq33.out] at hx208_0)
                                            cases e208
                                            replace p208 := eq_true p208
                                            replace q208 := eq_true q208
                                            have p46 : 0 ≤ (x32_2 : Int) := of_decide_eq_true (by first | (with_reducible assumption) | assumption)
                                            have q46 : (x32_2 : Int) < ((x9_2.length : Int) : Int) := of_decide_eq_true (by first | (with_reducible assumption) | assumption)
                                            obtain ⟨go46, co46, eo46, gb46, gl46, cl46, HG46⟩ := Kd.R_form HO_9.out (by omega)
                                            (first | cases eo46 | (injection eo46 with ea_ en_ ec_; (first | subst ea_ | (injection ea_ with ea_; subst ea_)); subst ec_; clear en_))
                                            have GB46 := Aside0.mk gb46
                                            have GG46 := Aside0.mk HG46
                                            clear gb46 gl46 HG46
                                            (first | simp only [add_plain] at hx208_0 | skip)
                                            obtain ⟨hx46_0, hf46_0⟩ := Kd.R_celln false HO_9.out (x32_2 : Int) p46 q46
                                            replace p46 := eq_true p46
                                            replace q46 := eq_true q46
                                            have HP49 := Kd.R_putg HO_9.out (x32_2 : Int) (rdOf false x9_2 (ji42))
                                            go_wp2_with (first | ((with_reducible refine gate_store (t := 4) (p := 55) rfl ?_); refine store_event (t := 4) (p := 55) (v := ?vo_w50) (w1 := (wr.setCell ⟨go46, (x32_2 : Int).toNat, none⟩ (.bool (rdOf false x9_2 (ji42))))) ?hg ?ho ?hn ?hr ?_; (case ho => rfl); (case hg => rfl); (case hn => rfl); (case hr => first | (go_simp; done) | (go_simp; rfl)); intro w50 hw; have hg : wr.grownBy w50 (some go46) := (by rw [hw]; exact HP49.2); have hp_ : Kd.R Kd.bool 4 w50 w.heap.size (fun k_ => some k_ ≠ (.slice (some ad206) x6_1.length co48 : Value).ownBlock) (.slice (some ⟨go46, 0, none⟩) x9_2.length co28) y209 := (by rw [hw, Ny209.out]; exact HP49.1); clear HP49; have n0_ := Aside0.mk (Kd.R_over' (v := (.slice (some ⟨go46, 0, none⟩) x9_2.length co28)) (by (with_reducible repeat (first | apply Kd.R_alloc | apply Kd.R_drewN | apply Kd.R_drew)); exact HO_5.out) (Kd.R_typed HO_9.out) (by decide) hg); have n1_ := Aside0.mk (Kd.R_after (v := (.slice (some ⟨go46, 0, none⟩) x9_2.length co28)) (v1 := (.slice (some ⟨go46, 0, none⟩) x9_2.length co28)) (ok := (fun _ => True)) (by (with_reducible repeat (first | apply Kd.R_alloc | apply Kd.R_drewN | apply Kd.R_drew)); exact Kd.R_mono HO_6.out (fun _ hk => ⟨trivial, hk⟩)) hg (.inl rfl)); have n2_ := Aside0.mk (hp_); have n3_ := Aside0.mk (Kd.R_over' (v := (.slice (some ⟨go46, 0, none⟩) x9_2.length co28)) (by (with_reducible repeat (first | apply Kd.R_alloc | apply Kd.R_drewN | apply Kd.R_drew)); exact HO_20.out) (Kd.R_typed HO_9.out) (by decide) hg); have n4_ := Aside0.mk (blk_grown (g := gb202) (o := .cells #[.bool true, .bool ((rd_T63 t197 x22_1).f1), .slice A201_2 ((rd_T63 t197 x22_1).f2).length c201_2] 63 (0, 0)) (by (with_reducible repeat (first | refine blk_drewN ?_ _ | refine blk_drew ?_ | refine blk_alloc ?_ _)); exact BK202.out) hg (Kd.R_ne HO_9.out BK202.out (by decide))); have n5_ := Aside0.mk (Kd.R_over' (v := (.slice (some ⟨go46, 0, none⟩) x9_2.length co28)) (by (with_reducible repeat (first | apply Kd.R_alloc | apply Kd.R_drewN | apply Kd.R_drew)); exact HL201_2.out) (Kd.R_typed HO_9.out) (by decide) hg); have n6_ := Aside0.mk ((by rw [hw]; exact below_set (HB.out) GB46.out : Below w.heap.size w w50)); clear HO_5; clear HO_6; clear HO_9; clear HO_20; clear BK202; clear HL201_2; clear HB; have HO_5 := n0_; have HO_6 := n1_; have HO_9 := n2_; have HO_20 := n3_; have BK202 := n4_; have HL201_2 := n5_; have HB := n6_; clear n0_ n1_ n2_ n3_ n4_ n5_ n6_; clear hg hw hp_))
                                            (try simp only [← hl9_2])
                                            go_roundg k2
                                            case measure => have := HK1.out; have := HK2.out; omega
                                            case rel => exact ⟨(y209), (wrap64 (x32_2 + 1)), (by first | rfl | (simp; done) | (simp [*]; done) | (simp; unfold wrap64; omega)), H', ⟨by have := HK1.out; have := HK2.out; omega⟩, ⟨by (try simp only [hl9_2]); (with_reducible repeat (first | apply Kd.R_alloc | apply Kd.R_drewN | apply Kd.R_drew)); exact HO_5.out⟩, ⟨by (try simp only [hl9_2]); (with_reducible repeat (first | apply Kd.R_alloc | apply Kd.R_drewN | apply Kd.R_drew)); exact Kd.R_mono HO_6.out (fun _ hk => hk.2)⟩, ⟨by (try simp only [hl9_2]); (with_reducible repeat (first | apply Kd.R_alloc | apply Kd.R_drewN | apply Kd.R_drew)); exact HO_9.out⟩, ⟨by (try simp only [hl9_2]); (with_reducible repeat (first | apply Kd.R_alloc | apply Kd.R_drewN | apply Kd.R_drew)); exact HO_20.out⟩, ⟨by (try simp only [hl9_2]); (with_reducible repeat (first | refine blk_drewN ?_ _ | refine blk_drew ?_ | refine blk_alloc ?_ _)); exact BK202.out⟩, ⟨(Kd.R_reads' (by (with_reducible repeat (first | apply Kd.R_alloc | apply Kd.R_drewN | apply Kd.R_drew)); exact HL201_2.out)).2.2⟩, ⟨by (try simp only [hl9_2]); (with_reducible repeat (first | apply Kd.R_alloc | apply Kd.R_drewN | apply Kd.R_drew)); exact HL201_2.out⟩, ⟨by repeat (first | (with_reducible first | exact HB.out | apply below_alloc | apply pw_below_drewN | apply below_drew1 | refine below_set ?_ GE202.out) | exact HB.out)⟩⟩
                                          · rw [if_neg c45] at H
                                            exact absurd H (by simp)
                                        · rw [if_neg c44] at H
                                          exact absurd H (by simp)
                                      · rw [if_neg c43] at H
                                        exact absurd H (by simp)
                                    · rw [if_neg c41] at H
                                      have c41b0 : decide (0 < x32_2) = false := decide_eq_false c41
                                      clear c41
                                      by_cases c51 : x32_2 < (x9_2.length : Int)
                                      · rw [if_pos c51] at H
                                        have c51b0 : decide (x32_2 < (x9_2.length : Int)) = true := decide_eq_true c51
                                        (try simp only [hl9_2] at c51b0)
                                        clear c51
                                        obtain ⟨y210, hy210⟩ : ∃ y_ : List Bool, y_ = (x9_2.set (x32_2 : Int).toNat false) := ⟨_, rfl⟩
                                        replace H : (glob_Match.l1 k2 t190 x6_1 y210 t197 (t197.length : Int) x22_1 (y203.length : Int) (wrap64 (x32_2 + 1)) true ((rd_T63 t197 x22_1).f1) ((rd_T63 t197 x22_1).f2)) = some r := by first | (rw [hy210]; with_reducible exact H) | (have H2_ := (Option.bind_some _ _).symm.trans H; rw [hy210]; with_reducible exact H2_) | (have H2_ := (Option.bind_some _ _).symm.trans H; with_reducible exact H2_) | with_reducible exact H | (rw [hy210]; exact H) | exact H
                                        have Ny210 := Aside0.mk hy210
                                        clear hy210
                                        have H' := Aside0.mk H
                                        clear H
                                        have hcz53_0 : wr.cell? ⟨gb202, 0, none⟩ = some (.bool true) := (blk_cell BK202.out 0).trans rfl
                                        have hcz53_1 : wr.cell? ⟨gb202, 1, none⟩ = some (.bool ((rd_T63 t197 x22_1).f1)) := (blk_cell BK202.out 1).trans rfl
                                        have hcz53_2 : wr.cell? ⟨gb202, 2, none⟩ = some (.slice A201_2 ((rd_T63 t197 x22_1).f2).length c201_2) := (blk_cell BK202.out 2).trans rfl
                                        have hfz53_0 := blk_frozen BK202.out 0
                                        have hfz53_1 := blk_frozen BK202.out 1
                                        have hfz53_2 := blk_frozen BK202.out 2
                                        obtain ⟨Ao54, co54, eo54⟩ := Kd.R_slice HO_6.out
                                        subst eo54
                                        have p206 : 0 ≤ (x32_2 : Int) := of_decide_eq_true (by first | (with_reducible assumption) | assumption)
                                        have q206 : x32_2 < (x6_1.length : Int) := of_decide_eq_true (by first | (with_reducible assumption) | assumption)
                                        obtain ⟨ad206, e206, hx206_0⟩ := Kd.at_bool (Kd.R_reads' HO_6.out).2.2 x32_2 p206 q206
                                        (try rw [← Nbq33.out] at hx206_0)
                                        cases e206
                                        replace p206 := eq_true p206
                                        replace q206 := eq_true q206
                                        have p52 : 0 ≤ (x32_2 : Int) := of_decide_eq_true (by first | (with_reducible assumption) | assumption)
                                        have q52 : (x32_2 : Int) < ((x9_2.length : Int) : Int) := of_decide_eq_true (by first | (with_reducible assumption) | assumption)
                                        obtain ⟨go52, co52, eo52, gb52, gl52, cl52, HG52⟩ := Kd.R_form HO_9.out (by omega)
                                        (first | cases eo52 | (injection eo52 with ea_ en_ ec_; (first | subst ea_ | (injection ea_ with ea_; subst ea_)); subst ec_; clear en_))
                                        have GB52 := Aside0.mk gb52
                                        have GG52 := Aside0.mk HG52
                                        clear gb52 gl52 HG52
                                        obtain ⟨hx52_0, hf52_0⟩ := Kd.R_celln false HO_9.out (x32_2 : Int) p52 q52
                                        replace p52 := eq_true p52
                                        replace q52 := eq_true q52
                                        have HP55 := Kd.R_putg HO_9.out (x32_2 : Int) false
                                        go_wp2_with (first | ((with_reducible refine gate_store (t := 4) (p := 55) rfl ?_); refine store_event (t := 4) (p := 55) (v := ?vo_w56) (w1 := (wr.setCell ⟨go52, (x32_2 : Int).toNat, none⟩ (.bool false))) ?hg ?ho ?hn ?hr ?_; (case ho => rfl); (case hg => rfl); (case hn => rfl); (case hr => first | (go_simp; done) | (go_simp; rfl)); intro w56 hw; have hg : wr.grownBy w56 (some go52) := (by rw [hw]; exact HP55.2); have hp_ : Kd.R Kd.bool 4 w56 w.heap.size (fun k_ => some k_ ≠ (.slice (some ad206) x6_1.length co54 : Value).ownBlock) (.slice (some ⟨go52, 0, none⟩) x9_2.length co28) y210 := (by rw [hw, Ny210.out]; exact HP55.1); clear HP55; have n0_ := Aside0.mk (Kd.R_over' (v := (.slice (some ⟨go52, 0, none⟩) x9_2.length co28)) (by (with_reducible repeat (first | apply Kd.R_alloc | apply Kd.R_drewN | apply Kd.R_drew)); exact HO_5.out) (Kd.R_typed HO_9.out) (by decide) hg); have n1_ := Aside0.mk (Kd.R_after (v := (.slice (some ⟨go52, 0, none⟩) x9_2.length co28)) (v1 := (.slice (some ⟨go52, 0, none⟩) x9_2.length co28)) (ok := (fun _ => True)) (by (with_reducible repeat (first | apply Kd.R_alloc | apply Kd.R_drewN | apply Kd.R_drew)); exact Kd.R_mono HO_6.out (fun _ hk => ⟨trivial, hk⟩)) hg (.inl rfl)); have n2_ := Aside0.mk (hp_); have n3_ := Aside0.mk (Kd.R_over' (v := (.slice (some ⟨go52, 0, none⟩) x9_2.length co28)) (by (with_reducible repeat (first | apply Kd.R_alloc | apply Kd.R_drewN | apply Kd.R_drew)); exact HO_20.out) (Kd.R_typed HO_9.out) (by decide) hg); have n4_ := Aside0.mk (blk_grown (g := gb202) (o := .cells #[.bool true, .bool ((rd_T63 t197 x22_1).f1), .slice A201_2 ((rd_T63 t197 x22_1).f2).length c201_2] 63 (0, 0)) (by (with_reducible repeat (first | refine blk_drewN ?_ _ | refine blk_drew ?_ | refine blk_alloc ?_ _)); exact BK202.out) hg (Kd.R_ne HO_9.out BK202.out (by decide))); have n5_ := Aside0.mk (Kd.R_over' (v := (.slice (some ⟨go52, 0, none⟩) x9_2.length co28)) (by (with_reducible repeat (first | apply Kd.R_alloc | apply Kd.R_drewN | apply Kd.R_drew)); exact HL201_2.out) (Kd.R_typed HO_9.out) (by decide) hg); have n6_ := Aside0.mk ((by rw [hw]; exact below_set (HB.out) GB52.out : Below w.heap.size w w56)); clear HO_5; clear HO_6; clear HO_9; clear HO_20; clear BK202; clear HL201_2; clear HB; have HO_5 := n0_; have HO_6 := n1_; have HO_9 := n2_; have HO_20 := n3_; have BK202 := n4_; have HL201_2 := n5_; have HB := n6_; clear n0_ n1_ n2_ n3_ n4_ n5_ n6_; clear hg hw hp_))
                                        (try simp only [← hl9_2])
                                        go_roundg k2
                                        case measure => have := HK1.out; have := HK2.out; omega
                                        case rel => exact ⟨(y210), (wrap64 (x32_2 + 1)), (by first | rfl | (simp; done) | (simp [*]; done) | (simp; unfold wrap64; omega)), H', ⟨by have := HK1.out; have := HK2.out; omega⟩, ⟨by (try simp only [hl9_2]); (with_reducible repeat (first | apply Kd.R_alloc | apply Kd.R_drewN | apply Kd.R_drew)); exact HO_5.out⟩, ⟨by (try simp only [hl9_2]); (with_reducible repeat (first | apply Kd.R_alloc | apply Kd.R_drewN | apply Kd.R_drew)); exact Kd.R_mono HO_6.out (fun _ hk => hk.2)⟩, ⟨by (try simp only [hl9_2]); (with_reducible repeat (first | apply Kd.R_alloc | apply Kd.R_drewN | apply Kd.R_drew)); exact HO_9.out⟩, ⟨by (try simp only [hl9_2]); (with_reducible repeat (first | apply Kd.R_alloc | apply Kd.R_drewN | apply Kd.R_drew)); exact HO_20.out⟩, ⟨by (try simp only [hl9_2]); (with_reducible repeat (first | refine blk_drewN ?_ _ | refine blk_drew ?_ | refine blk_alloc ?_ _)); exact BK202.out⟩, ⟨(Kd.R_reads' (by (with_reducible repeat (first | apply Kd.R_alloc | apply Kd.R_drewN | apply Kd.R_drew)); exact HL201_2.out)).2.2⟩, ⟨by (try simp only [hl9_2]); (with_reducible repeat (first | apply Kd.R_alloc | apply Kd.R_drewN | apply Kd.R_drew)); exact HL201_2.out⟩, ⟨by repeat (first | (with_reducible first | exact HB.out | apply below_alloc | apply pw_below_drewN | apply below_drew1 | refine below_set ?_ GE202.out) | exact HB.out)⟩⟩
                                      · rw [if_neg c51] at H
                                        exact absurd H (by simp)
                                · rw [if_neg c32] at H
                                  exact absurd H (by simp)
                              · rw [if_neg c31] at H
                                exact absurd H (by simp)
                            · replace c30 := Bool.eq_false_iff.mpr c30
                              subst c30
                              rw [if_neg (by decide)] at H
                              by_cases c57 : x32_2 > 0
                              · rw [if_pos c57] at H
                                have c57b0 : decide (0 < x32_2) = true := decide_eq_true c57
                                clear c57
                                obtain ⟨ji58, hji58⟩ : ∃ j_ : Int, (wrap64 (x32_2 - 1)) = j_ := ⟨_, rfl⟩
                                replace H : (if 0 ≤ (ji58) then (if (ji58) < (x6_1.length : Int) then (if rdOf false x6_1 (ji58) = true then (if (ji58) < (t190.length : Int) then ((glob_piece_fits.f false ((rd_T63 t197 x22_1).f1) ((rd_T63 t197 x22_1).f2) (rd t190 (ji58))).bind fun t213 => (if 0 ≤ x32_2 then (if x32_2 < (x9_2.length : Int) then (glob_Match.l1 k2 t190 x6_1 (x9_2.set (x32_2 : Int).toNat t213) t197 (t197.length : Int) x22_1 (y203.length : Int) (wrap64 (x32_2 + 1)) false ((rd_T63 t197 x22_1).f1) ((rd_T63 t197 x22_1).f2)) else (none)) else (none))) else (none)) else (if 0 ≤ x32_2 then (if x32_2 < (x9_2.length : Int) then (glob_Match.l1 k2 t190 x6_1 (x9_2.set (x32_2 : Int).toNat false) t197 (t197.length : Int) x22_1 (y203.length : Int) (wrap64 (x32_2 + 1)) false ((rd_T63 t197 x22_1).f1) ((rd_T63 t197 x22_1).f2)) else (none)) else (none))) else (none)) else (none)) = some r := by first | (rw [hji58] at H; exact H) | (simp only [hji58] at H ⊢; exact H)
                                have hji58w : (IntKind.i64.wrap (x32_2 - 1)) = ji58 := (i64_w _).trans hji58
                                by_cases c59 : 0 ≤ (ji58)
                                · rw [if_pos c59] at H
                                  have c59b0 : decide (0 ≤ (ji58)) = true := decide_eq_true c59
                                  clear c59
                                  by_cases c60 : (ji58) < (x6_1.length : Int)
                                  · rw [if_pos c60] at H
                                    have c60b0 : decide ((ji58) < (x6_1.length : Int)) = true := decide_eq_true c60
                                    (try simp only [hl9_2] at c60b0)
                                    clear c60
                                    obtain ⟨bq61, hbq61⟩ : ∃ b_ : Bool, b_ = (rdOf false x6_1 (ji58)) := ⟨_, rfl⟩
                                    replace H : (if bq61 = true then (if (ji58) < (t190.length : Int) then ((glob_piece_fits.f false ((rd_T63 t197 x22_1).f1) ((rd_T63 t197 x22_1).f2) (rd t190 (ji58))).bind fun t213 => (if 0 ≤ x32_2 then (if x32_2 < (x9_2.length : Int) then (glob_Match.l1 k2 t190 x6_1 (x9_2.set (x32_2 : Int).toNat t213) t197 (t197.length : Int) x22_1 (y203.length : Int) (wrap64 (x32_2 + 1)) false ((rd_T63 t197 x22_1).f1) ((rd_T63 t197 x22_1).f2)) else (none)) else (none))) else (none)) else (if 0 ≤ x32_2 then (if x32_2 < (x9_2.length : Int) then (glob_Match.l1 k2 t190 x6_1 (x9_2.set (x32_2 : Int).toNat false) t197 (t197.length : Int) x22_1 (y203.length : Int) (wrap64 (x32_2 + 1)) false ((rd_T63 t197 x22_1).f1) ((rd_T63 t197 x22_1).f2)) else (none)) else (none))) = some r := by rw [← hbq61] at H; exact H
                                    have Nbq61 := Aside0.mk hbq61
                                    clear hbq61
                                    by_cases c62 : bq61 = true
                                    · subst c62
                                      have H1 : (if (ji58) < (t190.length : Int) then ((glob_piece_fits.f false ((rd_T63 t197 x22_1).f1) ((rd_T63 t197 x22_1).f2) (rd t190 (ji58))).bind fun t213 => (if 0 ≤ x32_2 then (if x32_2 < (x9_2.length : Int) then (glob_Match.l1 k2 t190 x6_1 (x9_2.set (x32_2 : Int).toNat t213) t197 (t197.length : Int) x22_1 (y203.length : Int) (wrap64 (x32_2 + 1)) false ((rd_T63 t197 x22_1).f1) ((rd_T63 t197 x22_1).f2)) else (none)) else (none))) else (none)) = some r := by rw [if_pos rfl] at H; exact H
                                      clear H
                                      have H := H1
                                      clear H1
                                      by_cases c63 : (ji58) < (t190.length : Int)
                                      · rw [if_pos c63] at H
                                        have c63b0 : decide ((ji58) < (t190.length : Int)) = true := decide_eq_true c63
                                        (try simp only [hl9_2] at c63b0)
                                        clear c63
                                        replace H := Option.bind_eq_some_iff.mp H
                                        obtain ⟨t213, A640, H⟩ := H
                                        replace H : (if 0 ≤ x32_2 then (if x32_2 < (x9_2.length : Int) then (glob_Match.l1 k2 t190 x6_1 (x9_2.set (x32_2 : Int).toNat t213) t197 (t197.length : Int) x22_1 (y203.length : Int) (wrap64 (x32_2 + 1)) false ((rd_T63 t197 x22_1).f1) ((rd_T63 t197 x22_1).f2)) else (none)) else (none)) = some r := H
                                        have A64 := Aside0.mk A640
                                        clear A640
                                        by_cases c65 : 0 ≤ x32_2
                                        · rw [if_pos c65] at H
                                          have c65b0 : decide (0 ≤ x32_2) = true := decide_eq_true c65
                                          clear c65
                                          by_cases c66 : x32_2 < (x9_2.length : Int)
                                          · rw [if_pos c66] at H
                                            have c66b0 : decide (x32_2 < (x9_2.length : Int)) = true := decide_eq_true c66
                                            (try simp only [hl9_2] at c66b0)
                                            clear c66
                                            obtain ⟨y214, hy214⟩ : ∃ y_ : List Bool, y_ = (x9_2.set (x32_2 : Int).toNat t213) := ⟨_, rfl⟩
                                            replace H : (glob_Match.l1 k2 t190 x6_1 y214 t197 (t197.length : Int) x22_1 (y203.length : Int) (wrap64 (x32_2 + 1)) false ((rd_T63 t197 x22_1).f1) ((rd_T63 t197 x22_1).f2)) = some r := by first | (rw [hy214]; with_reducible exact H) | (have H2_ := (Option.bind_some _ _).symm.trans H; rw [hy214]; with_reducible exact H2_) | (have H2_ := (Option.bind_some _ _).symm.trans H; with_reducible exact H2_) | with_reducible exact H | (rw [hy214]; exact H) | exact H
                                            have Ny214 := Aside0.mk hy214
                                            clear hy214
                                            have H' := Aside0.mk H
                                            clear H
                                            have hcz68_0 : wr.cell? ⟨gb202, 0, none⟩ = some (.bool false) := (blk_cell BK202.out 0).trans rfl
                                            have hcz68_1 : wr.cell? ⟨gb202, 1, none⟩ = some (.bool ((rd_T63 t197 x22_1).f1)) := (blk_cell BK202.out 1).trans rfl
                                            have hcz68_2 : wr.cell? ⟨gb202, 2, none⟩ = some (.slice A201_2 ((rd_T63 t197 x22_1).f2).length c201_2) := (blk_cell BK202.out 2).trans rfl
                                            have hfz68_0 := blk_frozen BK202.out 0
                                            have hfz68_1 := blk_frozen BK202.out 1
                                            have hfz68_2 := blk_frozen BK202.out 2
                                            try go_wp2
                                            have n0_ := Aside0.mk (Kd.R_drew HO_5.out)
                                            have n1_ := Aside0.mk (Kd.R_drew HO_6.out)
                                            have n2_ := Aside0.mk (Kd.R_drew HO_9.out)
                                            have n3_ := Aside0.mk (Kd.R_drew HO_20.out)
                                            have n4_ := Aside0.mk (Kd.R_drew HL201_2.out)
                                            have n5_ := Aside0.mk (blk_drew BK202.out)
                                            have n6_ := Aside0.mk (Kd.C_drew HR201_2.out)
                                            have n7_ := Aside0.mk (below_drew1 HB.out)
                                            clear HO_5
                                            clear HO_6
                                            clear HO_9
                                            clear HO_20
                                            clear HL201_2
                                            clear BK202
                                            clear HR201_2
                                            clear HB
                                            have HO_5 := n0_
                                            have HO_6 := n1_
                                            have HO_9 := n2_
                                            have HO_20 := n3_
                                            have HL201_2 := n4_
                                            have BK202 := n5_
                                            have HR201_2 := n6_
                                            have HB := n7_
                                            clear n0_ n1_ n2_ n3_ n4_ n5_ n6_ n7_
                                            obtain ⟨Ao70, co70, eo70⟩ := Kd.R_slice HO_6.out
                                            (first | subst eo70 | (injection eo70 with f1_ f2_ f3_; have f4_ := f1_.symm; have f5_ := f3_.symm; clear f1_ f2_ f3_; subst f4_; subst f5_))
                                            have p211 : 0 ≤ ((ji58) : Int) := of_decide_eq_true (by first | (with_reducible assumption) | assumption)
                                            have q211 : (ji58) < (x6_1.length : Int) := of_decide_eq_true (by first | (with_reducible assumption) | assumption)
                                            obtain ⟨ad211, e211, hx211_0⟩ := Kd.at_bool (Kd.R_reads' HO_6.out).2.2 (ji58) p211 q211
                                            (try rw [← Nbq61.out] at hx211_0)
                                            cases e211
                                            replace p211 := eq_true p211
                                            replace q211 := eq_true q211
                                            have p212 : 0 ≤ ((ji58) : Int) := of_decide_eq_true (by first | (with_reducible assumption) | assumption)
                                            have q212 : (ji58) < (t190.length : Int) := of_decide_eq_true (by first | (with_reducible assumption) | assumption)
                                            obtain ⟨ad212, e212, hx212_0⟩ := Kd.at_int (Kd.R_reads' HO_5.out).2.2 (ji58) p212 q212
                                            cases e212
                                            replace p212 := eq_true p212
                                            replace q212 := eq_true q212
                                            refine start_ (n := 18) (S := fun w' => w'.cell? ⟨gb202, 0, none⟩ = some (.bool false) ∧ w'.cell? ⟨gb202, 1, none⟩ = some (.bool ((rd_T63 t197 x22_1).f1)) ∧ w'.cell? ⟨gb202, 2, none⟩ = some (.slice A201_2 ((rd_T63 t197 x22_1).f2).length c201_2) ∧ w'.cell? (ad211.add ((ji58)).toNat) = some (.bool true) ∧ w'.cell? (ad212.add ((ji58)).toNat) = some (.int .i32 (rd t190 (ji58)))) (ds := [17]) #[false, false, false, false, false, false, false, false, false, false, false, false, false, false, false, false, false, false] (by kernel_rfl) rfl rfl ⟨(blk_cell BK202.out 0).trans rfl, (blk_cell BK202.out 1).trans rfl, (blk_cell BK202.out 2).trans rfl, hx211_0, hx212_0⟩ (fun hHeld => ?_); refine with_tabW glob_Match.tab14 glob_Match.bits14 (fun HT_ HW_ => ?_)
                                            generalize wr.drew = w69 at HO_5 HO_6 HO_9 HO_20 HL201_2 BK202 HR201_2 HB hx211_0 hx212_0 hHeld ⊢
                                            refine pure_ (i := 0) (N := some 59) (v := ?_) (a' := ?_) #[true, false, false, false, false, false, false, false, false, false, false, false, false, false, false, false, false, false] rfl rfl (any_of HT_.out (by kernel_rfl)) (fun _ _ _ h => h) (Or.inl ⟨by rfl, ?_⟩) ?_ ?_
                                            rotate_left
                                            · intro w'
                                              go_simp
                                              with_reducible rfl
                                            rotate_left
                                            · simp only [Act.put, List.setIfInBounds_toArray, List.set_cons_zero, List.set_cons_succ, i64_w, i32_w]
                                              rfl
                                            refine pure_ (i := 1) (N := some 60) (v := ?_) (a' := ?_) #[true, true, false, false, false, false, false, false, false, false, false, false, false, false, false, false, false, false] rfl rfl (any_of HT_.out (by kernel_rfl)) (fun _ _ _ h => h) (Or.inl ⟨by rfl, ?_⟩) ?_ ?_
                                            rotate_left
                                            · intro w'
                                              go_simp
                                              with_reducible rfl
                                            rotate_left
                                            · simp only [Act.put, List.setIfInBounds_toArray, List.set_cons_zero, List.set_cons_succ, i64_w, i32_w]
                                              rfl
                                            refine pure_ (i := 2) (N := some 61) (v := ?_) (a' := ?_) #[true, true, true, false, false, false, false, false, false, false, false, false, false, false, false, false, false, false] rfl rfl (any_of HT_.out (by kernel_rfl)) (fun _ _ _ h => h) (Or.inl ⟨by rfl, ?_⟩) ?_ ?_
                                            rotate_left
                                            · intro w'
                                              go_simp
                                              with_reducible rfl
                                            rotate_left
                                            · simp only [Act.put, List.setIfInBounds_toArray, List.set_cons_zero, List.set_cons_succ, i64_w, i32_w]
                                              rfl
                                            refine pure_ (i := 3) (N := some 62) (v := ?_) (a' := ?_) #[true, true, true, true, false, false, false, false, false, false, false, false, false, false, false, false, false, false] rfl rfl (any_of HT_.out (by kernel_rfl)) (fun _ _ _ h => h) (Or.inl ⟨by rfl, ?_⟩) ?_ ?_
                                            rotate_left
                                            · intro w'
                                              go_simp
                                              with_reducible rfl
                                            rotate_left
                                            · simp only [Act.put, List.setIfInBounds_toArray, List.set_cons_zero, List.set_cons_succ, i64_w, i32_w]
                                              rfl
                                            refine pure_ (i := 4) (N := some 63) (v := ?_) (a' := ?_) #[true, true, true, true, true, false, false, false, false, false, false, false, false, false, false, false, false, false] rfl rfl (any_of HT_.out (by kernel_rfl)) (fun _ _ _ h => h) (Or.inl ⟨by rfl, ?_⟩) ?_ ?_
                                            rotate_left
                                            · intro w'
                                              go_simp
                                              with_reducible rfl
                                            rotate_left
                                            · simp only [Act.put, List.setIfInBounds_toArray, List.set_cons_zero, List.set_cons_succ, i64_w, i32_w]
                                              rfl
                                            refine pure_ (i := 5) (N := some 64) (v := ?_) (a' := ?_) #[true, true, true, true, true, true, false, false, false, false, false, false, false, false, false, false, false, false] rfl rfl (any_of HT_.out (by kernel_rfl)) (fun _ _ _ h => h) (Or.inl ⟨by rfl, ?_⟩) ?_ ?_
                                            rotate_left
                                            · intro w'
                                              go_simp
                                              with_reducible rfl
                                            rotate_left
                                            · simp only [Act.put, List.setIfInBounds_toArray, List.set_cons_zero, List.set_cons_succ, i64_w, i32_w]
                                              rfl
                                            refine take_ (i := 6) (N := some 65) (v := ?_) (a' := ?_) #[true, true, true, true, true, true, true, false, false, false, false, false, false, false, false, false, false, false] rfl rfl (take_ofW HT_.out HW_.out (by kernel_rfl)) (fun _ _ _ h => h) (Or.inl ⟨by rfl, ?_⟩) hHeld ?_ ?_
                                            rotate_left
                                            · rintro w' ⟨s0, s1, s2, s3, s4⟩
                                              go_simp
                                              with_reducible rfl
                                            rotate_left
                                            · simp only [Act.put, List.setIfInBounds_toArray, List.set_cons_zero, List.set_cons_succ, i64_w, i32_w]
                                              rfl
                                            refine pure_ (i := 7) (N := some 66) (v := ?_) (a' := ?_) #[true, true, true, true, true, true, true, true, false, false, false, false, false, false, false, false, false, false] rfl rfl (any_of HT_.out (by kernel_rfl)) (fun _ _ _ h => h) (Or.inl ⟨by rfl, ?_⟩) ?_ ?_
                                            rotate_left
                                            · intro w'
                                              go_simp
                                              with_reducible rfl
                                            rotate_left
                                            · simp only [Act.put, List.setIfInBounds_toArray, List.set_cons_zero, List.set_cons_succ, i64_w, i32_w]
                                              rfl
                                            refine pure_ (i := 9) (N := some 68) (v := ?_) (a' := ?_) #[true, true, true, true, true, true, true, true, false, true, false, false, false, false, false, false, false, false] rfl rfl (any_of HT_.out (by kernel_rfl)) (fun _ _ _ h => h) (Or.inl ⟨by rfl, ?_⟩) ?_ ?_
                                            rotate_left
                                            · intro w'
                                              go_simp
                                              with_reducible rfl
                                            rotate_left
                                            · simp only [Act.put, List.setIfInBounds_toArray, List.set_cons_zero, List.set_cons_succ, i64_w, i32_w]
                                              rfl
                                            refine pure_ (i := 10) (N := some 69) (v := ?_) (a' := ?_) #[true, true, true, true, true, true, true, true, false, true, true, false, false, false, false, false, false, false] rfl rfl (any_of HT_.out (by kernel_rfl)) (fun _ _ _ h => h) (Or.inl ⟨by rfl, ?_⟩) ?_ ?_
                                            rotate_left
                                            · intro w'
                                              go_simp
                                              with_reducible rfl
                                            rotate_left
                                            · simp only [Act.put, List.setIfInBounds_toArray, List.set_cons_zero, List.set_cons_succ, i64_w, i32_w]
                                              rfl
                                            refine pure_ (i := 11) (N := some 70) (v := ?_) (a' := ?_) #[true, true, true, true, true, true, true, true, false, true, true, true, false, false, false, false, false, false] rfl rfl (any_of HT_.out (by kernel_rfl)) (fun _ _ _ h => h) (Or.inl ⟨by rfl, ?_⟩) ?_ ?_
                                            rotate_left
                                            · intro w'
                                              go_simp
                                              with_reducible rfl
                                            rotate_left
                                            · simp only [Act.put, List.setIfInBounds_toArray, List.set_cons_zero, List.set_cons_succ, i64_w, i32_w]
                                              rfl
                                            refine pure_ (i := 12) (N := some 71) (v := ?_) (a' := ?_) #[true, true, true, true, true, true, true, true, false, true, true, true, true, false, false, false, false, false] rfl rfl (any_of HT_.out (by kernel_rfl)) (fun _ _ _ h => h) (Or.inl ⟨by rfl, ?_⟩) ?_ ?_
                                            rotate_left
                                            · intro w'
                                              go_simp
                                              with_reducible rfl
                                            rotate_left
                                            · simp only [Act.put, List.setIfInBounds_toArray, List.set_cons_zero, List.set_cons_succ, i64_w, i32_w]
                                              rfl
                                            refine take_ (i := 8) (N := some 67) (v := ?_) (a' := ?_) #[true, true, true, true, true, true, true, true, true, true, true, true, true, false, false, false, false, false] rfl rfl (take_ofW HT_.out HW_.out (by kernel_rfl)) (fun _ _ _ h => h) (Or.inl ⟨by rfl, ?_⟩) hHeld ?_ ?_
                                            rotate_left
                                            · rintro w' ⟨s0, s1, s2, s3, s4⟩
                                              go_simp
                                              with_reducible rfl
                                            rotate_left
                                            · simp only [Act.put, List.setIfInBounds_toArray, List.set_cons_zero, List.set_cons_succ, i64_w, i32_w]
                                              rfl
                                            refine take_ (i := 13) (N := some 72) (v := ?_) (a' := ?_) #[true, true, true, true, true, true, true, true, true, true, true, true, true, true, false, false, false, false] rfl rfl (take_ofW HT_.out HW_.out (by kernel_rfl)) (fun _ _ _ h => h) (Or.inl ⟨by rfl, ?_⟩) hHeld ?_ ?_
                                            rotate_left
                                            · rintro w' ⟨s0, s1, s2, s3, s4⟩
                                              go_simp
                                              with_reducible rfl
                                            rotate_left
                                            · simp only [Act.put, List.setIfInBounds_toArray, List.set_cons_zero, List.set_cons_succ, i64_w, i32_w]
                                              rfl
                                            refine one_ (i := 14) (N := some 73) #[true, true, true, true, true, true, true, true, true, true, true, true, true, true, true, false, false, false] rfl rfl (one_of HT_.out (by kernel_rfl)) (by decide) (fun K hK => ?_)
                                            refine goes_ Tryd.func44 (by kernel_rfl) rfl #[.agg #[.bool false, .bool ((rd_T63 t197 x22_1).f1), .slice A201_2 ((rd_T63 t197 x22_1).f2).length c201_2], .int .i32 (rd t190 (ji58))] (by rfl) rfl rfl (by (try simp only [List.map_toArray, List.map_cons, List.map_nil]); first | done | (simp only [hji58]; rfl) | rfl | (simp only [List.length_drop, List.length_take]; rfl) | (simp [*]; done)) ?_
                                            with_reducible refine (glob_piece_fits.calls false ((rd_T63 t197 x22_1).f1) _ _ ((rd_T63 t197 x22_1).f2) (rd t190 (ji58)) t213 _ ?side1 ?side2 A64.out).mono ?_
                                            (case side1 => repeat (first | (with_reducible exact HR201_2.out) | exact (Kd.C_below HR201_2.out HB.out) | (with_reducible refine Kd.C_alloc ?_ _) | (with_reducible refine Kd.C_drewN ?_ _) | (with_reducible refine Kd.C_drew ?_)))
                                            (case side2 => exact HC201_2.out)
                                            rintro e w71 ⟨rfl, hb⟩
                                            have HS3_ := (hb.cell (World.block_lt_of_cell? _ _ (hHeld.2.2.2.1))).trans (hHeld.2.2.2.1)
                                            have HS4_ := (hb.cell (World.block_lt_of_cell? _ _ (hHeld.2.2.2.2))).trans (hHeld.2.2.2.2)
                                            refine ⟨_, rfl, ?_⟩
                                            have n0_ := Aside0.mk (Kd.R_below (by (with_reducible repeat (first | apply Kd.R_alloc | apply Kd.R_drewN | apply Kd.R_drew)); exact HO_5.out) hb)
                                            have n1_ := Aside0.mk (Kd.R_below (by (with_reducible repeat (first | apply Kd.R_alloc | apply Kd.R_drewN | apply Kd.R_drew)); exact HO_6.out) hb)
                                            have n2_ := Aside0.mk (Kd.R_below (by (with_reducible repeat (first | apply Kd.R_alloc | apply Kd.R_drewN | apply Kd.R_drew)); exact HO_9.out) hb)
                                            have n3_ := Aside0.mk (Kd.R_below (by (with_reducible repeat (first | apply Kd.R_alloc | apply Kd.R_drewN | apply Kd.R_drew)); exact HO_20.out) hb)
                                            have n4_ := Aside0.mk (Kd.R_below (by (with_reducible repeat (first | apply Kd.R_alloc | apply Kd.R_drewN | apply Kd.R_drew)); exact HL201_2.out) hb)
                                            have n5_ := Aside0.mk (blk_below (g := gb202) (o := .cells #[.bool false, .bool ((rd_T63 t197 x22_1).f1), .slice A201_2 ((rd_T63 t197 x22_1).f2).length c201_2] 63 (0, 0)) (by (with_reducible repeat (first | refine blk_drewN ?_ _ | refine blk_drew ?_ | refine blk_alloc ?_ _)); exact BK202.out) hb)
                                            have n6_ := Aside0.mk (Kd.C_below (by repeat (first | (with_reducible exact HR201_2.out) | (with_reducible refine Kd.C_alloc ?_ _) | (with_reducible refine Kd.C_drewN ?_ _) | (with_reducible refine Kd.C_drew ?_) | exact HR201_2.out)) hb)
                                            have n7_ := Aside0.mk (below_step (by repeat (first | (with_reducible first | exact HB.out | apply below_alloc | apply pw_below_drewN | apply below_drew1 | refine below_set ?_ GE202.out) | exact HB.out)) hb)
                                            clear HO_5
                                            clear HO_6
                                            clear HO_9
                                            clear HO_20
                                            clear HL201_2
                                            clear BK202
                                            clear HR201_2
                                            clear HB
                                            have HO_5 := n0_
                                            have HO_6 := n1_
                                            have HO_9 := n2_
                                            have HO_20 := n3_
                                            have HL201_2 := n4_
                                            have BK202 := n5_
                                            have HR201_2 := n6_
                                            have HB := n7_
                                            clear n0_ n1_ n2_ n3_ n4_ n5_ n6_ n7_
                                            (try clear hb)
                                            (try clear hb2)
                                            (try clear hk)
                                            (try clear hi)
                                            have p67 : 0 ≤ (x32_2 : Int) := of_decide_eq_true (by first | (with_reducible assumption) | assumption)
                                            have q67 : (x32_2 : Int) < ((x9_2.length : Int) : Int) := of_decide_eq_true (by first | (with_reducible assumption) | assumption)
                                            obtain ⟨go67, co67, eo67, gb67, gl67, cl67, HG67⟩ := Kd.R_form HO_9.out (by omega)
                                            (first | cases eo67 | (injection eo67 with ea_ en_ ec_; (first | subst ea_ | (injection ea_ with ea_; subst ea_)); subst ec_; clear en_))
                                            have GB67 := Aside0.mk gb67
                                            have GG67 := Aside0.mk HG67
                                            clear gb67 gl67 HG67
                                            obtain ⟨hx67_0, hf67_0⟩ := Kd.R_celln false HO_9.out (x32_2 : Int) p67 q67
                                            replace p67 := eq_true p67
                                            replace q67 := eq_true q67
                                            have HP72 := Kd.R_putn HO_9.out (x32_2 : Int) t213
                                            rw [← Ny214.out] at HP72
                                            have HQ72 := Aside0.mk HP72
                                            clear HP72
                                            refine hK.out _ _ ⟨(blk_cell BK202.out 0).trans rfl, (blk_cell BK202.out 1).trans rfl, (blk_cell BK202.out 2).trans rfl, HS3_, HS4_⟩ (fun hHeld => ?_)
                                            clear hK K
                                            refine norm_ (a' := ?_) ?_ ?_
                                            rotate_left
                                            · show Act.put _ (some 73) _ = _
                                              simp only [Act.put, List.setIfInBounds_toArray, List.set_cons_zero, List.set_cons_succ, i64_w, i32_w]
                                              rfl
                                            refine pure_ (i := 15) (N := some 74) (v := ?_) (a' := ?_) #[true, true, true, true, true, true, true, true, true, true, true, true, true, true, true, true, false, false] rfl rfl (any_of HT_.out (by kernel_rfl)) (fun _ _ _ h => h) (Or.inl ⟨by rfl, ?_⟩) ?_ ?_
                                            rotate_left
                                            · intro w'
                                              go_simp
                                              with_reducible rfl
                                            rotate_left
                                            · simp only [Act.put, List.setIfInBounds_toArray, List.set_cons_zero, List.set_cons_succ, i64_w, i32_w]
                                              rfl
                                            refine pure_ (i := 16) (N := some 75) (v := ?_) (a' := ?_) #[true, true, true, true, true, true, true, true, true, true, true, true, true, true, true, true, true, false] rfl rfl (any_of HT_.out (by kernel_rfl)) (fun _ _ _ h => h) (Or.inl ⟨by rfl, ?_⟩) ?_ ?_
                                            rotate_left
                                            · intro w'
                                              go_simp
                                              with_reducible rfl
                                            rotate_left
                                            · simp only [Act.put, List.setIfInBounds_toArray, List.set_cons_zero, List.set_cons_succ, i64_w, i32_w]
                                              rfl
                                            refine last_ (i := 17) (N := none) #[true, true, true, true, true, true, true, true, true, true, true, true, true, true, true, true, true, true] rfl rfl (one_of HT_.out (by kernel_rfl)) (by decide) (fun K hK => ?_)
                                            refine skip_ (w1 := ?_) (by rfl) rfl ?_ ?_
                                            rotate_left
                                            · go_simp
                                              rfl
                                            refine hK.out _ _ ?_
                                            clear hK K
                                            refine done_ (done_of HT_.out (by kernel_rfl)) ?_
                                            try go_wp2
                                            (try simp only [← hl9_2])
                                            go_roundg k2
                                            case measure => have := HK1.out; have := HK2.out; omega
                                            case rel => exact ⟨(y214), (wrap64 (x32_2 + 1)), (by first | rfl | (simp; done) | (simp [*]; done) | (simp; unfold wrap64; omega)), H', ⟨by have := HK1.out; have := HK2.out; omega⟩, ⟨by (try simp only [hl9_2]); (with_reducible repeat (first | apply Kd.R_alloc | apply Kd.R_drewN | apply Kd.R_drew)); exact Kd.R_mono (Kd.R_far (p := ⟨go67, (x32_2 : Int).toNat, none⟩) (Kd.R_types HO_5.out GG67.out (by decide)) (fun _ hk => hk.2) (.bool t213)) (fun _ hk => trivial)⟩, ⟨by (try simp only [hl9_2]); (with_reducible repeat (first | apply Kd.R_alloc | apply Kd.R_drewN | apply Kd.R_drew)); exact Kd.R_mono (Kd.R_far (p := ⟨go67, (x32_2 : Int).toNat, none⟩) (Kd.R_mono HO_6.out (fun k_ hk => (⟨hk, fun e_ => hk (by rw [e_]; rfl)⟩ : _ ∧ k_ ≠ go67))) (fun _ hk => hk.2) (.bool t213)) (fun _ hk => hk.1)⟩, ⟨by (try simp only [hl9_2]); (with_reducible repeat (first | apply Kd.R_alloc | apply Kd.R_drewN | apply Kd.R_drew)); exact HQ72.out⟩, ⟨by (try simp only [hl9_2]); (with_reducible repeat (first | apply Kd.R_alloc | apply Kd.R_drewN | apply Kd.R_drew)); exact Kd.R_mono (Kd.R_far (p := ⟨go67, (x32_2 : Int).toNat, none⟩) (Kd.R_types HO_20.out GG67.out (by decide)) (fun _ hk => hk.2) (.bool t213)) (fun _ hk => hk.1)⟩, ⟨by (try simp only [hl9_2]); (with_reducible repeat (first | refine blk_drewN ?_ _ | refine blk_drew ?_ | refine blk_alloc ?_ _)); refine blk_far ?_ (by have h_ := Kd.R_ne HO_9.out BK202.out (by decide); intro e_; exact h_ (by rw [e_]; rfl)) _; (with_reducible repeat (first | refine blk_drewN ?_ _ | refine blk_drew ?_ | refine blk_alloc ?_ _)); exact BK202.out⟩, ⟨(Kd.R_reads' (by (with_reducible repeat (first | apply Kd.R_alloc | apply Kd.R_drewN | apply Kd.R_drew)); exact (Kd.R_mono (Kd.R_far (p := ⟨go67, (x32_2 : Int).toNat, none⟩) (Kd.R_types HL201_2.out GG67.out (by decide)) (fun _ hk => hk.2) (.bool t213)) (fun _ h_ => h_.1)))).2.2⟩, ⟨by (try simp only [hl9_2]); (with_reducible repeat (first | apply Kd.R_alloc | apply Kd.R_drewN | apply Kd.R_drew)); exact Kd.R_mono (Kd.R_far (p := ⟨go67, (x32_2 : Int).toNat, none⟩) (Kd.R_types HL201_2.out GG67.out (by decide)) (fun _ hk => hk.2) (.bool t213)) (fun _ hk => trivial)⟩, ⟨by repeat (first | (with_reducible first | exact HB.out | apply below_alloc | apply pw_below_drewN | apply below_drew1 | refine below_set ?_ GB67.out | refine below_set ?_ GE202.out) | exact HB.out)⟩⟩
                                          · rw [if_neg c66] at H
                                            exact absurd H (by simp)
                                        · rw [if_neg c65] at H
                                          exact absurd H (by simp)
                                      · rw [if_neg c63] at H
                                        exact absurd H (by simp)
                                    · replace c62 := Bool.eq_false_iff.mpr c62
                                      subst c62
                                      have H1 : (if 0 ≤ x32_2 then (if x32_2 < (x9_2.length : Int) then (glob_Match.l1 k2 t190 x6_1 (x9_2.set (x32_2 : Int).toNat false) t197 (t197.length : Int) x22_1 (y203.length : Int) (wrap64 (x32_2 + 1)) false ((rd_T63 t197 x22_1).f1) ((rd_T63 t197 x22_1).f2)) else (none)) else (none)) = some r := by rw [if_neg (show ¬ (false = true) by decide)] at H; exact H
                                      clear H
                                      have H := H1
                                      clear H1
                                      by_cases c73 : 0 ≤ x32_2
                                      · rw [if_pos c73] at H
                                        have c73b0 : decide (0 ≤ x32_2) = true := decide_eq_true c73
                                        clear c73
                                        by_cases c74 : x32_2 < (x9_2.length : Int)
                                        · rw [if_pos c74] at H
                                          have c74b0 : decide (x32_2 < (x9_2.length : Int)) = true := decide_eq_true c74
                                          (try simp only [hl9_2] at c74b0)
                                          clear c74
                                          obtain ⟨y215, hy215⟩ : ∃ y_ : List Bool, y_ = (x9_2.set (x32_2 : Int).toNat false) := ⟨_, rfl⟩
                                          replace H : (glob_Match.l1 k2 t190 x6_1 y215 t197 (t197.length : Int) x22_1 (y203.length : Int) (wrap64 (x32_2 + 1)) false ((rd_T63 t197 x22_1).f1) ((rd_T63 t197 x22_1).f2)) = some r := by first | (rw [hy215]; with_reducible exact H) | (have H2_ := (Option.bind_some _ _).symm.trans H; rw [hy215]; with_reducible exact H2_) | (have H2_ := (Option.bind_some _ _).symm.trans H; with_reducible exact H2_) | with_reducible exact H | (rw [hy215]; exact H) | exact H
                                          have Ny215 := Aside0.mk hy215
                                          clear hy215
                                          have H' := Aside0.mk H
                                          clear H
                                          have hcz76_0 : wr.cell? ⟨gb202, 0, none⟩ = some (.bool false) := (blk_cell BK202.out 0).trans rfl
                                          have hcz76_1 : wr.cell? ⟨gb202, 1, none⟩ = some (.bool ((rd_T63 t197 x22_1).f1)) := (blk_cell BK202.out 1).trans rfl
                                          have hcz76_2 : wr.cell? ⟨gb202, 2, none⟩ = some (.slice A201_2 ((rd_T63 t197 x22_1).f2).length c201_2) := (blk_cell BK202.out 2).trans rfl
                                          have hfz76_0 := blk_frozen BK202.out 0
                                          have hfz76_1 := blk_frozen BK202.out 1
                                          have hfz76_2 := blk_frozen BK202.out 2
                                          try go_wp2
                                          have n0_ := Aside0.mk (Kd.R_drew HO_5.out)
                                          have n1_ := Aside0.mk (Kd.R_drew HO_6.out)
                                          have n2_ := Aside0.mk (Kd.R_drew HO_9.out)
                                          have n3_ := Aside0.mk (Kd.R_drew HO_20.out)
                                          have n4_ := Aside0.mk (Kd.R_drew HL201_2.out)
                                          have n5_ := Aside0.mk (blk_drew BK202.out)
                                          have n6_ := Aside0.mk (Kd.C_drew HR201_2.out)
                                          have n7_ := Aside0.mk (below_drew1 HB.out)
                                          clear HO_5
                                          clear HO_6
                                          clear HO_9
                                          clear HO_20
                                          clear HL201_2
                                          clear BK202
                                          clear HR201_2
                                          clear HB
                                          have HO_5 := n0_
                                          have HO_6 := n1_
                                          have HO_9 := n2_
                                          have HO_20 := n3_
                                          have HL201_2 := n4_
                                          have BK202 := n5_
                                          have HR201_2 := n6_
                                          have HB := n7_
                                          clear n0_ n1_ n2_ n3_ n4_ n5_ n6_ n7_
                                          obtain ⟨Ao78, co78, eo78⟩ := Kd.R_slice HO_6.out
                                          (first | subst eo78 | (injection eo78 with f1_ f2_ f3_; have f4_ := f1_.symm; have f5_ := f3_.symm; clear f1_ f2_ f3_; subst f4_; subst f5_))
                                          have p211 : 0 ≤ ((ji58) : Int) := of_decide_eq_true (by first | (with_reducible assumption) | assumption)
                                          have q211 : (ji58) < (x6_1.length : Int) := of_decide_eq_true (by first | (with_reducible assumption) | assumption)
                                          obtain ⟨ad211, e211, hx211_0⟩ := Kd.at_bool (Kd.R_reads' HO_6.out).2.2 (ji58) p211 q211
                                          (try rw [← Nbq61.out] at hx211_0)
                                          cases e211
                                          replace p211 := eq_true p211
                                          replace q211 := eq_true q211
                                          have p75 : 0 ≤ (x32_2 : Int) := of_decide_eq_true (by first | (with_reducible assumption) | assumption)
                                          have q75 : (x32_2 : Int) < ((x9_2.length : Int) : Int) := of_decide_eq_true (by first | (with_reducible assumption) | assumption)
                                          obtain ⟨go75, co75, eo75, gb75, gl75, cl75, HG75⟩ := Kd.R_form HO_9.out (by omega)
                                          (first | cases eo75 | (injection eo75 with ea_ en_ ec_; (first | subst ea_ | (injection ea_ with ea_; subst ea_)); subst ec_; clear en_))
                                          have GB75 := Aside0.mk gb75
                                          have GG75 := Aside0.mk HG75
                                          clear gb75 gl75 HG75
                                          obtain ⟨hx75_0, hf75_0⟩ := Kd.R_celln false HO_9.out (x32_2 : Int) p75 q75
                                          replace p75 := eq_true p75
                                          replace q75 := eq_true q75
                                          have HP79 := Kd.R_putn HO_9.out (x32_2 : Int) false
                                          rw [← Ny215.out] at HP79
                                          have HQ79 := Aside0.mk HP79
                                          clear HP79
                                          refine start_ (n := 18) (S := fun w' => w'.cell? (ad211.add ((ji58)).toNat) = some (.bool false)) (ds := [17]) #[false, false, false, false, false, false, false, false, false, false, false, false, false, false, false, false, false, false] (by kernel_rfl) rfl rfl (hx211_0) (fun hHeld => ?_); refine with_tabW glob_Match.tab14 glob_Match.bits14 (fun HT_ HW_ => ?_)
                                          generalize wr.drew = w77 at HO_5 HO_6 HO_9 HO_20 HL201_2 BK202 HR201_2 HB GG75 HQ79 hf75_0 hx211_0 hx75_0 hHeld ⊢
                                          refine pure_ (i := 0) (N := some 59) (v := ?_) (a' := ?_) #[true, false, false, false, false, false, false, false, false, false, false, false, false, false, false, false, false, false] rfl rfl (any_of HT_.out (by kernel_rfl)) (fun _ _ _ h => h) (Or.inl ⟨by rfl, ?_⟩) ?_ ?_
                                          rotate_left
                                          · intro w'
                                            go_simp
                                            with_reducible rfl
                                          rotate_left
                                          · simp only [Act.put, List.setIfInBounds_toArray, List.set_cons_zero, List.set_cons_succ, i64_w, i32_w]
                                            rfl
                                          refine pure_ (i := 1) (N := some 60) (v := ?_) (a' := ?_) #[true, true, false, false, false, false, false, false, false, false, false, false, false, false, false, false, false, false] rfl rfl (any_of HT_.out (by kernel_rfl)) (fun _ _ _ h => h) (Or.inl ⟨by rfl, ?_⟩) ?_ ?_
                                          rotate_left
                                          · intro w'
                                            go_simp
                                            with_reducible rfl
                                          rotate_left
                                          · simp only [Act.put, List.setIfInBounds_toArray, List.set_cons_zero, List.set_cons_succ, i64_w, i32_w]
                                            rfl
                                          refine pure_ (i := 2) (N := some 61) (v := ?_) (a' := ?_) #[true, true, true, false, false, false, false, false, false, false, false, false, false, false, false, false, false, false] rfl rfl (any_of HT_.out (by kernel_rfl)) (fun _ _ _ h => h) (Or.inl ⟨by rfl, ?_⟩) ?_ ?_
                                          rotate_left
                                          · intro w'
                                            go_simp
                                            with_reducible rfl
                                          rotate_left
                                          · simp only [Act.put, List.setIfInBounds_toArray, List.set_cons_zero, List.set_cons_succ, i64_w, i32_w]
                                            rfl
                                          refine pure_ (i := 3) (N := some 62) (v := ?_) (a' := ?_) #[true, true, true, true, false, false, false, false, false, false, false, false, false, false, false, false, false, false] rfl rfl (any_of HT_.out (by kernel_rfl)) (fun _ _ _ h => h) (Or.inl ⟨by rfl, ?_⟩) ?_ ?_
                                          rotate_left
                                          · intro w'
                                            go_simp
                                            with_reducible rfl
                                          rotate_left
                                          · simp only [Act.put, List.setIfInBounds_toArray, List.set_cons_zero, List.set_cons_succ, i64_w, i32_w]
                                            rfl
                                          refine pure_ (i := 4) (N := some 63) (v := ?_) (a' := ?_) #[true, true, true, true, true, false, false, false, false, false, false, false, false, false, false, false, false, false] rfl rfl (any_of HT_.out (by kernel_rfl)) (fun _ _ _ h => h) (Or.inl ⟨by rfl, ?_⟩) ?_ ?_
                                          rotate_left
                                          · intro w'
                                            go_simp
                                            with_reducible rfl
                                          rotate_left
                                          · simp only [Act.put, List.setIfInBounds_toArray, List.set_cons_zero, List.set_cons_succ, i64_w, i32_w]
                                            rfl
                                          refine pure_ (i := 5) (N := some 64) (v := ?_) (a' := ?_) #[true, true, true, true, true, true, false, false, false, false, false, false, false, false, false, false, false, false] rfl rfl (any_of HT_.out (by kernel_rfl)) (fun _ _ _ h => h) (Or.inl ⟨by rfl, ?_⟩) ?_ ?_
                                          rotate_left
                                          · intro w'
                                            go_simp
                                            with_reducible rfl
                                          rotate_left
                                          · simp only [Act.put, List.setIfInBounds_toArray, List.set_cons_zero, List.set_cons_succ, i64_w, i32_w]
                                            rfl
                                          refine take_ (i := 6) (N := some 65) (v := ?_) (a' := ?_) #[true, true, true, true, true, true, true, false, false, false, false, false, false, false, false, false, false, false] rfl rfl (take_ofW HT_.out HW_.out (by kernel_rfl)) (fun _ _ _ h => h) (Or.inl ⟨by rfl, ?_⟩) hHeld ?_ ?_
                                          rotate_left
                                          · intro w' s0
                                            go_simp
                                            with_reducible rfl
                                          rotate_left
                                          · simp only [Act.put, List.setIfInBounds_toArray, List.set_cons_zero, List.set_cons_succ, i64_w, i32_w]
                                            rfl
                                          refine pure_ (i := 7) (N := some 66) (v := ?_) (a' := ?_) #[true, true, true, true, true, true, true, true, false, false, false, false, false, false, false, false, false, false] rfl rfl (any_of HT_.out (by kernel_rfl)) (fun _ _ _ h => h) (Or.inl ⟨by rfl, ?_⟩) ?_ ?_
                                          rotate_left
                                          · intro w'
                                            go_simp
                                            with_reducible rfl
                                          rotate_left
                                          · simp only [Act.put, List.setIfInBounds_toArray, List.set_cons_zero, List.set_cons_succ, i64_w, i32_w]
                                            rfl
                                          refine pure_ (i := 8) (N := some 67) (v := undef) (a' := ?_) #[true, true, true, true, true, true, true, true, true, false, false, false, false, false, false, false, false, false] rfl rfl (any_of HT_.out (by kernel_rfl)) (fun _ _ _ h => h) (Or.inr ⟨by rfl, rfl⟩) ?_ ?_
                                          rotate_left
                                          · simp only [Act.put, List.setIfInBounds_toArray, List.set_cons_zero, List.set_cons_succ, i64_w, i32_w]
                                            rfl
                                          refine pure_ (i := 9) (N := some 68) (v := undef) (a' := ?_) #[true, true, true, true, true, true, true, true, true, true, false, false, false, false, false, false, false, false] rfl rfl (any_of HT_.out (by kernel_rfl)) (fun _ _ _ h => h) (Or.inr ⟨by rfl, rfl⟩) ?_ ?_
                                          rotate_left
                                          · simp only [Act.put, List.setIfInBounds_toArray, List.set_cons_zero, List.set_cons_succ, i64_w, i32_w]
                                            rfl
                                          refine pure_ (i := 10) (N := some 69) (v := undef) (a' := ?_) #[true, true, true, true, true, true, true, true, true, true, true, false, false, false, false, false, false, false] rfl rfl (any_of HT_.out (by kernel_rfl)) (fun _ _ _ h => h) (Or.inr ⟨by rfl, rfl⟩) ?_ ?_
                                          rotate_left
                                          · simp only [Act.put, List.setIfInBounds_toArray, List.set_cons_zero, List.set_cons_succ, i64_w, i32_w]
                                            rfl
                                          refine pure_ (i := 11) (N := some 70) (v := undef) (a' := ?_) #[true, true, true, true, true, true, true, true, true, true, true, true, false, false, false, false, false, false] rfl rfl (any_of HT_.out (by kernel_rfl)) (fun _ _ _ h => h) (Or.inr ⟨by rfl, rfl⟩) ?_ ?_
                                          rotate_left
                                          · simp only [Act.put, List.setIfInBounds_toArray, List.set_cons_zero, List.set_cons_succ, i64_w, i32_w]
                                            rfl
                                          refine pure_ (i := 12) (N := some 71) (v := undef) (a' := ?_) #[true, true, true, true, true, true, true, true, true, true, true, true, true, false, false, false, false, false] rfl rfl (any_of HT_.out (by kernel_rfl)) (fun _ _ _ h => h) (Or.inr ⟨by rfl, rfl⟩) ?_ ?_
                                          rotate_left
                                          · simp only [Act.put, List.setIfInBounds_toArray, List.set_cons_zero, List.set_cons_succ, i64_w, i32_w]
                                            rfl
                                          refine pure_ (i := 13) (N := some 72) (v := undef) (a' := ?_) #[true, true, true, true, true, true, true, true, true, true, true, true, true, true, false, false, false, false] rfl rfl (any_of HT_.out (by kernel_rfl)) (fun _ _ _ h => h) (Or.inr ⟨by rfl, rfl⟩) ?_ ?_
                                          rotate_left
                                          · simp only [Act.put, List.setIfInBounds_toArray, List.set_cons_zero, List.set_cons_succ, i64_w, i32_w]
                                            rfl
                                          refine pure_ (i := 14) (N := some 73) (v := undef) (a' := ?_) #[true, true, true, true, true, true, true, true, true, true, true, true, true, true, true, false, false, false] rfl rfl (any_of HT_.out (by kernel_rfl)) (fun _ _ _ h => h) (Or.inr ⟨by rfl, rfl⟩) ?_ ?_
                                          rotate_left
                                          · simp only [Act.put, List.setIfInBounds_toArray, List.set_cons_zero, List.set_cons_succ, i64_w, i32_w]
                                            rfl
                                          refine pure_ (i := 15) (N := some 74) (v := ?_) (a' := ?_) #[true, true, true, true, true, true, true, true, true, true, true, true, true, true, true, true, false, false] rfl rfl (any_of HT_.out (by kernel_rfl)) (fun _ _ _ h => h) (Or.inl ⟨by rfl, ?_⟩) ?_ ?_
                                          rotate_left
                                          · intro w'
                                            go_simp
                                            with_reducible rfl
                                          rotate_left
                                          · simp only [Act.put, List.setIfInBounds_toArray, List.set_cons_zero, List.set_cons_succ, i64_w, i32_w]
                                            rfl
                                          refine pure_ (i := 16) (N := some 75) (v := ?_) (a' := ?_) #[true, true, true, true, true, true, true, true, true, true, true, true, true, true, true, true, true, false] rfl rfl (any_of HT_.out (by kernel_rfl)) (fun _ _ _ h => h) (Or.inl ⟨by rfl, ?_⟩) ?_ ?_
                                          rotate_left
                                          · intro w'
                                            go_simp
                                            with_reducible rfl
                                          rotate_left
                                          · simp only [Act.put, List.setIfInBounds_toArray, List.set_cons_zero, List.set_cons_succ, i64_w, i32_w]
                                            rfl
                                          refine last_ (i := 17) (N := none) #[true, true, true, true, true, true, true, true, true, true, true, true, true, true, true, true, true, true] rfl rfl (one_of HT_.out (by kernel_rfl)) (by decide) (fun K hK => ?_)
                                          refine skip_ (w1 := ?_) (by rfl) rfl ?_ ?_
                                          rotate_left
                                          · go_simp
                                            rfl
                                          refine hK.out _ _ ?_
                                          clear hK K
                                          refine done_ (done_of HT_.out (by kernel_rfl)) ?_
                                          try go_wp2
                                          (try simp only [← hl9_2])
                                          go_roundg k2
                                          case measure => have := HK1.out; have := HK2.out; omega
                                          case rel => exact ⟨(y215), (wrap64 (x32_2 + 1)), (by first | rfl | (simp; done) | (simp [*]; done) | (simp; unfold wrap64; omega)), H', ⟨by have := HK1.out; have := HK2.out; omega⟩, ⟨by (try simp only [hl9_2]); (with_reducible repeat (first | apply Kd.R_alloc | apply Kd.R_drewN | apply Kd.R_drew)); exact Kd.R_mono (Kd.R_far (p := ⟨go75, (x32_2 : Int).toNat, none⟩) (Kd.R_types HO_5.out GG75.out (by decide)) (fun _ hk => hk.2) (.bool false)) (fun _ hk => trivial)⟩, ⟨by (try simp only [hl9_2]); (with_reducible repeat (first | apply Kd.R_alloc | apply Kd.R_drewN | apply Kd.R_drew)); exact Kd.R_mono (Kd.R_far (p := ⟨go75, (x32_2 : Int).toNat, none⟩) (Kd.R_mono HO_6.out (fun k_ hk => (⟨hk, fun e_ => hk (by rw [e_]; rfl)⟩ : _ ∧ k_ ≠ go75))) (fun _ hk => hk.2) (.bool false)) (fun _ hk => hk.1)⟩, ⟨by (try simp only [hl9_2]); (with_reducible repeat (first | apply Kd.R_alloc | apply Kd.R_drewN | apply Kd.R_drew)); exact HQ79.out⟩, ⟨by (try simp only [hl9_2]); (with_reducible repeat (first | apply Kd.R_alloc | apply Kd.R_drewN | apply Kd.R_drew)); exact Kd.R_mono (Kd.R_far (p := ⟨go75, (x32_2 : Int).toNat, none⟩) (Kd.R_types HO_20.out GG75.out (by decide)) (fun _ hk => hk.2) (.bool false)) (fun _ hk => hk.1)⟩, ⟨by (try simp only [hl9_2]); (with_reducible repeat (first | refine blk_drewN ?_ _ | refine blk_drew ?_ | refine blk_alloc ?_ _)); refine blk_far ?_ (by have h_ := Kd.R_ne HO_9.out BK202.out (by decide); intro e_; exact h_ (by rw [e_]; rfl)) _; (with_reducible repeat (first | refine blk_drewN ?_ _ | refine blk_drew ?_ | refine blk_alloc ?_ _)); exact BK202.out⟩, ⟨(Kd.R_reads' (by (with_reducible repeat (first | apply Kd.R_alloc | apply Kd.R_drewN | apply Kd.R_drew)); exact (Kd.R_mono (Kd.R_far (p := ⟨go75, (x32_2 : Int).toNat, none⟩) (Kd.R_types HL201_2.out GG75.out (by decide)) (fun _ hk => hk.2) (.bool false)) (fun _ h_ => h_.1)))).2.2⟩, ⟨by (try simp only [hl9_2]); (with_reducible repeat (first | apply Kd.R_alloc | apply Kd.R_drewN | apply Kd.R_drew)); exact Kd.R_mono (Kd.R_far (p := ⟨go75, (x32_2 : Int).toNat, none⟩) (Kd.R_types HL201_2.out GG75.out (by decide)) (fun _ hk => hk.2) (.bool false)) (fun _ hk => trivial)⟩, ⟨by repeat (first | (with_reducible first | exact HB.out | apply below_alloc | apply pw_below_drewN | apply below_drew1 | refine below_set ?_ GB75.out | refine below_set ?_ GE202.out) | exact HB.out)⟩⟩
                                        · rw [if_neg c74] at H
                                          exact absurd H (by simp)
                                      · rw [if_neg c73] at H
                                        exact absurd H (by simp)
                                  · rw [if_neg c60] at H
                                    exact absurd H (by simp)
                                · rw [if_neg c59] at H
                                  exact absurd H (by simp)
                              · rw [if_neg c57] at H
                                have c57b0 : decide (0 < x32_2) = false := decide_eq_false c57
                                clear c57
                                have H' := Aside0.mk H
                                clear H
                                have hcz80_0 : wr.cell? ⟨gb202, 0, none⟩ = some (.bool false) := (blk_cell BK202.out 0).trans rfl
                                have hcz80_1 : wr.cell? ⟨gb202, 1, none⟩ = some (.bool ((rd_T63 t197 x22_1).f1)) := (blk_cell BK202.out 1).trans rfl
                                have hcz80_2 : wr.cell? ⟨gb202, 2, none⟩ = some (.slice A201_2 ((rd_T63 t197 x22_1).f2).length c201_2) := (blk_cell BK202.out 2).trans rfl
                                have hfz80_0 := blk_frozen BK202.out 0
                                have hfz80_1 := blk_frozen BK202.out 1
                                have hfz80_2 := blk_frozen BK202.out 2
                                go_wp2
                                (try simp only [← hl9_2])
                                go_roundg k2
                                case measure => have := HK1.out; have := HK2.out; omega
                                case rel => exact ⟨(x9_2), (wrap64 (x32_2 + 1)), (by first | rfl | (simp; done) | (simp [*]; done) | (simp; unfold wrap64; omega)), H', ⟨by have := HK1.out; have := HK2.out; omega⟩, ⟨by (try simp only [hl9_2]); (with_reducible repeat (first | apply Kd.R_alloc | apply Kd.R_drewN | apply Kd.R_drew)); exact HO_5.out⟩, ⟨by (try simp only [hl9_2]); (with_reducible repeat (first | apply Kd.R_alloc | apply Kd.R_drewN | apply Kd.R_drew)); exact HO_6.out⟩, ⟨by (try simp only [hl9_2]); (with_reducible repeat (first | apply Kd.R_alloc | apply Kd.R_drewN | apply Kd.R_drew)); exact HO_9.out⟩, ⟨by (try simp only [hl9_2]); (with_reducible repeat (first | apply Kd.R_alloc | apply Kd.R_drewN | apply Kd.R_drew)); exact HO_20.out⟩, ⟨by (try simp only [hl9_2]); (with_reducible repeat (first | refine blk_drewN ?_ _ | refine blk_drew ?_ | refine blk_alloc ?_ _)); exact BK202.out⟩, ⟨by repeat (first | (with_reducible exact HR201_2.out) | (with_reducible refine Kd.C_alloc ?_ _) | (with_reducible refine Kd.C_drewN ?_ _) | (with_reducible refine Kd.C_drew ?_) | exact HR201_2.out)⟩, ⟨by (try simp only [hl9_2]); (with_reducible repeat (first | apply Kd.R_alloc | apply Kd.R_drewN | apply Kd.R_drew)); exact HL201_2.out⟩, ⟨by repeat (first | (with_reducible first | exact HB.out | apply below_alloc | apply pw_below_drewN | apply below_drew1 | refine below_set ?_ GE202.out) | exact HB.out)⟩⟩
                          · rw [if_neg c29] at H
                            have c29b0 : decide (x32_2 < (y203.length : Int)) = false := decide_eq_false c29
                            (try simp only [hl9_2] at c29b0)
                            clear c29
                            have H' := Aside0.mk H
                            clear H
                            go_wp2
                            (try simp only [← hl9_2])
                            go_roundg k2
                            case measure => have := HK1.out; have := HK2.out; omega
                            case rel => exact ⟨(x9_2), (wrap64 (x22_1 + 1)), (by first | rfl | (simp; done) | (simp [*]; done) | (simp; unfold wrap64; omega)), H', ⟨by have := HK1.out; have := HK2.out; omega⟩, ⟨by (try simp only [hl9_2]); (with_reducible repeat (first | apply Kd.R_alloc | apply Kd.R_drewN | apply Kd.R_drew)); exact HO_5.out⟩, ⟨by (try simp only [hl9_2]); (with_reducible repeat (first | apply Kd.R_alloc | apply Kd.R_drewN | apply Kd.R_drew)); exact Kd.R_mono HO_9.out (fun _ hk => trivial)⟩, ⟨by (try simp only [hl9_2]); (with_reducible repeat (first | apply Kd.R_alloc | apply Kd.R_drewN | apply Kd.R_drew)); exact Kd.R_mono HO_20.out (fun _ hk => trivial)⟩, ⟨by repeat (first | (with_reducible first | exact HB.out | apply below_alloc | apply pw_below_drewN | apply below_drew1 | refine below_set ?_ GE202.out) | exact HB.out)⟩⟩
                    · rw [if_neg c23] at H
                      exact absurd H (by simp)
                  · rw [if_neg c22] at H
                    exact absurd H (by simp)
                · rw [if_neg c20] at H
                  exact absurd H (by simp)
              · rw [if_neg c19] at H
                exact absurd H (by simp)
            · rw [if_neg c18] at H
              have c18b0 : decide (x22_1 < (t197.length : Int)) = false := decide_eq_false c18
              clear c18
              by_cases c81 : 0 ≤ (t190.length : Int)
              · rw [if_pos c81] at H
                have c81b0 : decide (0 ≤ (t190.length : Int)) = true := decide_eq_true c81
                have c81b1 : decide (0 ≤ t190.length) = true := decide_eq_true (by omega)
                clear c81
                by_cases c82 : (t190.length : Int) < (x6_1.length : Int)
                · rw [if_pos c82] at H
                  have c82b0 : decide ((t190.length : Int) < (x6_1.length : Int)) = true := decide_eq_true c82
                  have c82b1 : decide (t190.length < x6_1.length) = true := decide_eq_true (Int.ofNat_lt.mp c82)
                  clear c82
                  obtain rfl := Option.some.inj H
                  obtain ⟨Ao83, co83, eo83⟩ := Kd.R_slice HO_6.out
                  subst eo83
                  have p200 : 0 ≤ ((t190.length : Int) : Int) := of_decide_eq_true (by first | (with_reducible assumption) | assumption)
                  have q200 : (t190.length : Int) < (x6_1.length : Int) := of_decide_eq_true (by first | (with_reducible assumption) | assumption)
                  obtain ⟨ad200, e200, hx200_0⟩ := Kd.at_bool (Kd.R_reads' HO_6.out).2.2 (t190.length : Int) p200 q200
                  cases e200
                  (try simp only [Go.IntWalk.toNatUp] at hx200_0)
                  replace p200 := eq_true p200
                  replace q200 := eq_true q200
                  go_wp2
                  go_ret
                  exact ⟨by first | rfl | (simp [errW_none, errW_some] <;> rfl) | (simp only [← hji4]; first | rfl | (simp [errW_none, errW_some] <;> rfl)) | (simp [*, errW_none, errW_some] <;> rfl), by repeat (first | (with_reducible first | exact HB.out | apply below_alloc | apply pw_below_drewN | apply below_drew1) | exact HB.out)⟩
                · rw [if_neg c82] at H
                  exact absurd H (by simp)
              · rw [if_neg c81] at H
                exact absurd H (by simp)
      · rw [if_neg c7] at H
        exact absurd H (by simp)
    · rw [if_neg c6] at H
      exact absurd H (by simp)
  · rw [if_neg c5] at H
    exact absurd H (by simp)

end Go.Proofs.YtnhmfeihnjdcpaaDoor.QGlobStar
