/- Contracts of the calls, by hand. -/
import Derived.Test.YtekebjkcolhcoaaQStateSamex8
import Derived.Test.YtekebjkcolhcoaaSame1
import Derived.Test.YtekebjkcolhcoaaSame2
import Derived.RangeFuncNested
import Derived.RangeFuncBound
import Derived.RangeFuncCalls
import Derived.RangeFuncLeaves
import Derived.RangeFuncBox
import Derived.Shelf.Abstract
import Derived.Shelf.RegionOpen
import Derived.OwnWalkIn
import Derived.TacticsInMore
import Derived.LoopNIn
import Derived.LoopIn
import Derived.Sort.QuietIn
import Derived.Sort.CutIn
import Derived.Stop.RegionWithIn
import Derived.StillTailTactics
import Derived.Test.YtekebjkcolhcoaaQStateSamex7
namespace Go.Proofs.Ytekebjkcolhcoaa.Hnd
open Go.RowKit Go.Proofs.Ytekebjkcolhcoaa.QStateSame Go.Proofs.YtekebjkcolhcoaaW.PrintWords Go.Proofs.YtekebjkcolhcoaaW.PrintLast  Go.Shelf
set_option linter.unusedVariables false
set_option linter.unusedSimpArgs false
set_option linter.unusedVariables false
set_option linter.unusedSimpArgs false
attribute [local go_sem] Oper.semAt_some
attribute [local go_sem high] eqA29 eqA31
theorem ex_fr : ∃ fr : S59 → S59 → Bool, ∀ x y, (fr x y = true ↔ x = y) := ⟨fun x y => @decide (x = y) (Classical.propDecidable _), fun x y => @decide_eq_true_iff (x = y) (Classical.propDecidable _)⟩
theorem fr_ok {fr : S59 → S59 → Bool} (h : ∀ x y, (fr x y = true ↔ x = y)) : FrOk fr := fun x y h4 h5 h6 h7 => (frame_ev h4 h5 h6 h7 (h x y)).rounds
theorem eqL_tell {fr : S59 → S59 → Bool} (h : ∀ x y, (fr x y = true ↔ x = y)) : ∀ l m : List S59, (eqL fr l m = true ↔ l = m)
  | [], [] => by simp [eqL]
  | [], _ :: _ => by simp [eqL]
  | _ :: _, [] => by simp [eqL]
  | x :: l, y :: m => by rw [eqL, Bool.and_eq_true, h, eqL_tell h l m, List.cons.injEq]
theorem n36s {x y : S36} : x = y ↔ x.f2 = y.f2 ∧ x.f3 = y.f3 ∧ x.f4 = y.f4 ∧ x.f5 = y.f5 ∧ x.f6 = y.f6 ∧ x.f8 = y.f8 ∧ x.f9 = y.f9 ∧ x.f10 = y.f10 ∧ x.f11 = y.f11 ∧ x.f0 = y.f0 ∧ x.f1 = y.f1 ∧ x.f7 = y.f7 ∧ x.f12 = y.f12 :=
  ⟨fun h => by subst h; simp, fun ⟨h2, h3, h4, h5, h6, h8, h9, h10, h11, h0, h1, h7, h12⟩ => n36.2 ⟨h0, h1, h2, h3, h4, h5, h6, h7, h8, h9, h10, h11, h12⟩⟩
theorem envsame_c {w : World} {x y : S26} {A0 A1 A2 B0 B1 B2 : Option Addr} {c0 c1 c2 d0 d1 d2 : Nat} (a0 : x.f0.length ≤ c0 ∧ k71.C w A0 x.f0.length x.f0) (a1 : x.f1.length ≤ c1 ∧ Kd.string.C w A1 x.f1.length x.f1) (a2 : x.f2.length ≤ c2 ∧ k67.C w A2 x.f2.length x.f2) (b0 : y.f0.length ≤ d0 ∧ k71.C w B0 y.f0.length y.f0) (b1 : y.f1.length ≤ d1 ∧ Kd.string.C w B1 y.f1.length y.f1) (b2 : y.f2.length ≤ d2 ∧ k67.C w B2 y.f2.length y.f2) {r : Bool} (hr : r = true ↔ x = y) :
    Calls Try.prog 25 #[.agg #[.slice A0 x.f0.length c0, .slice A1 x.f1.length c1, .slice A2 x.f2.length c2], .agg #[.slice B0 y.f0.length d0, .slice B1 y.f1.length d1, .slice B2 y.f2.length d2]] w fun e w' => e = .returned (.bool r) ∧ Below w.heap.size w w' := by
  obtain ⟨k, hk⟩ := (env_ev (Kd.C_max a0.2) (Kd.C_max a1.2) (Kd.C_max a2.2) hr).rounds
  exact env_Same.calls k A0 c0 x.f0 A1 c1 x.f1 A2 c2 x.f2 B0 d0 y.f0 B1 d1 y.f1 B2 d2 y.f2 r w a0.2 a0.1 a1.2 a1.1 a2.2 a2.1 b0.2 b0.1 b1.2 b1.1 b2.2 b2.1 hk
theorem renvsame_c {w : World} {x y : S26} {A0 A1 A2 B0 B1 B2 : Option Addr} {c0 c1 c2 d0 d1 d2 : Nat} (a0 : x.f0.length ≤ c0 ∧ k71.C w A0 x.f0.length x.f0) (a1 : x.f1.length ≤ c1 ∧ Kd.string.C w A1 x.f1.length x.f1) (a2 : x.f2.length ≤ c2 ∧ k67.C w A2 x.f2.length x.f2) (b0 : y.f0.length ≤ d0 ∧ k71.C w B0 y.f0.length y.f0) (b1 : y.f1.length ≤ d1 ∧ Kd.string.C w B1 y.f1.length y.f1) (b2 : y.f2.length ≤ d2 ∧ k67.C w B2 y.f2.length y.f2) {r : Bool} (hr : r = true ↔ x = y) :
    Calls Try.prog 13 #[.agg #[.slice A0 x.f0.length c0, .slice A1 x.f1.length c1, .slice A2 x.f2.length c2], .agg #[.slice B0 y.f0.length d0, .slice B1 y.f1.length d1, .slice B2 y.f2.length d2]] w fun e w' => e = .returned (.bool r) ∧ Below w.heap.size w w' := by
  obtain ⟨k, hk⟩ := (renv_ev (Kd.C_max a0.2) (Kd.C_max a1.2) (Kd.C_max a2.2) hr).rounds
  exact lazarusref14_Same.calls k A0 c0 x.f0 A1 c1 x.f1 A2 c2 x.f2 B0 d0 y.f0 B1 d1 y.f1 B2 d2 y.f2 r w a0.2 a0.1 a1.2 a1.1 a2.2 a2.1 b0.2 b0.1 b1.2 b1.1 b2.2 b2.1 hk
theorem filesame_c {w : World} {x y : List S56} {A0 B0 : Option Addr} {c0 d0 : Nat} (a0 : x.length ≤ c0 ∧ k56.C w A0 x.length x) (b0 : y.length ≤ d0 ∧ k56.C w B0 y.length y) {r : Bool} (hr : r = true ↔ x = y) :
    Calls Try.prog 26 #[.slice A0 x.length c0, .slice B0 y.length d0] w fun e w' => e = .returned (.bool r) ∧ Below w.heap.size w w' := by
  obtain ⟨k, hk⟩ := (sl_ev (Kd.C_max a0.2) hr).rounds
  exact (api_File_26.calls k A0 c0 x B0 d0 y r w a0.2 a0.1 b0.2 b0.1 hk).mono fun e w' h => ⟨h.1, h.2.below⟩
theorem rfilesame_c {w : World} {x y : List S56} {A0 B0 : Option Addr} {c0 d0 : Nat} (a0 : x.length ≤ c0 ∧ k56.C w A0 x.length x) (b0 : y.length ≤ d0 ∧ k56.C w B0 y.length y) {r : Bool} (hr : r = true ↔ x = y) :
    Calls Try.prog 30 #[.slice A0 x.length c0, .slice B0 y.length d0] w fun e w' => e = .returned (.bool r) ∧ Below w.heap.size w w' := by
  obtain ⟨k, hk⟩ := (rl_ev (Kd.C_max a0.2) hr).rounds
  exact (lazarusref17_Same.calls k A0 c0 x B0 d0 y r w a0.2 a0.1 b0.2 b0.1 hk).mono fun e w' h => ⟨h.1, h.2.below⟩
theorem framesame_c {w : World} {x y : List S59} {A0 B0 : Option Addr} {c0 d0 : Nat} (a0 : x.length ≤ c0 ∧ k59.C w A0 x.length x) (b0 : y.length ≤ d0 ∧ k59.C w B0 y.length y) (hl : x.length ≤ 1000000) {r : Bool} (hr : r = true ↔ x = y) :
    Calls Try.prog 27 #[.slice A0 x.length c0, .slice B0 y.length d0, .func (.func 28) #[] #[]] w fun e w' => e = .returned (.bool r) ∧ Below w.heap.size w w' := by
  obtain ⟨fr, hfr⟩ := ex_fr
  obtain rfl : eqL fr x y = r := Bool.eq_iff_iff.2 ((eqL_tell hfr x y).trans hr.symm)
  exact equalfunc_c (fr_ok hfr) a0.2 a0.1 b0.2 b0.1 hl
theorem callsame_c {w : World} {x y : S34} {A1 A2 B1 B2 : Option Addr} {c1 c2 d1 d2 : Nat} (a1 : x.f1.length ≤ c1 ∧ Kd.string.C w A1 x.f1.length x.f1) (a2 : x.f2.length ≤ c2 ∧ k71.C w A2 x.f2.length x.f2) (b1 : y.f1.length ≤ d1 ∧ Kd.string.C w B1 y.f1.length y.f1) (b2 : y.f2.length ≤ d2 ∧ k71.C w B2 y.f2.length y.f2) {r : Bool} (hr : r = true ↔ x = y) :
    Calls Try.prog 29 #[.agg #[.int .i64 x.f0, .slice A1 x.f1.length c1, .slice A2 x.f2.length c2, .string x.f3], .agg #[.int .i64 y.f0, .slice B1 y.f1.length d1, .slice B2 y.f2.length d2, .string y.f3]] w fun e w' => e = .returned (.bool r) ∧ Below w.heap.size w w' := by
  obtain ⟨k, hk⟩ := (call_ev (Kd.C_max a1.2) (Kd.C_max a2.2) hr).rounds
  exact state_sameCall.calls k x.f0 A1 c1 x.f1 A2 c2 x.f2 x.f3 y.f0 B1 d1 y.f1 B2 d2 y.f2 y.f3 r w a1.2 a1.1 a2.2 a2.1 b1.2 b1.1 b2.2 b2.1 hk
theorem rcallsame_c {w : World} {x y : S34} {A1 A2 B1 B2 : Option Addr} {c1 c2 d1 d2 : Nat} (a1 : x.f1.length ≤ c1 ∧ Kd.string.C w A1 x.f1.length x.f1) (a2 : x.f2.length ≤ c2 ∧ k71.C w A2 x.f2.length x.f2) (b1 : y.f1.length ≤ d1 ∧ Kd.string.C w B1 y.f1.length y.f1) (b2 : y.f2.length ≤ d2 ∧ k71.C w B2 y.f2.length y.f2) {r : Bool} (hr : r = true ↔ x = y) :
    Calls Try.prog 32 #[.agg #[.int .i64 x.f0, .slice A1 x.f1.length c1, .slice A2 x.f2.length c2, .string x.f3], .agg #[.int .i64 y.f0, .slice B1 y.f1.length d1, .slice B2 y.f2.length d2, .string y.f3]] w fun e w' => e = .returned (.bool r) ∧ Below w.heap.size w w' := by
  obtain ⟨k, hk⟩ := (rcall_ev (Kd.C_max a1.2) (Kd.C_max a2.2) hr).rounds
  exact lazarusref19_Calls.calls k x.f0 A1 c1 x.f1 A2 c2 x.f2 x.f3 y.f0 B1 d1 y.f1 B2 d2 y.f2 y.f3 r w a1.2 a1.1 a2.2 a2.1 b1.2 b1.1 b2.2 b2.1 hk
theorem cc {α : Type} {d : Kd α} {w w' : World} {A : Option Addr} {n c : Nat} {xs : List α} (h : n ≤ c ∧ d.C w A n xs) (hb : Below w.heap.size w w') : n ≤ c ∧ d.C w' A n xs := ⟨h.1, Kd.C_below h.2 hb⟩
set_option maxHeartbeats 8000000 in
set_option maxRecDepth 100000 in
theorem same_c {w : World} {a b : S36} {A0 A1 A2 A3 A4 A5 A6 B0 B1 B2 B3 B4 B5 B6 : Option Addr} {c0 c1 c2 c3 c4 c5 c6 d0 d1 d2 d3 d4 d5 d6 : Nat} {cs0 cs1 : List Value} (K0 : SCells w a cs0 A0 A1 A2 A3 A4 A5 A6 c0 c1 c2 c3 c4 c5 c6) (K1 : SCells w b cs1 B0 B1 B2 B3 B4 B5 B6 d0 d1 d2 d3 d4 d5 d6) (hl : a.f7.length ≤ 1000000) {r : Bool} (hr : r = true ↔ a = b) :
    Calls Try.prog 6 #[.agg cs0.toArray, .agg cs1.toArray] w fun e w' => e = .returned (.bool r) ∧ Below w.heap.size w w' := by
  obtain ⟨rfl, ka0, ka1, ka2, ka3, ka4, ka5, ka6⟩ := K0
  obtain ⟨rfl, kb0, kb1, kb2, kb3, kb4, kb5, kb6⟩ := K1
  have hba := below_alloc (Below.refl w.heap.size w) (.cells #[.slice A0 a.f0.f0.length c0, .slice A1 a.f0.f1.length c1, .slice A2 a.f0.f2.length c2, .slice A3 a.f1.length c3, .int .i64 a.f2, .string a.f3, .string a.f4.f0, .int .i64 a.f4.f1, .int .i64 a.f5.f0, .string a.f5.f1, .int .i64 a.f5.f2, .string a.f6, .slice A4 a.f7.length c4, .int .i64 a.f8, .int .i64 a.f9, .bool a.f10, .bool a.f11, .int .i64 a.f12.f0, .slice A5 a.f12.f1.length c5, .slice A6 a.f12.f2.length c6, .string a.f12.f3] 36)
  have hna := blk_new w (.cells #[.slice A0 a.f0.f0.length c0, .slice A1 a.f0.f1.length c1, .slice A2 a.f0.f2.length c2, .slice A3 a.f1.length c3, .int .i64 a.f2, .string a.f3, .string a.f4.f0, .int .i64 a.f4.f1, .int .i64 a.f5.f0, .string a.f5.f1, .int .i64 a.f5.f2, .string a.f6, .slice A4 a.f7.length c4, .int .i64 a.f8, .int .i64 a.f9, .bool a.f10, .bool a.f11, .int .i64 a.f12.f0, .slice A5 a.f12.f1.length c5, .slice A6 a.f12.f2.length c6, .string a.f12.f3] 36)
  obtain ⟨Wa, hWa⟩ : ∃ Wa, Wa = w.alloc (.cells #[.slice A0 a.f0.f0.length c0, .slice A1 a.f0.f1.length c1, .slice A2 a.f0.f2.length c2, .slice A3 a.f1.length c3, .int .i64 a.f2, .string a.f3, .string a.f4.f0, .int .i64 a.f4.f1, .int .i64 a.f5.f0, .string a.f5.f1, .int .i64 a.f5.f2, .string a.f6, .slice A4 a.f7.length c4, .int .i64 a.f8, .int .i64 a.f9, .bool a.f10, .bool a.f11, .int .i64 a.f12.f0, .slice A5 a.f12.f1.length c5, .slice A6 a.f12.f2.length c6, .string a.f12.f3] 36) := ⟨_, rfl⟩
  have HWa := Aside0.mk hWa
  rw [← hWa] at hba hna
  have hsa : Wa.heap.size = w.heap.size + 1 := by rw [hWa]; simp
  have hbb := below_alloc (Below.refl Wa.heap.size Wa) (.cells #[.slice B0 b.f0.f0.length d0, .slice B1 b.f0.f1.length d1, .slice B2 b.f0.f2.length d2, .slice B3 b.f1.length d3, .int .i64 b.f2, .string b.f3, .string b.f4.f0, .int .i64 b.f4.f1, .int .i64 b.f5.f0, .string b.f5.f1, .int .i64 b.f5.f2, .string b.f6, .slice B4 b.f7.length d4, .int .i64 b.f8, .int .i64 b.f9, .bool b.f10, .bool b.f11, .int .i64 b.f12.f0, .slice B5 b.f12.f1.length d5, .slice B6 b.f12.f2.length d6, .string b.f12.f3] 36)
  have hnb := blk_new Wa (.cells #[.slice B0 b.f0.f0.length d0, .slice B1 b.f0.f1.length d1, .slice B2 b.f0.f2.length d2, .slice B3 b.f1.length d3, .int .i64 b.f2, .string b.f3, .string b.f4.f0, .int .i64 b.f4.f1, .int .i64 b.f5.f0, .string b.f5.f1, .int .i64 b.f5.f2, .string b.f6, .slice B4 b.f7.length d4, .int .i64 b.f8, .int .i64 b.f9, .bool b.f10, .bool b.f11, .int .i64 b.f12.f0, .slice B5 b.f12.f1.length d5, .slice B6 b.f12.f2.length d6, .string b.f12.f3] 36)
  obtain ⟨Wb, hWb⟩ : ∃ Wb, Wb = Wa.alloc (.cells #[.slice B0 b.f0.f0.length d0, .slice B1 b.f0.f1.length d1, .slice B2 b.f0.f2.length d2, .slice B3 b.f1.length d3, .int .i64 b.f2, .string b.f3, .string b.f4.f0, .int .i64 b.f4.f1, .int .i64 b.f5.f0, .string b.f5.f1, .int .i64 b.f5.f2, .string b.f6, .slice B4 b.f7.length d4, .int .i64 b.f8, .int .i64 b.f9, .bool b.f10, .bool b.f11, .int .i64 b.f12.f0, .slice B5 b.f12.f1.length d5, .slice B6 b.f12.f2.length d6, .string b.f12.f3] 36) := ⟨_, rfl⟩
  have HWb := Aside0.mk hWb
  rw [← hWb] at hbb hnb
  have hna2 := blk_below hna hbb
  rw [hsa] at hnb
  obtain ⟨qa, hqa⟩ : ∃ qa, w.heap.size = qa := ⟨_, rfl⟩
  have HB0 := Aside0.mk (hba.trans (hbb.mono hba.size))
  have hB0 := HB0.out
  rw [hqa] at hna2 hnb
  have HQA := Aside0.mk hqa
  obtain ⟨qb, hqb⟩ : ∃ qb, qa + 1 = qb := ⟨_, rfl⟩
  rw [hqb] at hnb
  have HQB := Aside0.mk hqb
  have NA := Aside0.mk hna2
  have NB := Aside0.mk hnb
  have ka0 := Aside0.mk (cc ka0 hB0)
  have kb0 := Aside0.mk (cc kb0 hB0)
  have ka1 := Aside0.mk (cc ka1 hB0)
  have kb1 := Aside0.mk (cc kb1 hB0)
  have ka2 := Aside0.mk (cc ka2 hB0)
  have kb2 := Aside0.mk (cc kb2 hB0)
  have ka3 := Aside0.mk (cc ka3 hB0)
  have kb3 := Aside0.mk (cc kb3 hB0)
  have ka4 := Aside0.mk (cc ka4 hB0)
  have kb4 := Aside0.mk (cc kb4 hB0)
  have ka5 := Aside0.mk (cc ka5 hB0)
  have kb5 := Aside0.mk (cc kb5 hB0)
  have ka6 := Aside0.mk (cc ka6 hB0)
  have kb6 := Aside0.mk (cc kb6 hB0)
  have HL := Aside0.mk hl
  have HR := Aside0.mk (hr.trans n36s)
  clear hba hna hWa hsa hbb hnb hWb hna2 hqa hqb hB0 hl hr
  go_enter Try.func6, Try.ntmps6
  go_upto_region 1 with (fail)
  rw [← HWa.out, ← HWb.out, HQA.out, HQB.out]
  have ua4 : Wb.cell? ⟨qa, 4, none⟩ = some (.int .i64 a.f2) := (blk_cell NA.out 4).trans rfl
  have ub4 : Wb.cell? ⟨qb, 4, none⟩ = some (.int .i64 b.f2) := (blk_cell NB.out 4).trans rfl
  have ua5 : Wb.cell? ⟨qa, 5, none⟩ = some (.string a.f3) := (blk_cell NA.out 5).trans rfl
  have ub5 : Wb.cell? ⟨qb, 5, none⟩ = some (.string b.f3) := (blk_cell NB.out 5).trans rfl
  have ua6 : Wb.cell? ⟨qa, 6, none⟩ = some (.string a.f4.f0) := (blk_cell NA.out 6).trans rfl
  have ub6 : Wb.cell? ⟨qb, 6, none⟩ = some (.string b.f4.f0) := (blk_cell NB.out 6).trans rfl
  have ua7 : Wb.cell? ⟨qa, 7, none⟩ = some (.int .i64 a.f4.f1) := (blk_cell NA.out 7).trans rfl
  have ub7 : Wb.cell? ⟨qb, 7, none⟩ = some (.int .i64 b.f4.f1) := (blk_cell NB.out 7).trans rfl
  have ua8 : Wb.cell? ⟨qa, 8, none⟩ = some (.int .i64 a.f5.f0) := (blk_cell NA.out 8).trans rfl
  have ub8 : Wb.cell? ⟨qb, 8, none⟩ = some (.int .i64 b.f5.f0) := (blk_cell NB.out 8).trans rfl
  have ua9 : Wb.cell? ⟨qa, 9, none⟩ = some (.string a.f5.f1) := (blk_cell NA.out 9).trans rfl
  have ub9 : Wb.cell? ⟨qb, 9, none⟩ = some (.string b.f5.f1) := (blk_cell NB.out 9).trans rfl
  have ua10 : Wb.cell? ⟨qa, 10, none⟩ = some (.int .i64 a.f5.f2) := (blk_cell NA.out 10).trans rfl
  have ub10 : Wb.cell? ⟨qb, 10, none⟩ = some (.int .i64 b.f5.f2) := (blk_cell NB.out 10).trans rfl
  have ua11 : Wb.cell? ⟨qa, 11, none⟩ = some (.string a.f6) := (blk_cell NA.out 11).trans rfl
  have ub11 : Wb.cell? ⟨qb, 11, none⟩ = some (.string b.f6) := (blk_cell NB.out 11).trans rfl
  have ua13 : Wb.cell? ⟨qa, 13, none⟩ = some (.int .i64 a.f8) := (blk_cell NA.out 13).trans rfl
  have ub13 : Wb.cell? ⟨qb, 13, none⟩ = some (.int .i64 b.f8) := (blk_cell NB.out 13).trans rfl
  have ua14 : Wb.cell? ⟨qa, 14, none⟩ = some (.int .i64 a.f9) := (blk_cell NA.out 14).trans rfl
  have ub14 : Wb.cell? ⟨qb, 14, none⟩ = some (.int .i64 b.f9) := (blk_cell NB.out 14).trans rfl
  have ua15 : Wb.cell? ⟨qa, 15, none⟩ = some (.bool a.f10) := (blk_cell NA.out 15).trans rfl
  have ub15 : Wb.cell? ⟨qb, 15, none⟩ = some (.bool b.f10) := (blk_cell NB.out 15).trans rfl
  have ua16 : Wb.cell? ⟨qa, 16, none⟩ = some (.bool a.f11) := (blk_cell NA.out 16).trans rfl
  have ub16 : Wb.cell? ⟨qb, 16, none⟩ = some (.bool b.f11) := (blk_cell NB.out 16).trans rfl
  rcases tell_and HR.out with ⟨e, hr⟩ | ⟨e, rfl⟩
  case inr =>
    have g0 : (a.f2 == b.f2) = false := Bool.eq_false_iff.2 (fun h => e (beq_iff_eq.1 h))
    clear e
    go_wp2
    go_ret
    exact ⟨rfl, HB0.out⟩
  have g0 : (a.f2 == b.f2) = true := beq_iff_eq.2 e
  have R0 := Aside0.mk hr
  clear e hr
  rcases tell_and R0.out with ⟨e, hr⟩ | ⟨e, rfl⟩
  case inr =>
    have g1 : (a.f3.toList == b.f3.toList) = false := Bool.eq_false_iff.2 (fun h => e (tl_beq.1 h))
    clear e
    go_wp2
    go_ret
    exact ⟨rfl, HB0.out⟩
  have g1 : (a.f3.toList == b.f3.toList) = true := tl_beq.2 e
  have R1 := Aside0.mk hr
  clear e hr
  rcases tell_and R1.out with ⟨e, hr⟩ | ⟨e, rfl⟩
  case inr =>
    have g2 : (a.f4.f0.toList == b.f4.f0.toList && (a.f4.f1 == b.f4.f1)) = false := Bool.eq_false_iff.2 (fun h => e (e29.1 h))
    clear e
    go_wp2
    go_ret
    exact ⟨rfl, HB0.out⟩
  have g2 : (a.f4.f0.toList == b.f4.f0.toList && (a.f4.f1 == b.f4.f1)) = true := e29.2 e
  have R2 := Aside0.mk hr
  clear e hr
  rcases tell_and R2.out with ⟨e, hr⟩ | ⟨e, rfl⟩
  case inr =>
    have g3 : (a.f5.f0 == b.f5.f0 && (a.f5.f1.toList == b.f5.f1.toList && (a.f5.f2 == b.f5.f2))) = false := Bool.eq_false_iff.2 (fun h => e (e31.1 h))
    clear e
    go_wp2
    go_ret
    exact ⟨rfl, HB0.out⟩
  have g3 : (a.f5.f0 == b.f5.f0 && (a.f5.f1.toList == b.f5.f1.toList && (a.f5.f2 == b.f5.f2))) = true := e31.2 e
  have R3 := Aside0.mk hr
  clear e hr
  rcases tell_and R3.out with ⟨e, hr⟩ | ⟨e, rfl⟩
  case inr =>
    have g4 : (a.f6.toList == b.f6.toList) = false := Bool.eq_false_iff.2 (fun h => e (tl_beq.1 h))
    clear e
    go_wp2
    go_ret
    exact ⟨rfl, HB0.out⟩
  have g4 : (a.f6.toList == b.f6.toList) = true := tl_beq.2 e
  have R4 := Aside0.mk hr
  clear e hr
  rcases tell_and R4.out with ⟨e, hr⟩ | ⟨e, rfl⟩
  case inr =>
    have g5 : (a.f8 == b.f8) = false := Bool.eq_false_iff.2 (fun h => e (beq_iff_eq.1 h))
    clear e
    go_wp2
    go_ret
    exact ⟨rfl, HB0.out⟩
  have g5 : (a.f8 == b.f8) = true := beq_iff_eq.2 e
  have R5 := Aside0.mk hr
  clear e hr
  rcases tell_and R5.out with ⟨e, hr⟩ | ⟨e, rfl⟩
  case inr =>
    have g6 : (a.f9 == b.f9) = false := Bool.eq_false_iff.2 (fun h => e (beq_iff_eq.1 h))
    clear e
    go_wp2
    go_ret
    exact ⟨rfl, HB0.out⟩
  have g6 : (a.f9 == b.f9) = true := beq_iff_eq.2 e
  have R6 := Aside0.mk hr
  clear e hr
  rcases tell_and R6.out with ⟨e, hr⟩ | ⟨e, rfl⟩
  case inr =>
    have g7 : (a.f10 == b.f10) = false := Bool.eq_false_iff.2 (fun h => e (beq_iff_eq.1 h))
    clear e
    go_wp2
    go_ret
    exact ⟨rfl, HB0.out⟩
  have g7 : (a.f10 == b.f10) = true := beq_iff_eq.2 e
  have R7 := Aside0.mk hr
  clear e hr
  rcases tell_and R7.out with ⟨e, hr⟩ | ⟨e, rfl⟩
  case inr =>
    have g8 : (a.f11 == b.f11) = false := Bool.eq_false_iff.2 (fun h => e (beq_iff_eq.1 h))
    clear e
    go_wp2
    go_ret
    exact ⟨rfl, HB0.out⟩
  have g8 : (a.f11 == b.f11) = true := beq_iff_eq.2 e
  have R8 := Aside0.mk hr
  clear e hr
  go_upto_region 2 with (fail)
  clear g0 g1 g2 g3 g4 g5 g6 g7 g8 ua4 ub4 ua5 ub5 ua6 ub6 ua7 ub7 ua8 ub8 ua9 ub9 ua10 ub10 ua11 ub11 ua13 ub13 ua14 ub14 ua15 ub15 ua16 ub16
  have ua0 : Wb.cell? ⟨qa, 0, none⟩ = some (.slice A0 a.f0.f0.length c0) := (blk_cell (blk_below NA.out (Below.refl _ _)) 0).trans rfl
  have ub0 : Wb.cell? ⟨qb, 0, none⟩ = some (.slice B0 b.f0.f0.length d0) := (blk_cell (blk_below NB.out (Below.refl _ _)) 0).trans rfl
  have ua1 : Wb.cell? ⟨qa, 1, none⟩ = some (.slice A1 a.f0.f1.length c1) := (blk_cell (blk_below NA.out (Below.refl _ _)) 1).trans rfl
  have ub1 : Wb.cell? ⟨qb, 1, none⟩ = some (.slice B1 b.f0.f1.length d1) := (blk_cell (blk_below NB.out (Below.refl _ _)) 1).trans rfl
  have ua2 : Wb.cell? ⟨qa, 2, none⟩ = some (.slice A2 a.f0.f2.length c2) := (blk_cell (blk_below NA.out (Below.refl _ _)) 2).trans rfl
  have ub2 : Wb.cell? ⟨qb, 2, none⟩ = some (.slice B2 b.f0.f2.length d2) := (blk_cell (blk_below NB.out (Below.refl _ _)) 2).trans rfl
  rcases tell_and R8.out with ⟨e, hr⟩ | ⟨e, rfl⟩
  case inr =>
    have E0 := Aside0.mk e
    clear e
    go_wp2_with (first | (go_at_call 25; refine (envsame_c (cc ka0.out (Below.refl _ _)) (cc ka1.out (Below.refl _ _)) (cc ka2.out (Below.refl _ _)) (cc kb0.out (Below.refl _ _)) (cc kb1.out (Below.refl _ _)) (cc kb2.out (Below.refl _ _)) (tell_nope E0.out)).mono ?_; rintro e w1 ⟨rfl, hB⟩; have T1 := Aside0.mk (hB); clear hB; have ua3 : w1.cell? ⟨qa, 3, none⟩ = some (.slice A3 a.f1.length c3) := (blk_cell (blk_below NA.out T1.out) 3).trans rfl; have ub3 : w1.cell? ⟨qb, 3, none⟩ = some (.slice B3 b.f1.length d3) := (blk_cell (blk_below NB.out T1.out) 3).trans rfl))
    go_ret
    exact ⟨rfl, HB0.out.trans (T1.out.mono HB0.out.size)⟩
  have E0 := Aside0.mk e
  have S0 := Aside0.mk hr
  clear e hr
  rcases tell_and S0.out with ⟨e, hr⟩ | ⟨e, rfl⟩
  case inr =>
    have E1 := Aside0.mk e
    clear e
    go_wp2_with (first | (go_at_call 26; refine (filesame_c (cc ka3.out T1.out) (cc kb3.out T1.out) (tell_nope E1.out)).mono ?_; rintro e w2 ⟨rfl, hB⟩; have T2 := Aside0.mk (T1.out.trans (hB.mono T1.out.size)); clear hB; have ua12 : w2.cell? ⟨qa, 12, none⟩ = some (.slice A4 a.f7.length c4) := (blk_cell (blk_below NA.out T2.out) 12).trans rfl; have ub12 : w2.cell? ⟨qb, 12, none⟩ = some (.slice B4 b.f7.length d4) := (blk_cell (blk_below NB.out T2.out) 12).trans rfl) | (go_at_call 25; refine (envsame_c (cc ka0.out (Below.refl _ _)) (cc ka1.out (Below.refl _ _)) (cc ka2.out (Below.refl _ _)) (cc kb0.out (Below.refl _ _)) (cc kb1.out (Below.refl _ _)) (cc kb2.out (Below.refl _ _)) (tell_yes E0.out)).mono ?_; rintro e w1 ⟨rfl, hB⟩; have T1 := Aside0.mk (hB); clear hB; have ua3 : w1.cell? ⟨qa, 3, none⟩ = some (.slice A3 a.f1.length c3) := (blk_cell (blk_below NA.out T1.out) 3).trans rfl; have ub3 : w1.cell? ⟨qb, 3, none⟩ = some (.slice B3 b.f1.length d3) := (blk_cell (blk_below NB.out T1.out) 3).trans rfl))
    go_ret
    exact ⟨rfl, HB0.out.trans (T2.out.mono HB0.out.size)⟩
  have E1 := Aside0.mk e
  have S1 := Aside0.mk hr
  clear e hr
  rcases tell_and S1.out with ⟨e, hr⟩ | ⟨e, rfl⟩
  case inr =>
    have E2 := Aside0.mk e
    clear e
    go_wp2_with (first | (go_at_call 27; refine (framesame_c (cc ka4.out T2.out) (cc kb4.out T2.out) HL.out (tell_nope E2.out)).mono ?_; rintro e w3 ⟨rfl, hB⟩; have T3 := Aside0.mk (T2.out.trans (hB.mono T2.out.size)); clear hB; have ua17 : w3.cell? ⟨qa, 17, none⟩ = some (.int .i64 a.f12.f0) := (blk_cell (blk_below NA.out T3.out) 17).trans rfl; have ub17 : w3.cell? ⟨qb, 17, none⟩ = some (.int .i64 b.f12.f0) := (blk_cell (blk_below NB.out T3.out) 17).trans rfl; have ua18 : w3.cell? ⟨qa, 18, none⟩ = some (.slice A5 a.f12.f1.length c5) := (blk_cell (blk_below NA.out T3.out) 18).trans rfl; have ub18 : w3.cell? ⟨qb, 18, none⟩ = some (.slice B5 b.f12.f1.length d5) := (blk_cell (blk_below NB.out T3.out) 18).trans rfl; have ua19 : w3.cell? ⟨qa, 19, none⟩ = some (.slice A6 a.f12.f2.length c6) := (blk_cell (blk_below NA.out T3.out) 19).trans rfl; have ub19 : w3.cell? ⟨qb, 19, none⟩ = some (.slice B6 b.f12.f2.length d6) := (blk_cell (blk_below NB.out T3.out) 19).trans rfl; have ua20 : w3.cell? ⟨qa, 20, none⟩ = some (.string a.f12.f3) := (blk_cell (blk_below NA.out T3.out) 20).trans rfl; have ub20 : w3.cell? ⟨qb, 20, none⟩ = some (.string b.f12.f3) := (blk_cell (blk_below NB.out T3.out) 20).trans rfl) | (go_at_call 26; refine (filesame_c (cc ka3.out T1.out) (cc kb3.out T1.out) (tell_yes E1.out)).mono ?_; rintro e w2 ⟨rfl, hB⟩; have T2 := Aside0.mk (T1.out.trans (hB.mono T1.out.size)); clear hB; have ua12 : w2.cell? ⟨qa, 12, none⟩ = some (.slice A4 a.f7.length c4) := (blk_cell (blk_below NA.out T2.out) 12).trans rfl; have ub12 : w2.cell? ⟨qb, 12, none⟩ = some (.slice B4 b.f7.length d4) := (blk_cell (blk_below NB.out T2.out) 12).trans rfl) | (go_at_call 25; refine (envsame_c (cc ka0.out (Below.refl _ _)) (cc ka1.out (Below.refl _ _)) (cc ka2.out (Below.refl _ _)) (cc kb0.out (Below.refl _ _)) (cc kb1.out (Below.refl _ _)) (cc kb2.out (Below.refl _ _)) (tell_yes E0.out)).mono ?_; rintro e w1 ⟨rfl, hB⟩; have T1 := Aside0.mk (hB); clear hB; have ua3 : w1.cell? ⟨qa, 3, none⟩ = some (.slice A3 a.f1.length c3) := (blk_cell (blk_below NA.out T1.out) 3).trans rfl; have ub3 : w1.cell? ⟨qb, 3, none⟩ = some (.slice B3 b.f1.length d3) := (blk_cell (blk_below NB.out T1.out) 3).trans rfl))
    go_ret
    exact ⟨rfl, HB0.out.trans (T3.out.mono HB0.out.size)⟩
  have E2 := Aside0.mk e
  have S2 := Aside0.mk hr
  clear e hr
  go_wp2_with (first | (go_at_call 29; refine (callsame_c (cc ka5.out T3.out) (cc ka6.out T3.out) (cc kb5.out T3.out) (cc kb6.out T3.out) (S2.out)).mono ?_; rintro e w4 ⟨rfl, hB⟩; have T4 := Aside0.mk (T3.out.trans (hB.mono T3.out.size)); clear hB) | (go_at_call 27; refine (framesame_c (cc ka4.out T2.out) (cc kb4.out T2.out) HL.out (tell_yes E2.out)).mono ?_; rintro e w3 ⟨rfl, hB⟩; have T3 := Aside0.mk (T2.out.trans (hB.mono T2.out.size)); clear hB; have ua17 : w3.cell? ⟨qa, 17, none⟩ = some (.int .i64 a.f12.f0) := (blk_cell (blk_below NA.out T3.out) 17).trans rfl; have ub17 : w3.cell? ⟨qb, 17, none⟩ = some (.int .i64 b.f12.f0) := (blk_cell (blk_below NB.out T3.out) 17).trans rfl; have ua18 : w3.cell? ⟨qa, 18, none⟩ = some (.slice A5 a.f12.f1.length c5) := (blk_cell (blk_below NA.out T3.out) 18).trans rfl; have ub18 : w3.cell? ⟨qb, 18, none⟩ = some (.slice B5 b.f12.f1.length d5) := (blk_cell (blk_below NB.out T3.out) 18).trans rfl; have ua19 : w3.cell? ⟨qa, 19, none⟩ = some (.slice A6 a.f12.f2.length c6) := (blk_cell (blk_below NA.out T3.out) 19).trans rfl; have ub19 : w3.cell? ⟨qb, 19, none⟩ = some (.slice B6 b.f12.f2.length d6) := (blk_cell (blk_below NB.out T3.out) 19).trans rfl; have ua20 : w3.cell? ⟨qa, 20, none⟩ = some (.string a.f12.f3) := (blk_cell (blk_below NA.out T3.out) 20).trans rfl; have ub20 : w3.cell? ⟨qb, 20, none⟩ = some (.string b.f12.f3) := (blk_cell (blk_below NB.out T3.out) 20).trans rfl) | (go_at_call 26; refine (filesame_c (cc ka3.out T1.out) (cc kb3.out T1.out) (tell_yes E1.out)).mono ?_; rintro e w2 ⟨rfl, hB⟩; have T2 := Aside0.mk (T1.out.trans (hB.mono T1.out.size)); clear hB; have ua12 : w2.cell? ⟨qa, 12, none⟩ = some (.slice A4 a.f7.length c4) := (blk_cell (blk_below NA.out T2.out) 12).trans rfl; have ub12 : w2.cell? ⟨qb, 12, none⟩ = some (.slice B4 b.f7.length d4) := (blk_cell (blk_below NB.out T2.out) 12).trans rfl) | (go_at_call 25; refine (envsame_c (cc ka0.out (Below.refl _ _)) (cc ka1.out (Below.refl _ _)) (cc ka2.out (Below.refl _ _)) (cc kb0.out (Below.refl _ _)) (cc kb1.out (Below.refl _ _)) (cc kb2.out (Below.refl _ _)) (tell_yes E0.out)).mono ?_; rintro e w1 ⟨rfl, hB⟩; have T1 := Aside0.mk (hB); clear hB; have ua3 : w1.cell? ⟨qa, 3, none⟩ = some (.slice A3 a.f1.length c3) := (blk_cell (blk_below NA.out T1.out) 3).trans rfl; have ub3 : w1.cell? ⟨qb, 3, none⟩ = some (.slice B3 b.f1.length d3) := (blk_cell (blk_below NB.out T1.out) 3).trans rfl))
  go_ret
  exact ⟨rfl, HB0.out.trans (T4.out.mono HB0.out.size)⟩
end Go.Proofs.Ytekebjkcolhcoaa.Hnd
