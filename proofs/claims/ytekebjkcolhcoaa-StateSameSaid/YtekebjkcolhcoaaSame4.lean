/- Contracts of the calls, by hand. -/
import Derived.Test.YtekebjkcolhcoaaQStateSamex8
import Derived.Test.YtekebjkcolhcoaaSame3
import Derived.RangeFuncNested
import Derived.RangeFuncBound
import Derived.RangeFuncCalls
import Derived.RangeFuncLeaves
import Derived.RangeFuncBox
import Derived.Shelf.Abstract
import Derived.Shelf.RegionOpen
import Derived.OwnWalkIn
import Derived.TacticsInMore
import Derived.LoopNIn
import Derived.LoopIn
import Derived.Sort.QuietIn
import Derived.Sort.CutIn
import Derived.Stop.RegionWithIn
import Derived.StillTailTactics
import Derived.Test.YtekebjkcolhcoaaQStateSamex7
namespace Go.Proofs.Ytekebjkcolhcoaa.Hnd
open Go.RowKit Go.Proofs.Ytekebjkcolhcoaa.QStateSame Go.Proofs.YtekebjkcolhcoaaW.PrintWords Go.Proofs.YtekebjkcolhcoaaW.PrintLast  Go.Shelf
set_option linter.unusedVariables false
set_option linter.unusedSimpArgs false
set_option linter.unusedVariables false
set_option linter.unusedSimpArgs false
attribute [local go_sem] Oper.semAt_some
attribute [local go_sem high] eqA29 eqA31
theorem n36r {x y : S36} : x = y ↔ x.f0 = y.f0 ∧ x.f1 = y.f1 ∧ x.f2 = y.f2 ∧ x.f3 = y.f3 ∧ x.f4 = y.f4 ∧ x.f5 = y.f5 ∧ x.f6 = y.f6 ∧ x.f7.length = y.f7.length ∧ x.f7 = y.f7 ∧ x.f8 = y.f8 ∧ x.f9 = y.f9 ∧ x.f10 = y.f10 ∧ x.f11 = y.f11 ∧ x.f12 = y.f12 :=
  ⟨fun h => by subst h; simp, fun ⟨h0, h1, h2, h3, h4, h5, h6, _, h7, h8, h9, h10, h11, h12⟩ => n36.2 ⟨h0, h1, h2, h3, h4, h5, h6, h7, h8, h9, h10, h11, h12⟩⟩
theorem len_ne {α : Type} {l m : List α} (h : ¬ (l.length = m.length)) : ((l.length : Int) != (m.length : Int)) = true := by simpa using fun e => h (by omega)
theorem len_eq {α : Type} {l m : List α} (h : l.length = m.length) : ((l.length : Int) != (m.length : Int)) = false := by rw [h]; simp
def FrAt (W : World) (p : Addr) (x : S59) (A4 A5 A6 A7 : Option Addr) (c4 c5 c6 c7 : Nat) : Prop :=
  W.cell? p = some (.int .i64 x.f0) ∧ W.cell? ⟨p.block, p.off + 1, none⟩ = some (.int .i64 x.f1) ∧ W.cell? ⟨p.block, p.off + 2, none⟩ = some (.int .i64 x.f2) ∧ W.cell? ⟨p.block, p.off + 3, none⟩ = some (.int .i64 x.f3) ∧ W.cell? ⟨p.block, p.off + 4, none⟩ = some (.slice A4 x.f4.length c4) ∧ W.cell? ⟨p.block, p.off + 5, none⟩ = some (.slice A5 x.f5.f0.length c5) ∧ W.cell? ⟨p.block, p.off + 6, none⟩ = some (.slice A6 x.f5.f1.length c6) ∧ W.cell? ⟨p.block, p.off + 7, none⟩ = some (.slice A7 x.f5.f2.length c7) ∧ W.cell? ⟨p.block, p.off + 8, none⟩ = some (.string x.f6.f0) ∧ W.cell? ⟨p.block, p.off + 9, none⟩ = some (.int .i64 x.f6.f1) ∧ W.cell? ⟨p.block, p.off + 10, none⟩ = some (.int .i64 x.f7.f0) ∧ W.cell? ⟨p.block, p.off + 11, none⟩ = some (.string x.f7.f1) ∧ W.cell? ⟨p.block, p.off + 12, none⟩ = some (.int .i64 x.f7.f2) ∧ W.cell? ⟨p.block, p.off + 13, none⟩ = some (.string x.f8)
theorem FrAt.below {W W' : World} {p : Addr} {x : S59} {A4 A5 A6 A7 : Option Addr} {c4 c5 c6 c7 : Nat} (h : FrAt W p x A4 A5 A6 A7 c4 c5 c6 c7) (hB : Below W.heap.size W W') : FrAt W' p x A4 A5 A6 A7 c4 c5 c6 c7 := by
  obtain ⟨h0, h1, h2, h3, h4, h5, h6, h7, h8, h9, h10, h11, h12, h13⟩ := h
  have hlt : p.block < W.heap.size := World.block_lt_of_cell? W _ h0
  have hc : ∀ j v, W.cell? ⟨p.block, j, none⟩ = some v → W'.cell? ⟨p.block, j, none⟩ = some v := fun j v h => (hB.cell (p := ⟨p.block, j, none⟩) hlt).trans h
  exact ⟨(hB.cell hlt).trans h0, hc _ _ h1, hc _ _ h2, hc _ _ h3, hc _ _ h4, hc _ _ h5, hc _ _ h6, hc _ _ h7, hc _ _ h8, hc _ _ h9, hc _ _ h10, hc _ _ h11, hc _ _ h12, hc _ _ h13⟩
theorem frame_at {w : World} {A : Option Addr} {l : List S59} (h : k59.C w A l.length l) (k : Nat) (hk : k < l.length) : ∃ ad A4 A5 A6 A7 c4 c5 c6 c7, A = some ad ∧ FrAt w (ad.add (k * 14)) (l.getD k z59) A4 A5 A6 A7 c4 c5 c6 c7 ∧ ((l.getD k z59).f4.length ≤ c4 ∧ Kd.string.C w A4 (l.getD k z59).f4.length (l.getD k z59).f4) ∧ ((l.getD k z59).f5.f0.length ≤ c5 ∧ k71.C w A5 (l.getD k z59).f5.f0.length (l.getD k z59).f5.f0) ∧ ((l.getD k z59).f5.f1.length ≤ c6 ∧ Kd.string.C w A6 (l.getD k z59).f5.f1.length (l.getD k z59).f5.f1) ∧ ((l.getD k z59).f5.f2.length ≤ c7 ∧ k67.C w A7 (l.getD k z59).f5.f2.length (l.getD k z59).f5.f2) := by
  obtain ⟨ad, A4, c4, A5, c5, A6, c6, A7, c7, e, x0, x1, x2, x3, x4, x5, x6, x7, x8, x9, x10, x11, x12, x13, l4, g4, l5, g5, l6, g6, l7, g7⟩ := at_T59 h (k : Int) (by omega) (by omega)
  exact ⟨ad, A4, A5, A6, A7, c4, c5, c6, c7, e, ⟨x0, x1, x2, x3, x4, x5, x6, x7, x8, x9, x10, x11, x12, x13⟩, ⟨l4, g4⟩, ⟨l5, g5⟩, ⟨l6, g6⟩, ⟨l7, g7⟩⟩
theorem rg_take {P : Program} {ops : Array Oper} {Q : Exit → Act → World → Prop} {md : Region.Mode} {S : World → Prop} {i : Nat} {dst : Option Nat} {v : Value} {fuel : Nat} {listed : Array Bool} {a : Act} {w : World} (hd : (ops[i]?).map Oper.dst = some dst)
    (hs : Region.noSelect ops = true) (hf : Region.free md ops listed i = true) (hr : (Region.ready md ops listed).contains i = true)
    (hQ : ∀ c a w, Q (.panic c) (a.put dst v) w → Q (.panic c) a w) (hw : (ops[i]?).map (fun o => Region.wanted o (yielded ops a.tmps)) = some true)
    (hy : ∀ o, ops[i]? = some o → ∀ w, S w → (execOp a.eval o).run P w = .ok (.value v) w) (hS : S w)
    (h : wpAnyH P md ops Q S fuel (listed.setIfInBounds i true) (a.put dst v) w) : wpAnyH P md ops Q S (fuel + 1) listed a w := by
  obtain ⟨o, ho⟩ : ∃ o, ops[i]? = some o := by
    cases hh : ops[i]? with
    | none => rw [hh] at hd; cases hd
    | some o => exact ⟨o, rfl⟩
  rw [ho] at hd hw
  cases hd
  exact wpAnyH_take ho hs hf hr hQ (Or.inl ⟨Option.some.inj hw, hy o ho⟩) hS h
theorem rframes_c {w : World} {x y : S59} {A4 A5 A6 A7 B4 B5 B6 B7 : Option Addr} {c4 c5 c6 c7 d4 d5 d6 d7 : Nat} (a4 : x.f4.length ≤ c4 ∧ Kd.string.C w A4 x.f4.length x.f4) (a5 : x.f5.f0.length ≤ c5 ∧ k71.C w A5 x.f5.f0.length x.f5.f0) (a6 : x.f5.f1.length ≤ c6 ∧ Kd.string.C w A6 x.f5.f1.length x.f5.f1) (a7 : x.f5.f2.length ≤ c7 ∧ k67.C w A7 x.f5.f2.length x.f5.f2) (b4 : y.f4.length ≤ d4 ∧ Kd.string.C w B4 y.f4.length y.f4) (b5 : y.f5.f0.length ≤ d5 ∧ k71.C w B5 y.f5.f0.length y.f5.f0) (b6 : y.f5.f1.length ≤ d6 ∧ Kd.string.C w B6 y.f5.f1.length y.f5.f1) (b7 : y.f5.f2.length ≤ d7 ∧ k67.C w B7 y.f5.f2.length y.f5.f2) {r : Bool} (hr : r = true ↔ x = y) :
    Calls Try.prog 31 #[.agg #[.int .i64 x.f0, .int .i64 x.f1, .int .i64 x.f2, .int .i64 x.f3, .slice A4 x.f4.length c4, .slice A5 x.f5.f0.length c5, .slice A6 x.f5.f1.length c6, .slice A7 x.f5.f2.length c7, .string x.f6.f0, .int .i64 x.f6.f1, .int .i64 x.f7.f0, .string x.f7.f1, .int .i64 x.f7.f2, .string x.f8], .agg #[.int .i64 y.f0, .int .i64 y.f1, .int .i64 y.f2, .int .i64 y.f3, .slice B4 y.f4.length d4, .slice B5 y.f5.f0.length d5, .slice B6 y.f5.f1.length d6, .slice B7 y.f5.f2.length d7, .string y.f6.f0, .int .i64 y.f6.f1, .int .i64 y.f7.f0, .string y.f7.f1, .int .i64 y.f7.f2, .string y.f8]] w fun e w' => e = .returned (.bool r) ∧ Below w.heap.size w w' := by
  obtain ⟨k, hk⟩ := (rframe_ev (Kd.C_max a4.2) (Kd.C_max a5.2) (Kd.C_max a6.2) (Kd.C_max a7.2) hr).rounds
  exact lazarusref19_frames.calls k x.f0 x.f1 x.f2 x.f3 A4 c4 x.f4 A5 c5 x.f5.f0 A6 c6 x.f5.f1 A7 c7 x.f5.f2 x.f6.f0 x.f6.f1 x.f7.f0 x.f7.f1 x.f7.f2 x.f8 y.f0 y.f1 y.f2 y.f3 B4 d4 y.f4 B5 d5 y.f5.f0 B6 d6 y.f5.f1 B7 d7 y.f5.f2 y.f6.f0 y.f6.f1 y.f7.f0 y.f7.f1 y.f7.f2 y.f8 r w a4.2 a4.1 a5.2 a5.1 a6.2 a6.1 a7.2 a7.1 b4.2 b4.1 b5.2 b5.1 b6.2 b6.1 b7.2 b7.1 hk
set_option maxHeartbeats 8000000 in
set_option maxRecDepth 100000 in
theorem rsame_c {w : World} {a b : S36} {A0 A1 A2 A3 A4 A5 A6 B0 B1 B2 B3 B4 B5 B6 : Option Addr} {c0 c1 c2 c3 c4 c5 c6 d0 d1 d2 d3 d4 d5 d6 : Nat} {cs0 cs1 : List Value} (K0 : SCells w a cs0 A0 A1 A2 A3 A4 A5 A6 c0 c1 c2 c3 c4 c5 c6) (K1 : SCells w b cs1 B0 B1 B2 B3 B4 B5 B6 d0 d1 d2 d3 d4 d5 d6) (hl : a.f7.length ≤ 1000000) {r : Bool} (hr : r = true ↔ a = b) :
    Calls Try.prog 7 #[.agg cs0.toArray, .agg cs1.toArray] w fun e w' => e = .returned (.bool r) ∧ Below w.heap.size w w' := by
  obtain ⟨rfl, ka0, ka1, ka2, ka3, ka4, ka5, ka6⟩ := K0
  obtain ⟨rfl, kb0, kb1, kb2, kb3, kb4, kb5, kb6⟩ := K1
  have hba := below_alloc (Below.refl w.heap.size w) (.cells #[.slice A0 a.f0.f0.length c0, .slice A1 a.f0.f1.length c1, .slice A2 a.f0.f2.length c2, .slice A3 a.f1.length c3, .int .i64 a.f2, .string a.f3, .string a.f4.f0, .int .i64 a.f4.f1, .int .i64 a.f5.f0, .string a.f5.f1, .int .i64 a.f5.f2, .string a.f6, .slice A4 a.f7.length c4, .int .i64 a.f8, .int .i64 a.f9, .bool a.f10, .bool a.f11, .int .i64 a.f12.f0, .slice A5 a.f12.f1.length c5, .slice A6 a.f12.f2.length c6, .string a.f12.f3] 36)
  have hna := blk_new w (.cells #[.slice A0 a.f0.f0.length c0, .slice A1 a.f0.f1.length c1, .slice A2 a.f0.f2.length c2, .slice A3 a.f1.length c3, .int .i64 a.f2, .string a.f3, .string a.f4.f0, .int .i64 a.f4.f1, .int .i64 a.f5.f0, .string a.f5.f1, .int .i64 a.f5.f2, .string a.f6, .slice A4 a.f7.length c4, .int .i64 a.f8, .int .i64 a.f9, .bool a.f10, .bool a.f11, .int .i64 a.f12.f0, .slice A5 a.f12.f1.length c5, .slice A6 a.f12.f2.length c6, .string a.f12.f3] 36)
  obtain ⟨Wa, hWa⟩ : ∃ Wa, Wa = w.alloc (.cells #[.slice A0 a.f0.f0.length c0, .slice A1 a.f0.f1.length c1, .slice A2 a.f0.f2.length c2, .slice A3 a.f1.length c3, .int .i64 a.f2, .string a.f3, .string a.f4.f0, .int .i64 a.f4.f1, .int .i64 a.f5.f0, .string a.f5.f1, .int .i64 a.f5.f2, .string a.f6, .slice A4 a.f7.length c4, .int .i64 a.f8, .int .i64 a.f9, .bool a.f10, .bool a.f11, .int .i64 a.f12.f0, .slice A5 a.f12.f1.length c5, .slice A6 a.f12.f2.length c6, .string a.f12.f3] 36) := ⟨_, rfl⟩
  have HWa := Aside0.mk hWa
  rw [← hWa] at hba hna
  have hsa : Wa.heap.size = w.heap.size + 1 := by rw [hWa]; simp
  have hbb := below_alloc (Below.refl Wa.heap.size Wa) (.cells #[.slice B0 b.f0.f0.length d0, .slice B1 b.f0.f1.length d1, .slice B2 b.f0.f2.length d2, .slice B3 b.f1.length d3, .int .i64 b.f2, .string b.f3, .string b.f4.f0, .int .i64 b.f4.f1, .int .i64 b.f5.f0, .string b.f5.f1, .int .i64 b.f5.f2, .string b.f6, .slice B4 b.f7.length d4, .int .i64 b.f8, .int .i64 b.f9, .bool b.f10, .bool b.f11, .int .i64 b.f12.f0, .slice B5 b.f12.f1.length d5, .slice B6 b.f12.f2.length d6, .string b.f12.f3] 36)
  have hnb := blk_new Wa (.cells #[.slice B0 b.f0.f0.length d0, .slice B1 b.f0.f1.length d1, .slice B2 b.f0.f2.length d2, .slice B3 b.f1.length d3, .int .i64 b.f2, .string b.f3, .string b.f4.f0, .int .i64 b.f4.f1, .int .i64 b.f5.f0, .string b.f5.f1, .int .i64 b.f5.f2, .string b.f6, .slice B4 b.f7.length d4, .int .i64 b.f8, .int .i64 b.f9, .bool b.f10, .bool b.f11, .int .i64 b.f12.f0, .slice B5 b.f12.f1.length d5, .slice B6 b.f12.f2.length d6, .string b.f12.f3] 36)
  obtain ⟨Wb, hWb⟩ : ∃ Wb, Wb = Wa.alloc (.cells #[.slice B0 b.f0.f0.length d0, .slice B1 b.f0.f1.length d1, .slice B2 b.f0.f2.length d2, .slice B3 b.f1.length d3, .int .i64 b.f2, .string b.f3, .string b.f4.f0, .int .i64 b.f4.f1, .int .i64 b.f5.f0, .string b.f5.f1, .int .i64 b.f5.f2, .string b.f6, .slice B4 b.f7.length d4, .int .i64 b.f8, .int .i64 b.f9, .bool b.f10, .bool b.f11, .int .i64 b.f12.f0, .slice B5 b.f12.f1.length d5, .slice B6 b.f12.f2.length d6, .string b.f12.f3] 36) := ⟨_, rfl⟩
  have HWb := Aside0.mk hWb
  rw [← hWb] at hbb hnb
  have hna2 := blk_below hna hbb
  rw [hsa] at hnb
  obtain ⟨qa, hqa⟩ : ∃ qa, w.heap.size = qa := ⟨_, rfl⟩
  have HB0 := Aside0.mk (hba.trans (hbb.mono hba.size))
  have hB0 := HB0.out
  rw [hqa] at hna2 hnb
  have HQA := Aside0.mk hqa
  obtain ⟨qb, hqb⟩ : ∃ qb, qa + 1 = qb := ⟨_, rfl⟩
  rw [hqb] at hnb
  have HQB := Aside0.mk hqb
  have NA := Aside0.mk hna2
  have NB := Aside0.mk hnb
  have ka0 := Aside0.mk (cc ka0 hB0)
  have kb0 := Aside0.mk (cc kb0 hB0)
  have ka1 := Aside0.mk (cc ka1 hB0)
  have kb1 := Aside0.mk (cc kb1 hB0)
  have ka2 := Aside0.mk (cc ka2 hB0)
  have kb2 := Aside0.mk (cc kb2 hB0)
  have ka3 := Aside0.mk (cc ka3 hB0)
  have kb3 := Aside0.mk (cc kb3 hB0)
  have ka4 := Aside0.mk (cc ka4 hB0)
  have kb4 := Aside0.mk (cc kb4 hB0)
  have ka5 := Aside0.mk (cc ka5 hB0)
  have kb5 := Aside0.mk (cc kb5 hB0)
  have ka6 := Aside0.mk (cc ka6 hB0)
  have kb6 := Aside0.mk (cc kb6 hB0)
  have HL := Aside0.mk hl
  have HR := Aside0.mk (hr.trans n36r)
  clear hba hna hWa hsa hbb hnb hWb hna2 hqa hqb hB0 hl hr
  go_enter Try.func7, Try.ntmps7
  go_upto_region 1 with (fail)
  rw [← HWa.out, ← HWb.out, HQA.out, HQB.out]
  have ua0 : Wb.cell? ⟨qa, 0, none⟩ = some (.slice A0 a.f0.f0.length c0) := (blk_cell NA.out 0).trans rfl
  have ub0 : Wb.cell? ⟨qb, 0, none⟩ = some (.slice B0 b.f0.f0.length d0) := (blk_cell NB.out 0).trans rfl
  have ua1 : Wb.cell? ⟨qa, 1, none⟩ = some (.slice A1 a.f0.f1.length c1) := (blk_cell NA.out 1).trans rfl
  have ub1 : Wb.cell? ⟨qb, 1, none⟩ = some (.slice B1 b.f0.f1.length d1) := (blk_cell NB.out 1).trans rfl
  have ua2 : Wb.cell? ⟨qa, 2, none⟩ = some (.slice A2 a.f0.f2.length c2) := (blk_cell NA.out 2).trans rfl
  have ub2 : Wb.cell? ⟨qb, 2, none⟩ = some (.slice B2 b.f0.f2.length d2) := (blk_cell NB.out 2).trans rfl
  rcases tell_and HR.out with ⟨e, hr⟩ | ⟨e, rfl⟩
  case inr =>
    have E0 := Aside0.mk e
    clear e
    go_wp2_with (first | (go_at_call 13; refine (renvsame_c (cc ka0.out (Below.refl _ _)) (cc ka1.out (Below.refl _ _)) (cc ka2.out (Below.refl _ _)) (cc kb0.out (Below.refl _ _)) (cc kb1.out (Below.refl _ _)) (cc kb2.out (Below.refl _ _)) (tell_nope E0.out)).mono ?_; rintro e w1 ⟨rfl, hB⟩; have T1 := Aside0.mk (hB); clear hB; have ua3 : w1.cell? ⟨qa, 3, none⟩ = some (.slice A3 a.f1.length c3) := (blk_cell (blk_below NA.out T1.out) 3).trans rfl; have ub3 : w1.cell? ⟨qb, 3, none⟩ = some (.slice B3 b.f1.length d3) := (blk_cell (blk_below NB.out T1.out) 3).trans rfl))
    go_ret
    exact ⟨rfl, HB0.out.trans (T1.out.mono HB0.out.size)⟩
  have E0 := Aside0.mk e
  have S0 := Aside0.mk hr
  clear e hr
  rcases tell_and S0.out with ⟨e, hr⟩ | ⟨e, rfl⟩
  case inr =>
    have E1 := Aside0.mk e
    clear e
    go_wp2_with (first | (go_at_call 30; refine (rfilesame_c (cc ka3.out T1.out) (cc kb3.out T1.out) (tell_nope E1.out)).mono ?_; rintro e w2 ⟨rfl, hB⟩; have T2 := Aside0.mk (T1.out.trans (hB.mono T1.out.size)); clear hB; have ua4 : w2.cell? ⟨qa, 4, none⟩ = some (.int .i64 a.f2) := (blk_cell (blk_below NA.out T2.out) 4).trans rfl; have ub4 : w2.cell? ⟨qb, 4, none⟩ = some (.int .i64 b.f2) := (blk_cell (blk_below NB.out T2.out) 4).trans rfl; have ua5 : w2.cell? ⟨qa, 5, none⟩ = some (.string a.f3) := (blk_cell (blk_below NA.out T2.out) 5).trans rfl; have ub5 : w2.cell? ⟨qb, 5, none⟩ = some (.string b.f3) := (blk_cell (blk_below NB.out T2.out) 5).trans rfl; have ua6 : w2.cell? ⟨qa, 6, none⟩ = some (.string a.f4.f0) := (blk_cell (blk_below NA.out T2.out) 6).trans rfl; have ub6 : w2.cell? ⟨qb, 6, none⟩ = some (.string b.f4.f0) := (blk_cell (blk_below NB.out T2.out) 6).trans rfl; have ua7 : w2.cell? ⟨qa, 7, none⟩ = some (.int .i64 a.f4.f1) := (blk_cell (blk_below NA.out T2.out) 7).trans rfl; have ub7 : w2.cell? ⟨qb, 7, none⟩ = some (.int .i64 b.f4.f1) := (blk_cell (blk_below NB.out T2.out) 7).trans rfl; have ua8 : w2.cell? ⟨qa, 8, none⟩ = some (.int .i64 a.f5.f0) := (blk_cell (blk_below NA.out T2.out) 8).trans rfl; have ub8 : w2.cell? ⟨qb, 8, none⟩ = some (.int .i64 b.f5.f0) := (blk_cell (blk_below NB.out T2.out) 8).trans rfl; have ua9 : w2.cell? ⟨qa, 9, none⟩ = some (.string a.f5.f1) := (blk_cell (blk_below NA.out T2.out) 9).trans rfl; have ub9 : w2.cell? ⟨qb, 9, none⟩ = some (.string b.f5.f1) := (blk_cell (blk_below NB.out T2.out) 9).trans rfl; have ua10 : w2.cell? ⟨qa, 10, none⟩ = some (.int .i64 a.f5.f2) := (blk_cell (blk_below NA.out T2.out) 10).trans rfl; have ub10 : w2.cell? ⟨qb, 10, none⟩ = some (.int .i64 b.f5.f2) := (blk_cell (blk_below NB.out T2.out) 10).trans rfl; have ua11 : w2.cell? ⟨qa, 11, none⟩ = some (.string a.f6) := (blk_cell (blk_below NA.out T2.out) 11).trans rfl; have ub11 : w2.cell? ⟨qb, 11, none⟩ = some (.string b.f6) := (blk_cell (blk_below NB.out T2.out) 11).trans rfl; have ua12 : w2.cell? ⟨qa, 12, none⟩ = some (.slice A4 a.f7.length c4) := (blk_cell (blk_below NA.out T2.out) 12).trans rfl; have ub12 : w2.cell? ⟨qb, 12, none⟩ = some (.slice B4 b.f7.length d4) := (blk_cell (blk_below NB.out T2.out) 12).trans rfl) | (go_at_call 13; refine (renvsame_c (cc ka0.out (Below.refl _ _)) (cc ka1.out (Below.refl _ _)) (cc ka2.out (Below.refl _ _)) (cc kb0.out (Below.refl _ _)) (cc kb1.out (Below.refl _ _)) (cc kb2.out (Below.refl _ _)) (tell_yes E0.out)).mono ?_; rintro e w1 ⟨rfl, hB⟩; have T1 := Aside0.mk (hB); clear hB; have ua3 : w1.cell? ⟨qa, 3, none⟩ = some (.slice A3 a.f1.length c3) := (blk_cell (blk_below NA.out T1.out) 3).trans rfl; have ub3 : w1.cell? ⟨qb, 3, none⟩ = some (.slice B3 b.f1.length d3) := (blk_cell (blk_below NB.out T1.out) 3).trans rfl))
    go_ret
    exact ⟨rfl, HB0.out.trans (T2.out.mono HB0.out.size)⟩
  have E1 := Aside0.mk e
  have S1 := Aside0.mk hr
  clear e hr
  rcases tell_and S1.out with ⟨e, hr⟩ | ⟨e, rfl⟩
  case inr =>
    have g0 : (a.f2 == b.f2) = false := Bool.eq_false_iff.2 (fun h => e (beq_iff_eq.1 h))
    have h0 : (a.f2 != b.f2) = true := by first | (rw [bne, g0]; done) | (rw [bne, g0]; rfl) | (rw [g0]; done) | (rw [g0]; rfl)
    clear e
    go_wp2_with (first | (go_at_call 30; refine (rfilesame_c (cc ka3.out T1.out) (cc kb3.out T1.out) (tell_yes E1.out)).mono ?_; rintro e w2 ⟨rfl, hB⟩; have T2 := Aside0.mk (T1.out.trans (hB.mono T1.out.size)); clear hB; have ua4 : w2.cell? ⟨qa, 4, none⟩ = some (.int .i64 a.f2) := (blk_cell (blk_below NA.out T2.out) 4).trans rfl; have ub4 : w2.cell? ⟨qb, 4, none⟩ = some (.int .i64 b.f2) := (blk_cell (blk_below NB.out T2.out) 4).trans rfl; have ua5 : w2.cell? ⟨qa, 5, none⟩ = some (.string a.f3) := (blk_cell (blk_below NA.out T2.out) 5).trans rfl; have ub5 : w2.cell? ⟨qb, 5, none⟩ = some (.string b.f3) := (blk_cell (blk_below NB.out T2.out) 5).trans rfl; have ua6 : w2.cell? ⟨qa, 6, none⟩ = some (.string a.f4.f0) := (blk_cell (blk_below NA.out T2.out) 6).trans rfl; have ub6 : w2.cell? ⟨qb, 6, none⟩ = some (.string b.f4.f0) := (blk_cell (blk_below NB.out T2.out) 6).trans rfl; have ua7 : w2.cell? ⟨qa, 7, none⟩ = some (.int .i64 a.f4.f1) := (blk_cell (blk_below NA.out T2.out) 7).trans rfl; have ub7 : w2.cell? ⟨qb, 7, none⟩ = some (.int .i64 b.f4.f1) := (blk_cell (blk_below NB.out T2.out) 7).trans rfl; have ua8 : w2.cell? ⟨qa, 8, none⟩ = some (.int .i64 a.f5.f0) := (blk_cell (blk_below NA.out T2.out) 8).trans rfl; have ub8 : w2.cell? ⟨qb, 8, none⟩ = some (.int .i64 b.f5.f0) := (blk_cell (blk_below NB.out T2.out) 8).trans rfl; have ua9 : w2.cell? ⟨qa, 9, none⟩ = some (.string a.f5.f1) := (blk_cell (blk_below NA.out T2.out) 9).trans rfl; have ub9 : w2.cell? ⟨qb, 9, none⟩ = some (.string b.f5.f1) := (blk_cell (blk_below NB.out T2.out) 9).trans rfl; have ua10 : w2.cell? ⟨qa, 10, none⟩ = some (.int .i64 a.f5.f2) := (blk_cell (blk_below NA.out T2.out) 10).trans rfl; have ub10 : w2.cell? ⟨qb, 10, none⟩ = some (.int .i64 b.f5.f2) := (blk_cell (blk_below NB.out T2.out) 10).trans rfl; have ua11 : w2.cell? ⟨qa, 11, none⟩ = some (.string a.f6) := (blk_cell (blk_below NA.out T2.out) 11).trans rfl; have ub11 : w2.cell? ⟨qb, 11, none⟩ = some (.string b.f6) := (blk_cell (blk_below NB.out T2.out) 11).trans rfl; have ua12 : w2.cell? ⟨qa, 12, none⟩ = some (.slice A4 a.f7.length c4) := (blk_cell (blk_below NA.out T2.out) 12).trans rfl; have ub12 : w2.cell? ⟨qb, 12, none⟩ = some (.slice B4 b.f7.length d4) := (blk_cell (blk_below NB.out T2.out) 12).trans rfl) | (go_at_call 13; refine (renvsame_c (cc ka0.out (Below.refl _ _)) (cc ka1.out (Below.refl _ _)) (cc ka2.out (Below.refl _ _)) (cc kb0.out (Below.refl _ _)) (cc kb1.out (Below.refl _ _)) (cc kb2.out (Below.refl _ _)) (tell_yes E0.out)).mono ?_; rintro e w1 ⟨rfl, hB⟩; have T1 := Aside0.mk (hB); clear hB; have ua3 : w1.cell? ⟨qa, 3, none⟩ = some (.slice A3 a.f1.length c3) := (blk_cell (blk_below NA.out T1.out) 3).trans rfl; have ub3 : w1.cell? ⟨qb, 3, none⟩ = some (.slice B3 b.f1.length d3) := (blk_cell (blk_below NB.out T1.out) 3).trans rfl))
    go_ret
    exact ⟨rfl, HB0.out.trans (T2.out.mono HB0.out.size)⟩
  have g0 : (a.f2 == b.f2) = true := beq_iff_eq.2 e
  have h0 : (a.f2 != b.f2) = false := by first | (rw [bne, g0]; done) | (rw [bne, g0]; rfl) | (rw [g0]; done) | (rw [g0]; rfl)
  have R0 := Aside0.mk hr
  clear e hr
  rcases tell_and R0.out with ⟨e, hr⟩ | ⟨e, rfl⟩
  case inr =>
    have g1 : (a.f3.toList == b.f3.toList) = false := Bool.eq_false_iff.2 (fun h => e (tl_beq.1 h))
    have h1 : (!(a.f3.toList == b.f3.toList)) = true := by first | (rw [bne, g1]; done) | (rw [bne, g1]; rfl) | (rw [g1]; done) | (rw [g1]; rfl)
    clear e
    go_wp2_with (first | (go_at_call 30; refine (rfilesame_c (cc ka3.out T1.out) (cc kb3.out T1.out) (tell_yes E1.out)).mono ?_; rintro e w2 ⟨rfl, hB⟩; have T2 := Aside0.mk (T1.out.trans (hB.mono T1.out.size)); clear hB; have ua4 : w2.cell? ⟨qa, 4, none⟩ = some (.int .i64 a.f2) := (blk_cell (blk_below NA.out T2.out) 4).trans rfl; have ub4 : w2.cell? ⟨qb, 4, none⟩ = some (.int .i64 b.f2) := (blk_cell (blk_below NB.out T2.out) 4).trans rfl; have ua5 : w2.cell? ⟨qa, 5, none⟩ = some (.string a.f3) := (blk_cell (blk_below NA.out T2.out) 5).trans rfl; have ub5 : w2.cell? ⟨qb, 5, none⟩ = some (.string b.f3) := (blk_cell (blk_below NB.out T2.out) 5).trans rfl; have ua6 : w2.cell? ⟨qa, 6, none⟩ = some (.string a.f4.f0) := (blk_cell (blk_below NA.out T2.out) 6).trans rfl; have ub6 : w2.cell? ⟨qb, 6, none⟩ = some (.string b.f4.f0) := (blk_cell (blk_below NB.out T2.out) 6).trans rfl; have ua7 : w2.cell? ⟨qa, 7, none⟩ = some (.int .i64 a.f4.f1) := (blk_cell (blk_below NA.out T2.out) 7).trans rfl; have ub7 : w2.cell? ⟨qb, 7, none⟩ = some (.int .i64 b.f4.f1) := (blk_cell (blk_below NB.out T2.out) 7).trans rfl; have ua8 : w2.cell? ⟨qa, 8, none⟩ = some (.int .i64 a.f5.f0) := (blk_cell (blk_below NA.out T2.out) 8).trans rfl; have ub8 : w2.cell? ⟨qb, 8, none⟩ = some (.int .i64 b.f5.f0) := (blk_cell (blk_below NB.out T2.out) 8).trans rfl; have ua9 : w2.cell? ⟨qa, 9, none⟩ = some (.string a.f5.f1) := (blk_cell (blk_below NA.out T2.out) 9).trans rfl; have ub9 : w2.cell? ⟨qb, 9, none⟩ = some (.string b.f5.f1) := (blk_cell (blk_below NB.out T2.out) 9).trans rfl; have ua10 : w2.cell? ⟨qa, 10, none⟩ = some (.int .i64 a.f5.f2) := (blk_cell (blk_below NA.out T2.out) 10).trans rfl; have ub10 : w2.cell? ⟨qb, 10, none⟩ = some (.int .i64 b.f5.f2) := (blk_cell (blk_below NB.out T2.out) 10).trans rfl; have ua11 : w2.cell? ⟨qa, 11, none⟩ = some (.string a.f6) := (blk_cell (blk_below NA.out T2.out) 11).trans rfl; have ub11 : w2.cell? ⟨qb, 11, none⟩ = some (.string b.f6) := (blk_cell (blk_below NB.out T2.out) 11).trans rfl; have ua12 : w2.cell? ⟨qa, 12, none⟩ = some (.slice A4 a.f7.length c4) := (blk_cell (blk_below NA.out T2.out) 12).trans rfl; have ub12 : w2.cell? ⟨qb, 12, none⟩ = some (.slice B4 b.f7.length d4) := (blk_cell (blk_below NB.out T2.out) 12).trans rfl) | (go_at_call 13; refine (renvsame_c (cc ka0.out (Below.refl _ _)) (cc ka1.out (Below.refl _ _)) (cc ka2.out (Below.refl _ _)) (cc kb0.out (Below.refl _ _)) (cc kb1.out (Below.refl _ _)) (cc kb2.out (Below.refl _ _)) (tell_yes E0.out)).mono ?_; rintro e w1 ⟨rfl, hB⟩; have T1 := Aside0.mk (hB); clear hB; have ua3 : w1.cell? ⟨qa, 3, none⟩ = some (.slice A3 a.f1.length c3) := (blk_cell (blk_below NA.out T1.out) 3).trans rfl; have ub3 : w1.cell? ⟨qb, 3, none⟩ = some (.slice B3 b.f1.length d3) := (blk_cell (blk_below NB.out T1.out) 3).trans rfl))
    go_ret
    exact ⟨rfl, HB0.out.trans (T2.out.mono HB0.out.size)⟩
  have g1 : (a.f3.toList == b.f3.toList) = true := tl_beq.2 e
  have h1 : (!(a.f3.toList == b.f3.toList)) = false := by first | (rw [bne, g1]; done) | (rw [bne, g1]; rfl) | (rw [g1]; done) | (rw [g1]; rfl)
  have R1 := Aside0.mk hr
  clear e hr
  rcases tell_and R1.out with ⟨e, hr⟩ | ⟨e, rfl⟩
  case inr =>
    have g2 : (a.f4.f0.toList == b.f4.f0.toList && (a.f4.f1 == b.f4.f1)) = false := Bool.eq_false_iff.2 (fun h => e (e29.1 h))
    have h2 : (!(a.f4.f0.toList == b.f4.f0.toList && (a.f4.f1 == b.f4.f1))) = true := by first | (rw [bne, g2]; done) | (rw [bne, g2]; rfl) | (rw [g2]; done) | (rw [g2]; rfl)
    clear e
    go_wp2_with (first | (go_at_call 30; refine (rfilesame_c (cc ka3.out T1.out) (cc kb3.out T1.out) (tell_yes E1.out)).mono ?_; rintro e w2 ⟨rfl, hB⟩; have T2 := Aside0.mk (T1.out.trans (hB.mono T1.out.size)); clear hB; have ua4 : w2.cell? ⟨qa, 4, none⟩ = some (.int .i64 a.f2) := (blk_cell (blk_below NA.out T2.out) 4).trans rfl; have ub4 : w2.cell? ⟨qb, 4, none⟩ = some (.int .i64 b.f2) := (blk_cell (blk_below NB.out T2.out) 4).trans rfl; have ua5 : w2.cell? ⟨qa, 5, none⟩ = some (.string a.f3) := (blk_cell (blk_below NA.out T2.out) 5).trans rfl; have ub5 : w2.cell? ⟨qb, 5, none⟩ = some (.string b.f3) := (blk_cell (blk_below NB.out T2.out) 5).trans rfl; have ua6 : w2.cell? ⟨qa, 6, none⟩ = some (.string a.f4.f0) := (blk_cell (blk_below NA.out T2.out) 6).trans rfl; have ub6 : w2.cell? ⟨qb, 6, none⟩ = some (.string b.f4.f0) := (blk_cell (blk_below NB.out T2.out) 6).trans rfl; have ua7 : w2.cell? ⟨qa, 7, none⟩ = some (.int .i64 a.f4.f1) := (blk_cell (blk_below NA.out T2.out) 7).trans rfl; have ub7 : w2.cell? ⟨qb, 7, none⟩ = some (.int .i64 b.f4.f1) := (blk_cell (blk_below NB.out T2.out) 7).trans rfl; have ua8 : w2.cell? ⟨qa, 8, none⟩ = some (.int .i64 a.f5.f0) := (blk_cell (blk_below NA.out T2.out) 8).trans rfl; have ub8 : w2.cell? ⟨qb, 8, none⟩ = some (.int .i64 b.f5.f0) := (blk_cell (blk_below NB.out T2.out) 8).trans rfl; have ua9 : w2.cell? ⟨qa, 9, none⟩ = some (.string a.f5.f1) := (blk_cell (blk_below NA.out T2.out) 9).trans rfl; have ub9 : w2.cell? ⟨qb, 9, none⟩ = some (.string b.f5.f1) := (blk_cell (blk_below NB.out T2.out) 9).trans rfl; have ua10 : w2.cell? ⟨qa, 10, none⟩ = some (.int .i64 a.f5.f2) := (blk_cell (blk_below NA.out T2.out) 10).trans rfl; have ub10 : w2.cell? ⟨qb, 10, none⟩ = some (.int .i64 b.f5.f2) := (blk_cell (blk_below NB.out T2.out) 10).trans rfl; have ua11 : w2.cell? ⟨qa, 11, none⟩ = some (.string a.f6) := (blk_cell (blk_below NA.out T2.out) 11).trans rfl; have ub11 : w2.cell? ⟨qb, 11, none⟩ = some (.string b.f6) := (blk_cell (blk_below NB.out T2.out) 11).trans rfl; have ua12 : w2.cell? ⟨qa, 12, none⟩ = some (.slice A4 a.f7.length c4) := (blk_cell (blk_below NA.out T2.out) 12).trans rfl; have ub12 : w2.cell? ⟨qb, 12, none⟩ = some (.slice B4 b.f7.length d4) := (blk_cell (blk_below NB.out T2.out) 12).trans rfl) | (go_at_call 13; refine (renvsame_c (cc ka0.out (Below.refl _ _)) (cc ka1.out (Below.refl _ _)) (cc ka2.out (Below.refl _ _)) (cc kb0.out (Below.refl _ _)) (cc kb1.out (Below.refl _ _)) (cc kb2.out (Below.refl _ _)) (tell_yes E0.out)).mono ?_; rintro e w1 ⟨rfl, hB⟩; have T1 := Aside0.mk (hB); clear hB; have ua3 : w1.cell? ⟨qa, 3, none⟩ = some (.slice A3 a.f1.length c3) := (blk_cell (blk_below NA.out T1.out) 3).trans rfl; have ub3 : w1.cell? ⟨qb, 3, none⟩ = some (.slice B3 b.f1.length d3) := (blk_cell (blk_below NB.out T1.out) 3).trans rfl))
    go_ret
    exact ⟨rfl, HB0.out.trans (T2.out.mono HB0.out.size)⟩
  have g2 : (a.f4.f0.toList == b.f4.f0.toList && (a.f4.f1 == b.f4.f1)) = true := e29.2 e
  have h2 : (!(a.f4.f0.toList == b.f4.f0.toList && (a.f4.f1 == b.f4.f1))) = false := by first | (rw [bne, g2]; done) | (rw [bne, g2]; rfl) | (rw [g2]; done) | (rw [g2]; rfl)
  have R2 := Aside0.mk hr
  clear e hr
  rcases tell_and R2.out with ⟨e, hr⟩ | ⟨e, rfl⟩
  case inr =>
    have g3 : (a.f5.f0 == b.f5.f0 && (a.f5.f1.toList == b.f5.f1.toList && (a.f5.f2 == b.f5.f2))) = false := Bool.eq_false_iff.2 (fun h => e (e31.1 h))
    have h3 : (!(a.f5.f0 == b.f5.f0 && (a.f5.f1.toList == b.f5.f1.toList && (a.f5.f2 == b.f5.f2)))) = true := by first | (rw [bne, g3]; done) | (rw [bne, g3]; rfl) | (rw [g3]; done) | (rw [g3]; rfl)
    clear e
    go_wp2_with (first | (go_at_call 30; refine (rfilesame_c (cc ka3.out T1.out) (cc kb3.out T1.out) (tell_yes E1.out)).mono ?_; rintro e w2 ⟨rfl, hB⟩; have T2 := Aside0.mk (T1.out.trans (hB.mono T1.out.size)); clear hB; have ua4 : w2.cell? ⟨qa, 4, none⟩ = some (.int .i64 a.f2) := (blk_cell (blk_below NA.out T2.out) 4).trans rfl; have ub4 : w2.cell? ⟨qb, 4, none⟩ = some (.int .i64 b.f2) := (blk_cell (blk_below NB.out T2.out) 4).trans rfl; have ua5 : w2.cell? ⟨qa, 5, none⟩ = some (.string a.f3) := (blk_cell (blk_below NA.out T2.out) 5).trans rfl; have ub5 : w2.cell? ⟨qb, 5, none⟩ = some (.string b.f3) := (blk_cell (blk_below NB.out T2.out) 5).trans rfl; have ua6 : w2.cell? ⟨qa, 6, none⟩ = some (.string a.f4.f0) := (blk_cell (blk_below NA.out T2.out) 6).trans rfl; have ub6 : w2.cell? ⟨qb, 6, none⟩ = some (.string b.f4.f0) := (blk_cell (blk_below NB.out T2.out) 6).trans rfl; have ua7 : w2.cell? ⟨qa, 7, none⟩ = some (.int .i64 a.f4.f1) := (blk_cell (blk_below NA.out T2.out) 7).trans rfl; have ub7 : w2.cell? ⟨qb, 7, none⟩ = some (.int .i64 b.f4.f1) := (blk_cell (blk_below NB.out T2.out) 7).trans rfl; have ua8 : w2.cell? ⟨qa, 8, none⟩ = some (.int .i64 a.f5.f0) := (blk_cell (blk_below NA.out T2.out) 8).trans rfl; have ub8 : w2.cell? ⟨qb, 8, none⟩ = some (.int .i64 b.f5.f0) := (blk_cell (blk_below NB.out T2.out) 8).trans rfl; have ua9 : w2.cell? ⟨qa, 9, none⟩ = some (.string a.f5.f1) := (blk_cell (blk_below NA.out T2.out) 9).trans rfl; have ub9 : w2.cell? ⟨qb, 9, none⟩ = some (.string b.f5.f1) := (blk_cell (blk_below NB.out T2.out) 9).trans rfl; have ua10 : w2.cell? ⟨qa, 10, none⟩ = some (.int .i64 a.f5.f2) := (blk_cell (blk_below NA.out T2.out) 10).trans rfl; have ub10 : w2.cell? ⟨qb, 10, none⟩ = some (.int .i64 b.f5.f2) := (blk_cell (blk_below NB.out T2.out) 10).trans rfl; have ua11 : w2.cell? ⟨qa, 11, none⟩ = some (.string a.f6) := (blk_cell (blk_below NA.out T2.out) 11).trans rfl; have ub11 : w2.cell? ⟨qb, 11, none⟩ = some (.string b.f6) := (blk_cell (blk_below NB.out T2.out) 11).trans rfl; have ua12 : w2.cell? ⟨qa, 12, none⟩ = some (.slice A4 a.f7.length c4) := (blk_cell (blk_below NA.out T2.out) 12).trans rfl; have ub12 : w2.cell? ⟨qb, 12, none⟩ = some (.slice B4 b.f7.length d4) := (blk_cell (blk_below NB.out T2.out) 12).trans rfl) | (go_at_call 13; refine (renvsame_c (cc ka0.out (Below.refl _ _)) (cc ka1.out (Below.refl _ _)) (cc ka2.out (Below.refl _ _)) (cc kb0.out (Below.refl _ _)) (cc kb1.out (Below.refl _ _)) (cc kb2.out (Below.refl _ _)) (tell_yes E0.out)).mono ?_; rintro e w1 ⟨rfl, hB⟩; have T1 := Aside0.mk (hB); clear hB; have ua3 : w1.cell? ⟨qa, 3, none⟩ = some (.slice A3 a.f1.length c3) := (blk_cell (blk_below NA.out T1.out) 3).trans rfl; have ub3 : w1.cell? ⟨qb, 3, none⟩ = some (.slice B3 b.f1.length d3) := (blk_cell (blk_below NB.out T1.out) 3).trans rfl))
    go_ret
    exact ⟨rfl, HB0.out.trans (T2.out.mono HB0.out.size)⟩
  have g3 : (a.f5.f0 == b.f5.f0 && (a.f5.f1.toList == b.f5.f1.toList && (a.f5.f2 == b.f5.f2))) = true := e31.2 e
  have h3 : (!(a.f5.f0 == b.f5.f0 && (a.f5.f1.toList == b.f5.f1.toList && (a.f5.f2 == b.f5.f2)))) = false := by first | (rw [bne, g3]; done) | (rw [bne, g3]; rfl) | (rw [g3]; done) | (rw [g3]; rfl)
  have R3 := Aside0.mk hr
  clear e hr
  rcases tell_and R3.out with ⟨e, hr⟩ | ⟨e, rfl⟩
  case inr =>
    have g4 : (a.f6.toList == b.f6.toList) = false := Bool.eq_false_iff.2 (fun h => e (tl_beq.1 h))
    have h4 : (!(a.f6.toList == b.f6.toList)) = true := by first | (rw [bne, g4]; done) | (rw [bne, g4]; rfl) | (rw [g4]; done) | (rw [g4]; rfl)
    clear e
    go_wp2_with (first | (go_at_call 30; refine (rfilesame_c (cc ka3.out T1.out) (cc kb3.out T1.out) (tell_yes E1.out)).mono ?_; rintro e w2 ⟨rfl, hB⟩; have T2 := Aside0.mk (T1.out.trans (hB.mono T1.out.size)); clear hB; have ua4 : w2.cell? ⟨qa, 4, none⟩ = some (.int .i64 a.f2) := (blk_cell (blk_below NA.out T2.out) 4).trans rfl; have ub4 : w2.cell? ⟨qb, 4, none⟩ = some (.int .i64 b.f2) := (blk_cell (blk_below NB.out T2.out) 4).trans rfl; have ua5 : w2.cell? ⟨qa, 5, none⟩ = some (.string a.f3) := (blk_cell (blk_below NA.out T2.out) 5).trans rfl; have ub5 : w2.cell? ⟨qb, 5, none⟩ = some (.string b.f3) := (blk_cell (blk_below NB.out T2.out) 5).trans rfl; have ua6 : w2.cell? ⟨qa, 6, none⟩ = some (.string a.f4.f0) := (blk_cell (blk_below NA.out T2.out) 6).trans rfl; have ub6 : w2.cell? ⟨qb, 6, none⟩ = some (.string b.f4.f0) := (blk_cell (blk_below NB.out T2.out) 6).trans rfl; have ua7 : w2.cell? ⟨qa, 7, none⟩ = some (.int .i64 a.f4.f1) := (blk_cell (blk_below NA.out T2.out) 7).trans rfl; have ub7 : w2.cell? ⟨qb, 7, none⟩ = some (.int .i64 b.f4.f1) := (blk_cell (blk_below NB.out T2.out) 7).trans rfl; have ua8 : w2.cell? ⟨qa, 8, none⟩ = some (.int .i64 a.f5.f0) := (blk_cell (blk_below NA.out T2.out) 8).trans rfl; have ub8 : w2.cell? ⟨qb, 8, none⟩ = some (.int .i64 b.f5.f0) := (blk_cell (blk_below NB.out T2.out) 8).trans rfl; have ua9 : w2.cell? ⟨qa, 9, none⟩ = some (.string a.f5.f1) := (blk_cell (blk_below NA.out T2.out) 9).trans rfl; have ub9 : w2.cell? ⟨qb, 9, none⟩ = some (.string b.f5.f1) := (blk_cell (blk_below NB.out T2.out) 9).trans rfl; have ua10 : w2.cell? ⟨qa, 10, none⟩ = some (.int .i64 a.f5.f2) := (blk_cell (blk_below NA.out T2.out) 10).trans rfl; have ub10 : w2.cell? ⟨qb, 10, none⟩ = some (.int .i64 b.f5.f2) := (blk_cell (blk_below NB.out T2.out) 10).trans rfl; have ua11 : w2.cell? ⟨qa, 11, none⟩ = some (.string a.f6) := (blk_cell (blk_below NA.out T2.out) 11).trans rfl; have ub11 : w2.cell? ⟨qb, 11, none⟩ = some (.string b.f6) := (blk_cell (blk_below NB.out T2.out) 11).trans rfl; have ua12 : w2.cell? ⟨qa, 12, none⟩ = some (.slice A4 a.f7.length c4) := (blk_cell (blk_below NA.out T2.out) 12).trans rfl; have ub12 : w2.cell? ⟨qb, 12, none⟩ = some (.slice B4 b.f7.length d4) := (blk_cell (blk_below NB.out T2.out) 12).trans rfl) | (go_at_call 13; refine (renvsame_c (cc ka0.out (Below.refl _ _)) (cc ka1.out (Below.refl _ _)) (cc ka2.out (Below.refl _ _)) (cc kb0.out (Below.refl _ _)) (cc kb1.out (Below.refl _ _)) (cc kb2.out (Below.refl _ _)) (tell_yes E0.out)).mono ?_; rintro e w1 ⟨rfl, hB⟩; have T1 := Aside0.mk (hB); clear hB; have ua3 : w1.cell? ⟨qa, 3, none⟩ = some (.slice A3 a.f1.length c3) := (blk_cell (blk_below NA.out T1.out) 3).trans rfl; have ub3 : w1.cell? ⟨qb, 3, none⟩ = some (.slice B3 b.f1.length d3) := (blk_cell (blk_below NB.out T1.out) 3).trans rfl))
    go_ret
    exact ⟨rfl, HB0.out.trans (T2.out.mono HB0.out.size)⟩
  have g4 : (a.f6.toList == b.f6.toList) = true := tl_beq.2 e
  have h4 : (!(a.f6.toList == b.f6.toList)) = false := by first | (rw [bne, g4]; done) | (rw [bne, g4]; rfl) | (rw [g4]; done) | (rw [g4]; rfl)
  have R4 := Aside0.mk hr
  clear e hr
  rcases tell_and R4.out with ⟨e, hr⟩ | ⟨e, rfl⟩
  case inr =>
    have g7 := len_ne e
    clear e
    go_wp2_with (first | (go_at_call 30; refine (rfilesame_c (cc ka3.out T1.out) (cc kb3.out T1.out) (tell_yes E1.out)).mono ?_; rintro e w2 ⟨rfl, hB⟩; have T2 := Aside0.mk (T1.out.trans (hB.mono T1.out.size)); clear hB; have ua4 : w2.cell? ⟨qa, 4, none⟩ = some (.int .i64 a.f2) := (blk_cell (blk_below NA.out T2.out) 4).trans rfl; have ub4 : w2.cell? ⟨qb, 4, none⟩ = some (.int .i64 b.f2) := (blk_cell (blk_below NB.out T2.out) 4).trans rfl; have ua5 : w2.cell? ⟨qa, 5, none⟩ = some (.string a.f3) := (blk_cell (blk_below NA.out T2.out) 5).trans rfl; have ub5 : w2.cell? ⟨qb, 5, none⟩ = some (.string b.f3) := (blk_cell (blk_below NB.out T2.out) 5).trans rfl; have ua6 : w2.cell? ⟨qa, 6, none⟩ = some (.string a.f4.f0) := (blk_cell (blk_below NA.out T2.out) 6).trans rfl; have ub6 : w2.cell? ⟨qb, 6, none⟩ = some (.string b.f4.f0) := (blk_cell (blk_below NB.out T2.out) 6).trans rfl; have ua7 : w2.cell? ⟨qa, 7, none⟩ = some (.int .i64 a.f4.f1) := (blk_cell (blk_below NA.out T2.out) 7).trans rfl; have ub7 : w2.cell? ⟨qb, 7, none⟩ = some (.int .i64 b.f4.f1) := (blk_cell (blk_below NB.out T2.out) 7).trans rfl; have ua8 : w2.cell? ⟨qa, 8, none⟩ = some (.int .i64 a.f5.f0) := (blk_cell (blk_below NA.out T2.out) 8).trans rfl; have ub8 : w2.cell? ⟨qb, 8, none⟩ = some (.int .i64 b.f5.f0) := (blk_cell (blk_below NB.out T2.out) 8).trans rfl; have ua9 : w2.cell? ⟨qa, 9, none⟩ = some (.string a.f5.f1) := (blk_cell (blk_below NA.out T2.out) 9).trans rfl; have ub9 : w2.cell? ⟨qb, 9, none⟩ = some (.string b.f5.f1) := (blk_cell (blk_below NB.out T2.out) 9).trans rfl; have ua10 : w2.cell? ⟨qa, 10, none⟩ = some (.int .i64 a.f5.f2) := (blk_cell (blk_below NA.out T2.out) 10).trans rfl; have ub10 : w2.cell? ⟨qb, 10, none⟩ = some (.int .i64 b.f5.f2) := (blk_cell (blk_below NB.out T2.out) 10).trans rfl; have ua11 : w2.cell? ⟨qa, 11, none⟩ = some (.string a.f6) := (blk_cell (blk_below NA.out T2.out) 11).trans rfl; have ub11 : w2.cell? ⟨qb, 11, none⟩ = some (.string b.f6) := (blk_cell (blk_below NB.out T2.out) 11).trans rfl; have ua12 : w2.cell? ⟨qa, 12, none⟩ = some (.slice A4 a.f7.length c4) := (blk_cell (blk_below NA.out T2.out) 12).trans rfl; have ub12 : w2.cell? ⟨qb, 12, none⟩ = some (.slice B4 b.f7.length d4) := (blk_cell (blk_below NB.out T2.out) 12).trans rfl) | (go_at_call 13; refine (renvsame_c (cc ka0.out (Below.refl _ _)) (cc ka1.out (Below.refl _ _)) (cc ka2.out (Below.refl _ _)) (cc kb0.out (Below.refl _ _)) (cc kb1.out (Below.refl _ _)) (cc kb2.out (Below.refl _ _)) (tell_yes E0.out)).mono ?_; rintro e w1 ⟨rfl, hB⟩; have T1 := Aside0.mk (hB); clear hB; have ua3 : w1.cell? ⟨qa, 3, none⟩ = some (.slice A3 a.f1.length c3) := (blk_cell (blk_below NA.out T1.out) 3).trans rfl; have ub3 : w1.cell? ⟨qb, 3, none⟩ = some (.slice B3 b.f1.length d3) := (blk_cell (blk_below NB.out T1.out) 3).trans rfl))
    go_ret
    exact ⟨rfl, HB0.out.trans (T2.out.mono HB0.out.size)⟩
  have HLE := Aside0.mk e
  have g7 := len_eq e
  have RL := Aside0.mk hr
  clear e hr
  go_wp2_with (first | (go_at_call 30; refine (rfilesame_c (cc ka3.out T1.out) (cc kb3.out T1.out) (tell_yes E1.out)).mono ?_; rintro e w2 ⟨rfl, hB⟩; have T2 := Aside0.mk (T1.out.trans (hB.mono T1.out.size)); clear hB; have ua4 : w2.cell? ⟨qa, 4, none⟩ = some (.int .i64 a.f2) := (blk_cell (blk_below NA.out T2.out) 4).trans rfl; have ub4 : w2.cell? ⟨qb, 4, none⟩ = some (.int .i64 b.f2) := (blk_cell (blk_below NB.out T2.out) 4).trans rfl; have ua5 : w2.cell? ⟨qa, 5, none⟩ = some (.string a.f3) := (blk_cell (blk_below NA.out T2.out) 5).trans rfl; have ub5 : w2.cell? ⟨qb, 5, none⟩ = some (.string b.f3) := (blk_cell (blk_below NB.out T2.out) 5).trans rfl; have ua6 : w2.cell? ⟨qa, 6, none⟩ = some (.string a.f4.f0) := (blk_cell (blk_below NA.out T2.out) 6).trans rfl; have ub6 : w2.cell? ⟨qb, 6, none⟩ = some (.string b.f4.f0) := (blk_cell (blk_below NB.out T2.out) 6).trans rfl; have ua7 : w2.cell? ⟨qa, 7, none⟩ = some (.int .i64 a.f4.f1) := (blk_cell (blk_below NA.out T2.out) 7).trans rfl; have ub7 : w2.cell? ⟨qb, 7, none⟩ = some (.int .i64 b.f4.f1) := (blk_cell (blk_below NB.out T2.out) 7).trans rfl; have ua8 : w2.cell? ⟨qa, 8, none⟩ = some (.int .i64 a.f5.f0) := (blk_cell (blk_below NA.out T2.out) 8).trans rfl; have ub8 : w2.cell? ⟨qb, 8, none⟩ = some (.int .i64 b.f5.f0) := (blk_cell (blk_below NB.out T2.out) 8).trans rfl; have ua9 : w2.cell? ⟨qa, 9, none⟩ = some (.string a.f5.f1) := (blk_cell (blk_below NA.out T2.out) 9).trans rfl; have ub9 : w2.cell? ⟨qb, 9, none⟩ = some (.string b.f5.f1) := (blk_cell (blk_below NB.out T2.out) 9).trans rfl; have ua10 : w2.cell? ⟨qa, 10, none⟩ = some (.int .i64 a.f5.f2) := (blk_cell (blk_below NA.out T2.out) 10).trans rfl; have ub10 : w2.cell? ⟨qb, 10, none⟩ = some (.int .i64 b.f5.f2) := (blk_cell (blk_below NB.out T2.out) 10).trans rfl; have ua11 : w2.cell? ⟨qa, 11, none⟩ = some (.string a.f6) := (blk_cell (blk_below NA.out T2.out) 11).trans rfl; have ub11 : w2.cell? ⟨qb, 11, none⟩ = some (.string b.f6) := (blk_cell (blk_below NB.out T2.out) 11).trans rfl; have ua12 : w2.cell? ⟨qa, 12, none⟩ = some (.slice A4 a.f7.length c4) := (blk_cell (blk_below NA.out T2.out) 12).trans rfl; have ub12 : w2.cell? ⟨qb, 12, none⟩ = some (.slice B4 b.f7.length d4) := (blk_cell (blk_below NB.out T2.out) 12).trans rfl) | (go_at_call 13; refine (renvsame_c (cc ka0.out (Below.refl _ _)) (cc ka1.out (Below.refl _ _)) (cc ka2.out (Below.refl _ _)) (cc kb0.out (Below.refl _ _)) (cc kb1.out (Below.refl _ _)) (cc kb2.out (Below.refl _ _)) (tell_yes E0.out)).mono ?_; rintro e w1 ⟨rfl, hB⟩; have T1 := Aside0.mk (hB); clear hB; have ua3 : w1.cell? ⟨qa, 3, none⟩ = some (.slice A3 a.f1.length c3) := (blk_cell (blk_below NA.out T1.out) 3).trans rfl; have ub3 : w1.cell? ⟨qb, 3, none⟩ = some (.slice B3 b.f1.length d3) := (blk_cell (blk_below NB.out T1.out) 3).trans rfl))
  clear g0 h0 g1 h1 g2 h2 g3 h3 g4 h4 g7 ua0 ub0 ua1 ub1 ua2 ub2 ua3 ub3 ua4 ub4 ua5 ub5 ua6 ub6 ua7 ub7 ua8 ub8 ua9 ub9 ua10 ub10 ua11 ub11 ua12 ub12
  have RL0 : Aside0 (r = true ↔ (a.f7.drop 0 = b.f7.drop 0 ∧ a.f8 = b.f8 ∧ a.f9 = b.f9 ∧ a.f10 = b.f10 ∧ a.f11 = b.f11 ∧ a.f12 = b.f12)) := ⟨RL.out⟩
  go_loopw [5] (fun u5 wr => ∃ k : Nat, u5 = .int .i64 (k : Int) ∧ Aside0 (k ≤ a.f7.length) ∧ Aside0 (r = true ↔ (a.f7.drop k = b.f7.drop k ∧ a.f8 = b.f8 ∧ a.f9 = b.f9 ∧ a.f10 = b.f10 ∧ a.f11 = b.f11 ∧ a.f12 = b.f12)) ∧ Aside0 (Below Wb.heap.size Wb wr)) (fun u5 _ => a.f7.length + 1 - (intOf u5).toNat)
  case atStart => exact ⟨0, rfl, ⟨Nat.zero_le _⟩, RL0, T2⟩
  case round =>
    obtain ⟨k, rfl, HK, HQ, HB⟩ := hrel
    have hl := HL.out
    have hk := HK.out
    have hne := HLE.out
    have hp0 : (0 : Int) ≤ (k : Int) := by omega
    have hp1 : (k : Int) ≤ 1000000 := by omega
    have ua12 : wr.cell? ⟨qa, 12, none⟩ = some (.slice A4 a.f7.length c4) := (blk_cell (blk_below NA.out HB.out) 12).trans rfl
    have ub12 : wr.cell? ⟨qb, 12, none⟩ = some (.slice B4 b.f7.length d4) := (blk_cell (blk_below NB.out HB.out) 12).trans rfl
    by_cases hlt : k < a.f7.length
    · have dl : decide ((k : Int) < (a.f7.length : Int)) = true := decide_eq_true (by omega)
      have dl' : decide (k < a.f7.length) = true := decide_eq_true hlt
      have hp2 : (k : Int) < (a.f7.length : Int) := by omega
      have hp3 : (k : Int) < (b.f7.length : Int) := by omega
      obtain ⟨ad0, A04, A05, A06, A07, c04, c05, c06, c07, e0, X0, x4, x5, x6, x7⟩ := frame_at (cc ka4.out HB.out).2 k hlt
      obtain ⟨ad1, B04, B05, B06, B07, d04, d05, d06, d07, e1, Y0, y4, y5, y6, y7⟩ := frame_at (cc kb4.out HB.out).2 k (by omega)
      subst e0
      subst e1
      have hq := HQ.out
      rw [drop_getD z59 a.f7 k hlt, drop_getD z59 b.f7 k (by omega), List.cons.injEq, and_assoc] at hq
      obtain ⟨x, hx⟩ : ∃ x, a.f7.getD k z59 = x := ⟨_, rfl⟩
      obtain ⟨y, hy⟩ : ∃ y, b.f7.getD k z59 = y := ⟨_, rfl⟩
      rw [hx] at X0 x4 x5 x6 x7 hq
      rw [hy] at Y0 y4 y5 y6 y7 hq
      have X0_ := Aside0.mk X0
      have Y0_ := Aside0.mk Y0
      have X4_ := Aside0.mk x4
      have X5_ := Aside0.mk x5
      have X6_ := Aside0.mk x6
      have X7_ := Aside0.mk x7
      have Y4_ := Aside0.mk y4
      have Y5_ := Aside0.mk y5
      have Y6_ := Aside0.mk y6
      have Y7_ := Aside0.mk y7
      have HQ1 := Aside0.mk hq
      have HLT := Aside0.mk hlt
      clear X0 Y0 x4 x5 x6 x7 y4 y5 y6 y7 hq hx hy hlt hl hk hne
      go_upto_region 6 with (fail)
      clear dl dl' ua12 ub12
      have HSS : Aside0 (∀ W', Below wr.heap.size wr W' → (fun W' => (W'.cell? ⟨qa, 12, none⟩ = some (.slice (some ad0) a.f7.length c4) ∧ W'.cell? ⟨qb, 12, none⟩ = some (.slice (some ad1) b.f7.length d4)) ∧ (W'.cell? (ad0.add (k * 14)) = some (.int .i64 x.f0) ∧ W'.cell? ⟨(ad0.add (k * 14)).block, (ad0.add (k * 14)).off + 1, none⟩ = some (.int .i64 x.f1) ∧ W'.cell? ⟨(ad0.add (k * 14)).block, (ad0.add (k * 14)).off + 2, none⟩ = some (.int .i64 x.f2) ∧ W'.cell? ⟨(ad0.add (k * 14)).block, (ad0.add (k * 14)).off + 3, none⟩ = some (.int .i64 x.f3) ∧ W'.cell? ⟨(ad0.add (k * 14)).block, (ad0.add (k * 14)).off + 4, none⟩ = some (.slice A04 x.f4.length c04) ∧ W'.cell? ⟨(ad0.add (k * 14)).block, (ad0.add (k * 14)).off + 5, none⟩ = some (.slice A05 x.f5.f0.length c05) ∧ W'.cell? ⟨(ad0.add (k * 14)).block, (ad0.add (k * 14)).off + 6, none⟩ = some (.slice A06 x.f5.f1.length c06) ∧ W'.cell? ⟨(ad0.add (k * 14)).block, (ad0.add (k * 14)).off + 7, none⟩ = some (.slice A07 x.f5.f2.length c07) ∧ W'.cell? ⟨(ad0.add (k * 14)).block, (ad0.add (k * 14)).off + 8, none⟩ = some (.string x.f6.f0) ∧ W'.cell? ⟨(ad0.add (k * 14)).block, (ad0.add (k * 14)).off + 9, none⟩ = some (.int .i64 x.f6.f1) ∧ W'.cell? ⟨(ad0.add (k * 14)).block, (ad0.add (k * 14)).off + 10, none⟩ = some (.int .i64 x.f7.f0) ∧ W'.cell? ⟨(ad0.add (k * 14)).block, (ad0.add (k * 14)).off + 11, none⟩ = some (.string x.f7.f1) ∧ W'.cell? ⟨(ad0.add (k * 14)).block, (ad0.add (k * 14)).off + 12, none⟩ = some (.int .i64 x.f7.f2) ∧ W'.cell? ⟨(ad0.add (k * 14)).block, (ad0.add (k * 14)).off + 13, none⟩ = some (.string x.f8)) ∧ (W'.cell? (ad1.add (k * 14)) = some (.int .i64 y.f0) ∧ W'.cell? ⟨(ad1.add (k * 14)).block, (ad1.add (k * 14)).off + 1, none⟩ = some (.int .i64 y.f1) ∧ W'.cell? ⟨(ad1.add (k * 14)).block, (ad1.add (k * 14)).off + 2, none⟩ = some (.int .i64 y.f2) ∧ W'.cell? ⟨(ad1.add (k * 14)).block, (ad1.add (k * 14)).off + 3, none⟩ = some (.int .i64 y.f3) ∧ W'.cell? ⟨(ad1.add (k * 14)).block, (ad1.add (k * 14)).off + 4, none⟩ = some (.slice B04 y.f4.length d04) ∧ W'.cell? ⟨(ad1.add (k * 14)).block, (ad1.add (k * 14)).off + 5, none⟩ = some (.slice B05 y.f5.f0.length d05) ∧ W'.cell? ⟨(ad1.add (k * 14)).block, (ad1.add (k * 14)).off + 6, none⟩ = some (.slice B06 y.f5.f1.length d06) ∧ W'.cell? ⟨(ad1.add (k * 14)).block, (ad1.add (k * 14)).off + 7, none⟩ = some (.slice B07 y.f5.f2.length d07) ∧ W'.cell? ⟨(ad1.add (k * 14)).block, (ad1.add (k * 14)).off + 8, none⟩ = some (.string y.f6.f0) ∧ W'.cell? ⟨(ad1.add (k * 14)).block, (ad1.add (k * 14)).off + 9, none⟩ = some (.int .i64 y.f6.f1) ∧ W'.cell? ⟨(ad1.add (k * 14)).block, (ad1.add (k * 14)).off + 10, none⟩ = some (.int .i64 y.f7.f0) ∧ W'.cell? ⟨(ad1.add (k * 14)).block, (ad1.add (k * 14)).off + 11, none⟩ = some (.string y.f7.f1) ∧ W'.cell? ⟨(ad1.add (k * 14)).block, (ad1.add (k * 14)).off + 12, none⟩ = some (.int .i64 y.f7.f2) ∧ W'.cell? ⟨(ad1.add (k * 14)).block, (ad1.add (k * 14)).off + 13, none⟩ = some (.string y.f8))) W') := ⟨fun W' hB => by
        have hw := HB.out.trans (hB.mono HB.out.size)
        exact ⟨⟨(blk_cell (blk_below NA.out hw) 12).trans rfl, (blk_cell (blk_below NB.out hw) 12).trans rfl⟩, X0_.out.below hB, Y0_.out.below hB⟩⟩
      have hd := below_drew1 (Below.refl wr.heap.size wr)
      have HD := Aside0.mk hd
      have hS0 := HSS.out _ hd
      clear hd
      refine wp_region_held_drew (S := (fun W' => (W'.cell? ⟨qa, 12, none⟩ = some (.slice (some ad0) a.f7.length c4) ∧ W'.cell? ⟨qb, 12, none⟩ = some (.slice (some ad1) b.f7.length d4)) ∧ (W'.cell? (ad0.add (k * 14)) = some (.int .i64 x.f0) ∧ W'.cell? ⟨(ad0.add (k * 14)).block, (ad0.add (k * 14)).off + 1, none⟩ = some (.int .i64 x.f1) ∧ W'.cell? ⟨(ad0.add (k * 14)).block, (ad0.add (k * 14)).off + 2, none⟩ = some (.int .i64 x.f2) ∧ W'.cell? ⟨(ad0.add (k * 14)).block, (ad0.add (k * 14)).off + 3, none⟩ = some (.int .i64 x.f3) ∧ W'.cell? ⟨(ad0.add (k * 14)).block, (ad0.add (k * 14)).off + 4, none⟩ = some (.slice A04 x.f4.length c04) ∧ W'.cell? ⟨(ad0.add (k * 14)).block, (ad0.add (k * 14)).off + 5, none⟩ = some (.slice A05 x.f5.f0.length c05) ∧ W'.cell? ⟨(ad0.add (k * 14)).block, (ad0.add (k * 14)).off + 6, none⟩ = some (.slice A06 x.f5.f1.length c06) ∧ W'.cell? ⟨(ad0.add (k * 14)).block, (ad0.add (k * 14)).off + 7, none⟩ = some (.slice A07 x.f5.f2.length c07) ∧ W'.cell? ⟨(ad0.add (k * 14)).block, (ad0.add (k * 14)).off + 8, none⟩ = some (.string x.f6.f0) ∧ W'.cell? ⟨(ad0.add (k * 14)).block, (ad0.add (k * 14)).off + 9, none⟩ = some (.int .i64 x.f6.f1) ∧ W'.cell? ⟨(ad0.add (k * 14)).block, (ad0.add (k * 14)).off + 10, none⟩ = some (.int .i64 x.f7.f0) ∧ W'.cell? ⟨(ad0.add (k * 14)).block, (ad0.add (k * 14)).off + 11, none⟩ = some (.string x.f7.f1) ∧ W'.cell? ⟨(ad0.add (k * 14)).block, (ad0.add (k * 14)).off + 12, none⟩ = some (.int .i64 x.f7.f2) ∧ W'.cell? ⟨(ad0.add (k * 14)).block, (ad0.add (k * 14)).off + 13, none⟩ = some (.string x.f8)) ∧ (W'.cell? (ad1.add (k * 14)) = some (.int .i64 y.f0) ∧ W'.cell? ⟨(ad1.add (k * 14)).block, (ad1.add (k * 14)).off + 1, none⟩ = some (.int .i64 y.f1) ∧ W'.cell? ⟨(ad1.add (k * 14)).block, (ad1.add (k * 14)).off + 2, none⟩ = some (.int .i64 y.f2) ∧ W'.cell? ⟨(ad1.add (k * 14)).block, (ad1.add (k * 14)).off + 3, none⟩ = some (.int .i64 y.f3) ∧ W'.cell? ⟨(ad1.add (k * 14)).block, (ad1.add (k * 14)).off + 4, none⟩ = some (.slice B04 y.f4.length d04) ∧ W'.cell? ⟨(ad1.add (k * 14)).block, (ad1.add (k * 14)).off + 5, none⟩ = some (.slice B05 y.f5.f0.length d05) ∧ W'.cell? ⟨(ad1.add (k * 14)).block, (ad1.add (k * 14)).off + 6, none⟩ = some (.slice B06 y.f5.f1.length d06) ∧ W'.cell? ⟨(ad1.add (k * 14)).block, (ad1.add (k * 14)).off + 7, none⟩ = some (.slice B07 y.f5.f2.length d07) ∧ W'.cell? ⟨(ad1.add (k * 14)).block, (ad1.add (k * 14)).off + 8, none⟩ = some (.string y.f6.f0) ∧ W'.cell? ⟨(ad1.add (k * 14)).block, (ad1.add (k * 14)).off + 9, none⟩ = some (.int .i64 y.f6.f1) ∧ W'.cell? ⟨(ad1.add (k * 14)).block, (ad1.add (k * 14)).off + 10, none⟩ = some (.int .i64 y.f7.f0) ∧ W'.cell? ⟨(ad1.add (k * 14)).block, (ad1.add (k * 14)).off + 11, none⟩ = some (.string y.f7.f1) ∧ W'.cell? ⟨(ad1.add (k * 14)).block, (ad1.add (k * 14)).off + 12, none⟩ = some (.int .i64 y.f7.f2) ∧ W'.cell? ⟨(ad1.add (k * 14)).block, (ad1.add (k * 14)).off + 13, none⟩ = some (.string y.f8)))) (by kernel_rfl) hS0 (fun hHeld => ?_)
      clear hHeld
      refine rg_take (i := 0) (dst := some 71) (v := ?_) (by kernel_rfl) (by kernel_rfl) (by kernel_rfl) (by kernel_rfl) (fun _ _ _ h => h) (by rfl) ?_ (by assumption) ?_
      rotate_left
      · intro o ho w' hSw
        cases ho
        (try dsimp only at hSw)
        obtain ⟨⟨s1, s2⟩, ⟨s3, s4, s5, s6, s7, s8, s9, s10, s11, s12, s13, s14, s15, s16⟩, ⟨s17, s18, s19, s20, s21, s22, s23, s24, s25, s26, s27, s28, s29, s30⟩⟩ := hSw
        go_simp
        first | done | with_reducible rfl
      simp only [Act.put, List.setIfInBounds_toArray, List.set_cons_zero, List.set_cons_succ]
      refine rg_take (i := 1) (dst := some 72) (v := ?_) (by kernel_rfl) (by kernel_rfl) (by kernel_rfl) (by kernel_rfl) (fun _ _ _ h => h) (by rfl) ?_ (by assumption) ?_
      rotate_left
      · intro o ho w' hSw
        cases ho
        (try dsimp only at hSw)
        obtain ⟨⟨s1, s2⟩, ⟨s3, s4, s5, s6, s7, s8, s9, s10, s11, s12, s13, s14, s15, s16⟩, ⟨s17, s18, s19, s20, s21, s22, s23, s24, s25, s26, s27, s28, s29, s30⟩⟩ := hSw
        go_simp
        first | done | with_reducible rfl
      simp only [Act.put, List.setIfInBounds_toArray, List.set_cons_zero, List.set_cons_succ]
      refine rg_take (i := 2) (dst := some 73) (v := ?_) (by kernel_rfl) (by kernel_rfl) (by kernel_rfl) (by kernel_rfl) (fun _ _ _ h => h) (by rfl) ?_ (by assumption) ?_
      rotate_left
      · intro o ho w' hSw
        cases ho
        (try dsimp only at hSw)
        obtain ⟨⟨s1, s2⟩, ⟨s3, s4, s5, s6, s7, s8, s9, s10, s11, s12, s13, s14, s15, s16⟩, ⟨s17, s18, s19, s20, s21, s22, s23, s24, s25, s26, s27, s28, s29, s30⟩⟩ := hSw
        go_simp
        first | done | with_reducible rfl
      simp only [Act.put, List.setIfInBounds_toArray, List.set_cons_zero, List.set_cons_succ]
      refine rg_take (i := 3) (dst := some 74) (v := ?_) (by kernel_rfl) (by kernel_rfl) (by kernel_rfl) (by kernel_rfl) (fun _ _ _ h => h) (by rfl) ?_ (by assumption) ?_
      rotate_left
      · intro o ho w' hSw
        cases ho
        (try dsimp only at hSw)
        obtain ⟨⟨s1, s2⟩, ⟨s3, s4, s5, s6, s7, s8, s9, s10, s11, s12, s13, s14, s15, s16⟩, ⟨s17, s18, s19, s20, s21, s22, s23, s24, s25, s26, s27, s28, s29, s30⟩⟩ := hSw
        go_simp
        first | done | with_reducible rfl
      simp only [Act.put, List.setIfInBounds_toArray, List.set_cons_zero, List.set_cons_succ]
      refine rg_take (i := 4) (dst := some 75) (v := ?_) (by kernel_rfl) (by kernel_rfl) (by kernel_rfl) (by kernel_rfl) (fun _ _ _ h => h) (by rfl) ?_ (by assumption) ?_
      rotate_left
      · intro o ho w' hSw
        cases ho
        (try dsimp only at hSw)
        obtain ⟨⟨s1, s2⟩, ⟨s3, s4, s5, s6, s7, s8, s9, s10, s11, s12, s13, s14, s15, s16⟩, ⟨s17, s18, s19, s20, s21, s22, s23, s24, s25, s26, s27, s28, s29, s30⟩⟩ := hSw
        go_simp
        first | done | with_reducible rfl
      simp only [Act.put, List.setIfInBounds_toArray, List.set_cons_zero, List.set_cons_succ]
      refine rg_take (i := 5) (dst := some 76) (v := ?_) (by kernel_rfl) (by kernel_rfl) (by kernel_rfl) (by kernel_rfl) (fun _ _ _ h => h) (by rfl) ?_ (by assumption) ?_
      rotate_left
      · intro o ho w' hSw
        cases ho
        (try dsimp only at hSw)
        obtain ⟨⟨s1, s2⟩, ⟨s3, s4, s5, s6, s7, s8, s9, s10, s11, s12, s13, s14, s15, s16⟩, ⟨s17, s18, s19, s20, s21, s22, s23, s24, s25, s26, s27, s28, s29, s30⟩⟩ := hSw
        go_simp
        first | done | with_reducible rfl
      simp only [Act.put, List.setIfInBounds_toArray, List.set_cons_zero, List.set_cons_succ]
      refine rg_take (i := 6) (dst := some 77) (v := ?_) (by kernel_rfl) (by kernel_rfl) (by kernel_rfl) (by kernel_rfl) (fun _ _ _ h => h) (by rfl) ?_ (by assumption) ?_
      rotate_left
      · intro o ho w' hSw
        cases ho
        (try dsimp only at hSw)
        obtain ⟨⟨s1, s2⟩, ⟨s3, s4, s5, s6, s7, s8, s9, s10, s11, s12, s13, s14, s15, s16⟩, ⟨s17, s18, s19, s20, s21, s22, s23, s24, s25, s26, s27, s28, s29, s30⟩⟩ := hSw
        go_simp
        first | done | with_reducible rfl
      simp only [Act.put, List.setIfInBounds_toArray, List.set_cons_zero, List.set_cons_succ]
      refine rg_take (i := 7) (dst := some 78) (v := ?_) (by kernel_rfl) (by kernel_rfl) (by kernel_rfl) (by kernel_rfl) (fun _ _ _ h => h) (by rfl) ?_ (by assumption) ?_
      rotate_left
      · intro o ho w' hSw
        cases ho
        (try dsimp only at hSw)
        obtain ⟨⟨s1, s2⟩, ⟨s3, s4, s5, s6, s7, s8, s9, s10, s11, s12, s13, s14, s15, s16⟩, ⟨s17, s18, s19, s20, s21, s22, s23, s24, s25, s26, s27, s28, s29, s30⟩⟩ := hSw
        go_simp
        first | done | with_reducible rfl
      simp only [Act.put, List.setIfInBounds_toArray, List.set_cons_zero, List.set_cons_succ]
      refine rg_take (i := 8) (dst := some 79) (v := ?_) (by kernel_rfl) (by kernel_rfl) (by kernel_rfl) (by kernel_rfl) (fun _ _ _ h => h) (by rfl) ?_ (by assumption) ?_
      rotate_left
      · intro o ho w' hSw
        cases ho
        (try dsimp only at hSw)
        obtain ⟨⟨s1, s2⟩, ⟨s3, s4, s5, s6, s7, s8, s9, s10, s11, s12, s13, s14, s15, s16⟩, ⟨s17, s18, s19, s20, s21, s22, s23, s24, s25, s26, s27, s28, s29, s30⟩⟩ := hSw
        go_simp
        first | done | with_reducible rfl
      simp only [Act.put, List.setIfInBounds_toArray, List.set_cons_zero, List.set_cons_succ]
      refine rg_take (i := 9) (dst := some 80) (v := ?_) (by kernel_rfl) (by kernel_rfl) (by kernel_rfl) (by kernel_rfl) (fun _ _ _ h => h) (by rfl) ?_ (by assumption) ?_
      rotate_left
      · intro o ho w' hSw
        cases ho
        (try dsimp only at hSw)
        obtain ⟨⟨s1, s2⟩, ⟨s3, s4, s5, s6, s7, s8, s9, s10, s11, s12, s13, s14, s15, s16⟩, ⟨s17, s18, s19, s20, s21, s22, s23, s24, s25, s26, s27, s28, s29, s30⟩⟩ := hSw
        go_simp
        first | done | with_reducible rfl
      simp only [Act.put, List.setIfInBounds_toArray, List.set_cons_zero, List.set_cons_succ]
      obtain ⟨t, ht⟩ := ex_tell (x = y)
      have HT := Aside0.mk ht
      clear ht
      refine wpAnyH_ready (rs := [10]) (by kernel_rfl) (by simp) ?_
      refine AllReadyH.cons rfl (fun K hK => ?_) AllReadyH.nil
      go_simp
      go_wp2_with (go_at_call 31; refine (rframes_c (cc X4_.out HD.out) (cc X5_.out HD.out) (cc X6_.out HD.out) (cc X7_.out HD.out) (cc Y4_.out HD.out) (cc Y5_.out HD.out) (cc Y6_.out HD.out) (cc Y7_.out HD.out) HT.out).mono ?_; rintro e w7 ⟨rfl, hB⟩; have D7 := Aside0.mk (HD.out.trans (hB.mono HD.out.size)); clear hB)
      refine hK.out _ _ (HSS.out _ D7.out) (fun hHeld => ?_)
      clear hK K hS0 hHeld
      have hS0 := HSS.out _ D7.out
      refine rg_take (i := 11) (dst := some 82) (v := ?_) (by kernel_rfl) (by kernel_rfl) (by kernel_rfl) (by kernel_rfl) (fun _ _ _ h => h) (by rfl) ?_ (by assumption) ?_
      rotate_left
      · intro o ho w' hSw
        cases ho
        (try dsimp only at hSw)
        obtain ⟨⟨s1, s2⟩, ⟨s3, s4, s5, s6, s7, s8, s9, s10, s11, s12, s13, s14, s15, s16⟩, ⟨s17, s18, s19, s20, s21, s22, s23, s24, s25, s26, s27, s28, s29, s30⟩⟩ := hSw
        go_simp
        first | done | with_reducible rfl
      simp only [Act.put, List.setIfInBounds_toArray, List.set_cons_zero, List.set_cons_succ]
      refine wpAnyH_done (by kernel_rfl) ?_ _
      clear hS0
      have BW := Aside0.mk (HB.out.trans (D7.out.mono HB.out.size))
      rcases tell_and HQ1.out with ⟨e, hr⟩ | ⟨e, rfl⟩
      · obtain rfl : t = true := HT.out.2 e
        have HZ := Aside0.mk hr
        clear e hr
        go_wp2
        exact ⟨⟨k + 1, by go_num, ⟨HLT.out⟩, HZ, BW⟩, by have := HLT.out; simp [intOf]; omega⟩
      · obtain rfl : t = false := tell_no HT.out e
        clear e
        go_wp2
        go_ret
        exact ⟨rfl, HB0.out.trans (BW.out.mono HB0.out.size)⟩
    · obtain rfl : k = a.f7.length := by omega
      have dl : decide ((a.f7.length : Int) < (a.f7.length : Int)) = false := decide_eq_false (by omega)
      have dl' : decide (a.f7.length < a.f7.length) = false := decide_eq_false (by omega)
      have hq := HQ.out
      rw [List.drop_of_length_le (Nat.le_refl _), List.drop_of_length_le (by omega)] at hq
      have RX := Aside0.mk (hq.trans ⟨fun h => h.2, fun h => ⟨rfl, h⟩⟩)
      clear hq hlt hl hk hne
      have ua13 : wr.cell? ⟨qa, 13, none⟩ = some (.int .i64 a.f8) := (blk_cell (blk_below NA.out HB.out) 13).trans rfl
      have ub13 : wr.cell? ⟨qb, 13, none⟩ = some (.int .i64 b.f8) := (blk_cell (blk_below NB.out HB.out) 13).trans rfl
      have ua14 : wr.cell? ⟨qa, 14, none⟩ = some (.int .i64 a.f9) := (blk_cell (blk_below NA.out HB.out) 14).trans rfl
      have ub14 : wr.cell? ⟨qb, 14, none⟩ = some (.int .i64 b.f9) := (blk_cell (blk_below NB.out HB.out) 14).trans rfl
      have ua15 : wr.cell? ⟨qa, 15, none⟩ = some (.bool a.f10) := (blk_cell (blk_below NA.out HB.out) 15).trans rfl
      have ub15 : wr.cell? ⟨qb, 15, none⟩ = some (.bool b.f10) := (blk_cell (blk_below NB.out HB.out) 15).trans rfl
      have ua16 : wr.cell? ⟨qa, 16, none⟩ = some (.bool a.f11) := (blk_cell (blk_below NA.out HB.out) 16).trans rfl
      have ub16 : wr.cell? ⟨qb, 16, none⟩ = some (.bool b.f11) := (blk_cell (blk_below NB.out HB.out) 16).trans rfl
      have ua17 : wr.cell? ⟨qa, 17, none⟩ = some (.int .i64 a.f12.f0) := (blk_cell (blk_below NA.out HB.out) 17).trans rfl
      have ub17 : wr.cell? ⟨qb, 17, none⟩ = some (.int .i64 b.f12.f0) := (blk_cell (blk_below NB.out HB.out) 17).trans rfl
      have ua18 : wr.cell? ⟨qa, 18, none⟩ = some (.slice A5 a.f12.f1.length c5) := (blk_cell (blk_below NA.out HB.out) 18).trans rfl
      have ub18 : wr.cell? ⟨qb, 18, none⟩ = some (.slice B5 b.f12.f1.length d5) := (blk_cell (blk_below NB.out HB.out) 18).trans rfl
      have ua19 : wr.cell? ⟨qa, 19, none⟩ = some (.slice A6 a.f12.f2.length c6) := (blk_cell (blk_below NA.out HB.out) 19).trans rfl
      have ub19 : wr.cell? ⟨qb, 19, none⟩ = some (.slice B6 b.f12.f2.length d6) := (blk_cell (blk_below NB.out HB.out) 19).trans rfl
      have ua20 : wr.cell? ⟨qa, 20, none⟩ = some (.string a.f12.f3) := (blk_cell (blk_below NA.out HB.out) 20).trans rfl
      have ub20 : wr.cell? ⟨qb, 20, none⟩ = some (.string b.f12.f3) := (blk_cell (blk_below NB.out HB.out) 20).trans rfl
      rcases tell_and RX.out with ⟨e, hr⟩ | ⟨e, rfl⟩
      case inr =>
        have g0 : (a.f8 == b.f8) = false := Bool.eq_false_iff.2 (fun h => e (beq_iff_eq.1 h))
        clear e
        go_wp2
        go_ret
        exact ⟨rfl, HB0.out.trans (HB.out.mono HB0.out.size)⟩
      have g0 : (a.f8 == b.f8) = true := beq_iff_eq.2 e
      have RX0 := Aside0.mk hr
      clear e hr
      rcases tell_and RX0.out with ⟨e, hr⟩ | ⟨e, rfl⟩
      case inr =>
        have g1 : (a.f9 == b.f9) = false := Bool.eq_false_iff.2 (fun h => e (beq_iff_eq.1 h))
        clear e
        go_wp2
        go_ret
        exact ⟨rfl, HB0.out.trans (HB.out.mono HB0.out.size)⟩
      have g1 : (a.f9 == b.f9) = true := beq_iff_eq.2 e
      have RX1 := Aside0.mk hr
      clear e hr
      rcases tell_and RX1.out with ⟨e, hr⟩ | ⟨e, rfl⟩
      case inr =>
        have g2 : (a.f10 == b.f10) = false := Bool.eq_false_iff.2 (fun h => e (beq_iff_eq.1 h))
        clear e
        go_wp2
        go_ret
        exact ⟨rfl, HB0.out.trans (HB.out.mono HB0.out.size)⟩
      have g2 : (a.f10 == b.f10) = true := beq_iff_eq.2 e
      have RX2 := Aside0.mk hr
      clear e hr
      rcases tell_and RX2.out with ⟨e, hr⟩ | ⟨e, rfl⟩
      case inr =>
        have g3 : (a.f11 == b.f11) = false := Bool.eq_false_iff.2 (fun h => e (beq_iff_eq.1 h))
        clear e
        go_wp2
        go_ret
        exact ⟨rfl, HB0.out.trans (HB.out.mono HB0.out.size)⟩
      have g3 : (a.f11 == b.f11) = true := beq_iff_eq.2 e
      have RX3 := Aside0.mk hr
      clear e hr
      go_wp2_with (go_at_call 32; refine (rcallsame_c (cc ka5.out HB.out) (cc ka6.out HB.out) (cc kb5.out HB.out) (cc kb6.out HB.out) RX3.out).mono ?_; rintro e w8 ⟨rfl, hB⟩; have T8 := Aside0.mk (HB.out.trans (hB.mono HB.out.size)); clear hB)
      go_ret
      exact ⟨rfl, HB0.out.trans (T8.out.mono HB0.out.size)⟩
end Go.Proofs.Ytekebjkcolhcoaa.Hnd
