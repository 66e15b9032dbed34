/- Contracts of the calls, by hand. -/
import Derived.Test.YtkicekddkgehoaaDoorQMarkBytesx2
import Derived.Test.YtkicekddkgehoaaDoorMk4
import Derived.RangeFuncNested
import Derived.RangeFuncBound
import Derived.RangeFuncCalls
import Derived.RangeFuncLeaves
import Derived.RangeFuncBox
import Derived.Shelf.Abstract
import Derived.Shelf.RegionOpen
import Derived.OwnWalkIn
import Derived.TacticsInMore
import Derived.LoopNIn
import Derived.LoopIn
import Derived.Sort.QuietIn
import Derived.Sort.CutIn
import Derived.Stop.RegionWithIn
import Derived.StillTailTactics
import Derived.Shelf.Strconv.AppendIntPublic10
import Derived.Shelf.Strconv.ErrVarParseInt
import Derived.Shelf.Bytes.IndexByte
import Derived.Lib.ItoaLen
import Derived.Lib.ParseIntBTie
import Derived.Lib.AtoiBound
import Derived.Deep.Upon
namespace Go.Proofs.YtkicekddkgehoaaDoor.Hnd
open Go.RowKit Go.Proofs.YtkicekddkgehoaaDoor.QMarkBytes Go.Proofs.YtkicekddkgehoaaDoorW.PrintWords Go.Proofs.YtkicekddkgehoaaDoorW.PrintLast  Go.Shelf
set_option linter.unusedVariables false
set_option linter.unusedSimpArgs false
attribute [local go_sem] Oper.semAt_some
/-! A mark is read. -/
def RdPost (w : World) (b : List Int) (e : Ending) (w' : World) : Prop :=
  e = .returned (.tuple #[.agg #[.int .i64 0, .int .i64 (rdM b).1, .bool (rdM b).2.1, .int .i64 (rdM b).2.2.1, .string (rdM b).2.2.2.1], .bool (rdM b).2.2.2.2]) ∧ Below w.heap.size w w'
theorem rdM_of {b b1 b2 b3 : List Int} {n d s : Int} {k1 k2 k3 k4 : Nat} {p q r t : Bool} {o : List Int} (h1 : tk b = (n, k1, p)) (e1 : b.drop k1 = b1) (h2 : tk b1 = (d, k2, q)) (e2 : b1.drop k2 = b2) (h3 : tk b2 = (s, k3, r)) (e3 : b2.drop k3 = b3) (h4 : tT b3 = (o, k4, t)) :
    rdM b = if t = true ∧ bytesM 0 n (d == 1) s (strOfNums o) = b then (n, d == 1, s, strOfNums o, true) else (0, false, 0, ⟨#[]⟩, false) := by
  unfold rdM four
  dsimp only
  rw [h1]
  dsimp only
  rw [e1, h2]
  dsimp only
  rw [e2, h3]
  dsimp only
  rw [e3, h4]
def zM : Array Value := #[.int .i64 0, .int .i64 0, .bool false, .int .i64 0, .string ⟨#[]⟩]
theorem five_put {W : World} {g : Nat} {T : Nat} {x0 x1 x2 x3 x4 y0 y1 y2 y3 y4 : Value} (h : W.heap[g]? = some (.cells #[x0, x1, x2, x3, x4] T (0, 0))) :
    (((((W.setCell ⟨g, 0, none⟩ y0).setCell ⟨g, 1, none⟩ y1).setCell ⟨g, 2, none⟩ y2).setCell ⟨g, 3, none⟩ y3).setCell ⟨g, 4, none⟩ y4).heap[g]? = some (.cells #[y0, y1, y2, y3, y4] T (0, 0)) :=
  blk_put (blk_put (blk_put (blk_put (blk_put h 0 _ rfl) 1 _ rfl) 2 _ rfl) 3 _ rfl) 4 _ rfl
set_option maxHeartbeats 8000000 in
set_option maxRecDepth 100000 in
theorem mread_c {w : World} {A : Option Addr} {c : Nat} {b : List Int} (hC : (Kd.int .u8).C w A b.length b) (hc : b.length ≤ c) (hb : NBytes b) (hl : b.length ≤ 100000) (hT : NTabs w) :
    Calls Tryd.prog 9 #[.slice A b.length c] w (RdPost w b) := by
  obtain ⟨n, k1, p, h1⟩ : ∃ n k p, tk b = (n, k, p) := ⟨_, _, _, rfl⟩
  obtain ⟨b1, e1⟩ : ∃ b1, b.drop k1 = b1 := ⟨_, rfl⟩
  obtain ⟨d, k2, q, h2⟩ : ∃ n k p, tk b1 = (n, k, p) := ⟨_, _, _, rfl⟩
  obtain ⟨b2, e2⟩ : ∃ b2, b1.drop k2 = b2 := ⟨_, rfl⟩
  obtain ⟨s, k3, r, h3⟩ : ∃ n k p, tk b2 = (n, k, p) := ⟨_, _, _, rfl⟩
  obtain ⟨b3, e3⟩ : ∃ b3, b2.drop k3 = b3 := ⟨_, rfl⟩
  obtain ⟨o, k4, t, h4⟩ : ∃ n k p, tT b3 = (n, k, p) := ⟨_, _, _, rfl⟩
  have hrd := rdM_of h1 e1 h2 e2 h3 e3 h4
  have l1 : b1.length ≤ 100000 := by rw [← e1, List.length_drop]; omega
  have l2 : b2.length ≤ 100000 := by rw [← e2, List.length_drop]; omega
  have l3 : b3.length ≤ 100000 := by rw [← e3, List.length_drop]; omega
  have nb3 : NBytes b3 := fun x hx => hb x (by rw [← e3, ← e2, ← e1] at hx; exact List.mem_of_mem_drop (List.mem_of_mem_drop (List.mem_of_mem_drop hx)))
  have hto := tT_bytes nb3
  rw [h4] at hto
  have hsr := tk_rng b2
  rw [h3] at hsr
  obtain ⟨os, hos⟩ : ∃ os, strOfNums o = os := ⟨_, rfl⟩
  have hol : os.size ≤ 1000000 := by rw [← hos, str_size]; have := hto.2; dsimp only at this; omega
  obtain ⟨dn, hdn⟩ : ∃ dn, (d == 1) = dn := ⟨_, rfl⟩
  rw [hos, hdn] at hrd
  have hd2 : decide (d = 1) = dn := by rw [← hdn]; rfl
  have hAl : ∀ ad, A = some ad → 0 < b.length → ad.block < w.heap.size := fun ad e hp => by subst e; exact Kd.C_lt hC hp (by decide)
  have hb0 := below_alloc (Below.refl w.heap.size w) (.cells #[.int .i64 0, .int .i64 0, .bool false, .int .i64 0, .string ⟨#[]⟩] 25)
  have hn0 := blk_new w (.cells #[.int .i64 0, .int .i64 0, .bool false, .int .i64 0, .string ⟨#[]⟩] 25)
  obtain ⟨W0, hW0⟩ : ∃ W0, W0 = w.alloc (.cells #[.int .i64 0, .int .i64 0, .bool false, .int .i64 0, .string ⟨#[]⟩] 25) := ⟨_, rfl⟩
  have HW0 := Aside0.mk hW0
  rw [← hW0] at hb0 hn0
  have HB0 := Aside0.mk hb0
  have HN0 := Aside0.mk hn0
  have HC := Aside0.mk hC
  have HCC := Aside0.mk hc
  have HBY := Aside0.mk hb
  have HL := Aside0.mk hl
  have HT := Aside0.mk hT
  have HAL := Aside0.mk hAl
  have H1 := Aside0.mk h1
  have H2 := Aside0.mk h2
  have H3 := Aside0.mk h3
  have H4 := Aside0.mk h4
  have E1 := Aside0.mk e1
  have E2 := Aside0.mk e2
  have E3 := Aside0.mk e3
  have L1 := Aside0.mk l1
  have L2 := Aside0.mk l2
  have L3 := Aside0.mk l3
  have HRD := Aside0.mk hrd
  have HSR := Aside0.mk hsr
  have HOS := Aside0.mk hos
  have HOL := Aside0.mk hol
  have HD1 := Aside0.mk hdn
  clear hC hc hb hl hT hAl h1 h2 h3 h4 e1 e2 e3 l1 l2 l3 hrd hsr hos hol nb3 hto hb0 hn0 hW0
  go_enter Tryd.func9, Tryd.ntmps9
  go_upto_region 1 with (fail)
  rw [← HW0.out]
  go_upto_region 6 with (first
    | (go_at_call 28; refine (rtext_c N4.out (HT.out.on B4.out) (by have := L3.out; omega)).mono ?_; rw [H4.out]; unfold TextPost; dsimp only; rw [HOS.out]; rintro e w5 ⟨rfl, hN, hK⟩; have B5 := Aside0.mk (hK.below B4.out B4.out.size (fun j hj => by rw [hj]; exact G1.out)); have K5 := Aside0.mk (K4.out.trans hK); clear hN hK)
    | (go_at_call 27; refine (rnum_c N3.out (HT.out.on B3.out) (by have := L2.out; omega)).mono ?_; rw [H3.out]; dsimp only; rw [E3.out]; rintro e w4 ⟨rfl, hN, hK⟩; have N4 := Aside0.mk hN; have B4 := Aside0.mk (hK.below B3.out B3.out.size (fun j hj => by rw [hj]; exact G1.out)); have K4 := Aside0.mk (K3.out.trans hK); clear hN hK)
    | (go_at_call 27; refine (rnum_c N2.out (HT.out.on B2.out) (by have := L1.out; omega)).mono ?_; rw [H2.out]; dsimp only; rw [E2.out]; rintro e w3 ⟨rfl, hN, hK⟩; have N3 := Aside0.mk hN; have B3 := Aside0.mk (hK.below B2.out B2.out.size (fun j hj => by rw [hj]; exact G1.out)); have K3 := Aside0.mk (K2.out.trans hK); clear hN hK)
    | (go_at_call 27; refine (rnum_c N1.out (HT.out.on B1.out) (by have := HL.out; omega)).mono ?_; rw [H1.out]; dsimp only; rw [E1.out]; rintro e w2 ⟨rfl, hN, hK⟩; have N2 := Aside0.mk hN; have B2 := Aside0.mk (hK.below B1.out B1.out.size (fun j hj => by rw [hj]; exact G1.out)); have K2 := Aside0.mk hK; clear hN hK)
    | (go_at_call 26; refine (new_c (Kd.C_below HC.out HB0.out) HCC.out HBY.out (by have := HL.out; omega)).mono ?_; rintro e w1 ⟨g, rfl, hg, hN, hB⟩; have N1 := Aside0.mk hN; have GG := Aside0.mk hg; have G1 := Aside0.mk (Nat.le_trans HB0.out.size hg); have B1 := Aside0.mk (HB0.out.trans (hB.mono HB0.out.size)); have O1 := Aside0.mk hB; clear hg hN hB))
  go_upto_region 7 with (fail)
  have hb6 := below_alloc (Below.refl w5.heap.size w5) (.cells #[.int .i64 0, .int .i64 n, .bool dn, .int .i64 s, .string os] 25)
  have hn6 := blk_new w5 (.cells #[.int .i64 0, .int .i64 n, .bool dn, .int .i64 s, .string os] 25)
  obtain ⟨W6, hW6⟩ : ∃ W6, W6 = w5.alloc (.cells #[.int .i64 0, .int .i64 n, .bool dn, .int .i64 s, .string os] 25) := ⟨_, rfl⟩
  rw [← hW6] at hb6 hn6 ⊢
  have hq0 : w.heap.size < W0.heap.size := (Array.getElem?_eq_some_iff.1 HN0.out).1
  have HQ0 : Aside0 (W6.heap[w.heap.size]? = some (.cells #[.int .i64 0, .int .i64 0, .bool false, .int .i64 0, .string ⟨#[]⟩] 25 (0, 0))) := ⟨(hb6.block _ (Nat.lt_of_lt_of_le hq0 (Nat.le_trans O1.out.size K5.out.size))).trans ((K5.out.block _ (Nat.lt_of_lt_of_le hq0 O1.out.size) (fun e => by have h5 : w.heap.size = g := e; have := GG.out; omega)).trans ((O1.out.block _ hq0).trans HN0.out))⟩
  obtain ⟨q6, hq6⟩ : ∃ q6, w5.heap.size = q6 := ⟨_, rfl⟩
  have HLE : Aside0 (W0.heap.size ≤ q6) := ⟨by rw [← hq6]; exact Nat.le_trans O1.out.size K5.out.size⟩
  rw [hq6] at hb6 hn6 ⊢
  have HN6 := Aside0.mk hn6
  have B6 : Aside0 (Below w.heap.size w W6) := ⟨B5.out.trans (Below.mono (by rw [hq6]; exact hb6) B5.out.size)⟩
  have C6 : Aside0 ((Kd.int .u8).C W6 A b.length b) := ⟨Kd.C_below (C_blk (Kd.C_below HC.out (HB0.out.trans (O1.out.mono HB0.out.size))) (fun ad e hp => K5.out.block _ (Nat.lt_of_lt_of_le (HAL.out ad e hp) (Nat.le_trans HB0.out.size O1.out.size)) (fun e2 => by have h5 : ad.block = g := e2; have := HAL.out ad e hp; have := G1.out; omega))) (by rw [hq6]; exact hb6)⟩
  have z0 := (blk_cell HQ0.out 0).trans rfl
  have z1 := (blk_cell HQ0.out 1).trans rfl
  have z2 := (blk_cell HQ0.out 2).trans rfl
  have z3 := (blk_cell HQ0.out 3).trans rfl
  have z4 := (blk_cell HQ0.out 4).trans rfl
  have f0 := blk_frozen HQ0.out 0
  have f1 := blk_frozen HQ0.out 1
  have f2 := blk_frozen HQ0.out 2
  have f3 := blk_frozen HQ0.out 3
  have f4 := blk_frozen HQ0.out 4
  clear hb6 hn6 hW6 hq0 hq6
  cases t with
  | false =>
    have HR : Aside0 (rdM b = (0, false, 0, ⟨#[]⟩, false)) := ⟨by rw [HRD.out, if_neg (fun h => by cases h.1)]⟩
    go_wp2
    have hfp := five_put (y0 := .int .i64 0) (y1 := .int .i64 0) (y2 := .bool false) (y3 := .int .i64 0) (y4 := .string ⟨#[]⟩) HQ0.out
    have hB9 := ((((B6.out.setCell (p := ⟨w.heap.size, 0, none⟩) (Nat.le_refl _) (.int .i64 0)).setCell (p := ⟨w.heap.size, 1, none⟩) (Nat.le_refl _) (.int .i64 0)).setCell (p := ⟨w.heap.size, 2, none⟩) (Nat.le_refl _) (.bool false)).setCell (p := ⟨w.heap.size, 3, none⟩) (Nat.le_refl _) (.int .i64 0)).setCell (p := ⟨w.heap.size, 4, none⟩) (Nat.le_refl _) (.string ⟨#[]⟩)
    generalize (((((W6.setCell ⟨w.heap.size, 0, none⟩ (.int .i64 0)).setCell ⟨w.heap.size, 1, none⟩ (.int .i64 0)).setCell ⟨w.heap.size, 2, none⟩ (.bool false)).setCell ⟨w.heap.size, 3, none⟩ (.int .i64 0)).setCell ⟨w.heap.size, 4, none⟩ (.string ⟨#[]⟩)) = W9 at hfp hB9 ⊢
    have c0 : W9.cell? ⟨w.heap.size, 0, none⟩ = some (.int .i64 0) := (blk_cell hfp 0).trans rfl
    have c1 : W9.cell? ⟨w.heap.size, 1, none⟩ = some (.int .i64 0) := (blk_cell hfp 1).trans rfl
    have c2 : W9.cell? ⟨w.heap.size, 2, none⟩ = some (.bool false) := (blk_cell hfp 2).trans rfl
    have c3 : W9.cell? ⟨w.heap.size, 3, none⟩ = some (.int .i64 0) := (blk_cell hfp 3).trans rfl
    have c4 : W9.cell? ⟨w.heap.size, 4, none⟩ = some (.string ⟨#[]⟩) := (blk_cell hfp 4).trans rfl
    exact bodyPost_ret (v := .tuple #[.agg #[.int .i64 0, .int .i64 0, .bool false, .int .i64 0, .string ⟨#[]⟩], .bool false]) (by simp [results, Tryd.results9, go_sem, c0, c1, c2, c3, c4]) rfl (by show RdPost w b _ _; unfold RdPost; rw [HR.out]; exact ⟨rfl, hB9⟩)
  | true =>
    have hbb := bytesM_bytes 0 n dn s os
    obtain ⟨bm, hbm⟩ : ∃ bm, bytesM 0 n dn s os = bm := ⟨_, rfl⟩
    rw [hbm] at hbb
    have HBM := Aside0.mk hbm
    have HBB := Aside0.mk hbb
    have hrd := HRD.out
    rw [hbm] at hrd
    have y0 := (blk_cell HN6.out 0).trans rfl
    have y1 := (blk_cell HN6.out 1).trans rfl
    have y2 := (blk_cell HN6.out 2).trans rfl
    have y3 := (blk_cell HN6.out 3).trans rfl
    have y4 := (blk_cell HN6.out 4).trans rfl
    have L6 : Aside0 (w.heap.size < W6.heap.size ∧ q6 < W6.heap.size) := ⟨(Array.getElem?_eq_some_iff.1 HQ0.out).1, (Array.getElem?_eq_some_iff.1 HN6.out).1⟩
    clear hbb hbm z0 z1 z2 z3 z4 f0 f1 f2 f3 f4
    by_cases hq : bm = b
    · have HR : Aside0 (rdM b = (n, dn, s, os, true)) := ⟨by rw [hrd, if_pos ⟨rfl, hq⟩]⟩
      have DQ : Aside0 (decide (bm = b) = true) := ⟨decide_eq_true hq⟩
      clear hrd hq
      go_wp2_with (first
        | (go_at_call 29; refine (equal_c C7.out L7.out (Kd.C_below C6.out O7.out) HCC.out HBB.out HBY.out).mono ?_; rw [DQ.out]; rintro e w8 ⟨rfl, hB⟩; (have hB68 := O7.out.trans (hB.mono O7.out.size)); (have hh0 := (hB68.block _ L6.out.1).trans HQ0.out); (have hh6 := (hB68.block _ L6.out.2).trans HN6.out); have HQ8 := Aside0.mk hh0; have B8 := Aside0.mk (B6.out.trans (hB68.mono B6.out.size)); have z0 := (blk_cell hh0 0).trans rfl; have z1 := (blk_cell hh0 1).trans rfl; have z2 := (blk_cell hh0 2).trans rfl; have z3 := (blk_cell hh0 3).trans rfl; have z4 := (blk_cell hh0 4).trans rfl; have f0 := blk_frozen hh0 0; have f1 := blk_frozen hh0 1; have f2 := blk_frozen hh0 2; have f3 := blk_frozen hh0 3; have f4 := blk_frozen hh0 4; have x0 := (blk_cell hh6 0).trans rfl; have x1 := (blk_cell hh6 1).trans rfl; have x2 := (blk_cell hh6 2).trans rfl; have x3 := (blk_cell hh6 3).trans rfl; have x4 := (blk_cell hh6 4).trans rfl; clear hB hB68 hh0 hh6)
        | (go_at_call 8; refine (mbytes_c 0 n dn s os HSR.out HOL.out W6 (HT.out.on B6.out)).mono ?_; rw [HBM.out]; rintro e w7 ⟨v7, rfl, hR, hB⟩; (obtain ⟨A7, c7, rfl, hl7, hC7, -, -⟩ := R_plain hR); have C7 := Aside0.mk hC7; have L7 := Aside0.mk hl7; have O7 := Aside0.mk hB; clear hR hB hl7 hC7))
      have hfp := five_put (y0 := .int .i64 0) (y1 := .int .i64 n) (y2 := .bool dn) (y3 := .int .i64 s) (y4 := .string os) HQ8.out
      have hB9 := ((((B8.out.setCell (p := ⟨w.heap.size, 0, none⟩) (Nat.le_refl _) (.int .i64 0)).setCell (p := ⟨w.heap.size, 1, none⟩) (Nat.le_refl _) (.int .i64 n)).setCell (p := ⟨w.heap.size, 2, none⟩) (Nat.le_refl _) (.bool dn)).setCell (p := ⟨w.heap.size, 3, none⟩) (Nat.le_refl _) (.int .i64 s)).setCell (p := ⟨w.heap.size, 4, none⟩) (Nat.le_refl _) (.string os)
      generalize (((((w8.setCell ⟨w.heap.size, 0, none⟩ (.int .i64 0)).setCell ⟨w.heap.size, 1, none⟩ (.int .i64 n)).setCell ⟨w.heap.size, 2, none⟩ (.bool dn)).setCell ⟨w.heap.size, 3, none⟩ (.int .i64 s)).setCell ⟨w.heap.size, 4, none⟩ (.string os)) = W9 at hfp hB9 ⊢
      have c0 : W9.cell? ⟨w.heap.size, 0, none⟩ = some (.int .i64 0) := (blk_cell hfp 0).trans rfl
      have c1 : W9.cell? ⟨w.heap.size, 1, none⟩ = some (.int .i64 n) := (blk_cell hfp 1).trans rfl
      have c2 : W9.cell? ⟨w.heap.size, 2, none⟩ = some (.bool dn) := (blk_cell hfp 2).trans rfl
      have c3 : W9.cell? ⟨w.heap.size, 3, none⟩ = some (.int .i64 s) := (blk_cell hfp 3).trans rfl
      have c4 : W9.cell? ⟨w.heap.size, 4, none⟩ = some (.string os) := (blk_cell hfp 4).trans rfl
      exact bodyPost_ret (v := .tuple #[.agg #[.int .i64 0, .int .i64 n, .bool dn, .int .i64 s, .string os], .bool true]) (by simp [results, Tryd.results9, go_sem, c0, c1, c2, c3, c4]) rfl (by show RdPost w b _ _; unfold RdPost; rw [HR.out]; exact ⟨rfl, hB9⟩)
    · have HR : Aside0 (rdM b = (0, false, 0, ⟨#[]⟩, false)) := ⟨by rw [hrd, if_neg (fun h => hq h.2)]⟩
      have DQ : Aside0 (decide (bm = b) = false) := ⟨decide_eq_false hq⟩
      clear hrd hq
      go_wp2_with (first
        | (go_at_call 29; refine (equal_c C7.out L7.out (Kd.C_below C6.out O7.out) HCC.out HBB.out HBY.out).mono ?_; rw [DQ.out]; rintro e w8 ⟨rfl, hB⟩; (have hB68 := O7.out.trans (hB.mono O7.out.size)); (have hh0 := (hB68.block _ L6.out.1).trans HQ0.out); (have hh6 := (hB68.block _ L6.out.2).trans HN6.out); have HQ8 := Aside0.mk hh0; have B8 := Aside0.mk (B6.out.trans (hB68.mono B6.out.size)); have z0 := (blk_cell hh0 0).trans rfl; have z1 := (blk_cell hh0 1).trans rfl; have z2 := (blk_cell hh0 2).trans rfl; have z3 := (blk_cell hh0 3).trans rfl; have z4 := (blk_cell hh0 4).trans rfl; have f0 := blk_frozen hh0 0; have f1 := blk_frozen hh0 1; have f2 := blk_frozen hh0 2; have f3 := blk_frozen hh0 3; have f4 := blk_frozen hh0 4; have x0 := (blk_cell hh6 0).trans rfl; have x1 := (blk_cell hh6 1).trans rfl; have x2 := (blk_cell hh6 2).trans rfl; have x3 := (blk_cell hh6 3).trans rfl; have x4 := (blk_cell hh6 4).trans rfl; clear hB hB68 hh0 hh6)
        | (go_at_call 8; refine (mbytes_c 0 n dn s os HSR.out HOL.out W6 (HT.out.on B6.out)).mono ?_; rw [HBM.out]; rintro e w7 ⟨v7, rfl, hR, hB⟩; (obtain ⟨A7, c7, rfl, hl7, hC7, -, -⟩ := R_plain hR); have C7 := Aside0.mk hC7; have L7 := Aside0.mk hl7; have O7 := Aside0.mk hB; clear hR hB hl7 hC7))
      have hfp := five_put (y0 := .int .i64 0) (y1 := .int .i64 0) (y2 := .bool false) (y3 := .int .i64 0) (y4 := .string ⟨#[]⟩) HQ8.out
      have hB9 := ((((B8.out.setCell (p := ⟨w.heap.size, 0, none⟩) (Nat.le_refl _) (.int .i64 0)).setCell (p := ⟨w.heap.size, 1, none⟩) (Nat.le_refl _) (.int .i64 0)).setCell (p := ⟨w.heap.size, 2, none⟩) (Nat.le_refl _) (.bool false)).setCell (p := ⟨w.heap.size, 3, none⟩) (Nat.le_refl _) (.int .i64 0)).setCell (p := ⟨w.heap.size, 4, none⟩) (Nat.le_refl _) (.string ⟨#[]⟩)
      generalize (((((w8.setCell ⟨w.heap.size, 0, none⟩ (.int .i64 0)).setCell ⟨w.heap.size, 1, none⟩ (.int .i64 0)).setCell ⟨w.heap.size, 2, none⟩ (.bool false)).setCell ⟨w.heap.size, 3, none⟩ (.int .i64 0)).setCell ⟨w.heap.size, 4, none⟩ (.string ⟨#[]⟩)) = W9 at hfp hB9 ⊢
      have c0 : W9.cell? ⟨w.heap.size, 0, none⟩ = some (.int .i64 0) := (blk_cell hfp 0).trans rfl
      have c1 : W9.cell? ⟨w.heap.size, 1, none⟩ = some (.int .i64 0) := (blk_cell hfp 1).trans rfl
      have c2 : W9.cell? ⟨w.heap.size, 2, none⟩ = some (.bool false) := (blk_cell hfp 2).trans rfl
      have c3 : W9.cell? ⟨w.heap.size, 3, none⟩ = some (.int .i64 0) := (blk_cell hfp 3).trans rfl
      have c4 : W9.cell? ⟨w.heap.size, 4, none⟩ = some (.string ⟨#[]⟩) := (blk_cell hfp 4).trans rfl
      exact bodyPost_ret (v := .tuple #[.agg #[.int .i64 0, .int .i64 0, .bool false, .int .i64 0, .string ⟨#[]⟩], .bool false]) (by simp [results, Tryd.results9, go_sem, c0, c1, c2, c3, c4]) rfl (by show RdPost w b _ _; unfold RdPost; rw [HR.out]; exact ⟨rfl, hB9⟩)
end Go.Proofs.YtkicekddkgehoaaDoor.Hnd
