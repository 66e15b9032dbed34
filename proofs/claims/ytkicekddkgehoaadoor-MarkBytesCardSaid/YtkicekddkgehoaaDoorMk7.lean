/- Contracts of the calls, by hand. -/
import Derived.Test.YtkicekddkgehoaaDoorQMarkBytesx2
import Derived.Test.YtkicekddkgehoaaDoorMk6
import Derived.RangeFuncNested
import Derived.RangeFuncBound
import Derived.RangeFuncCalls
import Derived.RangeFuncLeaves
import Derived.RangeFuncBox
import Derived.Shelf.Abstract
import Derived.Shelf.RegionOpen
import Derived.OwnWalkIn
import Derived.TacticsInMore
import Derived.LoopNIn
import Derived.LoopIn
import Derived.Sort.QuietIn
import Derived.Sort.CutIn
import Derived.Stop.RegionWithIn
import Derived.StillTailTactics
import Derived.Shelf.Strconv.AppendIntPublic10
import Derived.Shelf.Strconv.ErrVarParseInt
import Derived.Shelf.Bytes.IndexByte
import Derived.Lib.ItoaLen
import Derived.Lib.ParseIntBTie
import Derived.Lib.AtoiBound
import Derived.Deep.Upon
namespace Go.Proofs.YtkicekddkgehoaaDoor.Hnd
open Go.RowKit Go.Proofs.YtkicekddkgehoaaDoor.QMarkBytes Go.Proofs.YtkicekddkgehoaaDoorW.PrintWords Go.Proofs.YtkicekddkgehoaaDoorW.PrintLast  Go.Shelf
set_option linter.unusedVariables false
set_option linter.unusedSimpArgs false
attribute [local go_sem] Oper.semAt_some
/-- An operation of a region that draws is taken first: its place alone is named. -/
theorem rg_take {P : Program} {ops : Array Oper} {Q : Exit → Act → World → Prop} {md : Region.Mode} {S : World → Prop} {i : Nat} {dst : Option Nat} {v : Value} {fuel : Nat} {listed : Array Bool} {a : Act} {w : World} (hd : (ops[i]?).map Oper.dst = some dst)
    (hs : Region.noSelect ops = true) (hf : Region.free md ops listed i = true) (hr : (Region.ready md ops listed).contains i = true)
    (hQ : ∀ c a w, Q (.panic c) (a.put dst v) w → Q (.panic c) a w) (hw : (ops[i]?).map (fun o => Region.wanted o (yielded ops a.tmps)) = some true)
    (hy : ∀ o, ops[i]? = some o → ∀ w, S w → (execOp a.eval o).run P w = .ok (.value v) w) (hS : S w)
    (h : wpAnyH P md ops Q S fuel (listed.setIfInBounds i true) (a.put dst v) w) : wpAnyH P md ops Q S (fuel + 1) listed a w := by
  obtain ⟨o, ho⟩ : ∃ o, ops[i]? = some o := by
    cases hh : ops[i]? with
    | none => rw [hh] at hd; cases hd
    | some o => exact ⟨o, rfl⟩
  rw [ho] at hd hw
  cases hd
  exact wpAnyH_take ho hs hf hr hQ (Or.inl ⟨Option.some.inj hw, hy o ho⟩) hS h
/-- .. one that its guard leaves out. -/
theorem rg_out {P : Program} {ops : Array Oper} {Q : Exit → Act → World → Prop} {md : Region.Mode} {S : World → Prop} {i : Nat} {dst : Option Nat} {fuel : Nat} {listed : Array Bool} {a : Act} {w : World} (hd : (ops[i]?).map Oper.dst = some dst)
    (hs : Region.noSelect ops = true) (hf : Region.free md ops listed i = true) (hr : (Region.ready md ops listed).contains i = true)
    (hQ : ∀ c a w, Q (.panic c) (a.put dst undef) w → Q (.panic c) a w) (hw : (ops[i]?).map (fun o => Region.wanted o (yielded ops a.tmps)) = some false) (hS : S w)
    (h : wpAnyH P md ops Q S fuel (listed.setIfInBounds i true) (a.put dst undef) w) : wpAnyH P md ops Q S (fuel + 1) listed a w := by
  obtain ⟨o, ho⟩ : ∃ o, ops[i]? = some o := by
    cases hh : ops[i]? with
    | none => rw [hh] at hd; cases hd
    | some o => exact ⟨o, rfl⟩
  rw [ho] at hd hw
  cases hd
  exact wpAnyH_take ho hs hf hr hQ (Or.inr ⟨Option.some.inj hw, rfl⟩) hS h
/-! A mark is read, the document's way. -/
set_option maxHeartbeats 8000000 in
set_option maxRecDepth 100000 in
theorem refread_c {w : World} {A : Option Addr} {c : Nat} {b : List Int} (hC : (Kd.int .u8).C w A b.length b) (hc : b.length ≤ c) (hb : NBytes b) (hl : b.length ≤ 100000) :
    Calls Tryd.prog 13 #[.slice A b.length c] w (RdPost w b) := by
  obtain ⟨n, k1, p, h1⟩ : ∃ n k p, tk b = (n, k, p) := ⟨_, _, _, rfl⟩
  obtain ⟨b1, e1⟩ : ∃ b1, b.drop k1 = b1 := ⟨_, rfl⟩
  obtain ⟨d, k2, q, h2⟩ : ∃ n k p, tk b1 = (n, k, p) := ⟨_, _, _, rfl⟩
  obtain ⟨b2, e2⟩ : ∃ b2, b1.drop k2 = b2 := ⟨_, rfl⟩
  obtain ⟨s, k3, r, h3⟩ : ∃ n k p, tk b2 = (n, k, p) := ⟨_, _, _, rfl⟩
  obtain ⟨b3, e3⟩ : ∃ b3, b2.drop k3 = b3 := ⟨_, rfl⟩
  obtain ⟨o, k4, t, h4⟩ : ∃ n k p, tT b3 = (n, k, p) := ⟨_, _, _, rfl⟩
  have hrd := rdM_of h1 e1 h2 e2 h3 e3 h4
  have l1 : b1.length ≤ 100000 := by rw [← e1, List.length_drop]; omega
  have l2 : b2.length ≤ 100000 := by rw [← e2, List.length_drop]; omega
  have l3 : b3.length ≤ 100000 := by rw [← e3, List.length_drop]; omega
  have nb3 : NBytes b3 := fun x hx => hb x (by rw [← e3, ← e2, ← e1] at hx; exact List.mem_of_mem_drop (List.mem_of_mem_drop (List.mem_of_mem_drop hx)))
  have hto := tT_bytes nb3
  rw [h4] at hto
  have hsr := tk_rng b2
  rw [h3] at hsr
  -- what the document asks for besides
  have hall : t = true → bytesM 0 n (d == 1) s (strOfNums o) = b → p = true ∧ q = true ∧ r = true ∧ isM 0 n (d == 1) s (strOfNums o) = true := fun ht he => by
    have f1 : (four b).n = n ∧ (four b).d = d ∧ (four b).s = s ∧ (four b).o = o ∧ (four b).p = p ∧ (four b).q = q ∧ (four b).r = r ∧ (four b).t = t := by
      unfold four
      dsimp only
      rw [h1]
      dsimp only
      rw [e1, h2]
      dsimp only
      rw [e2, h3]
      dsimp only
      rw [e3, h4]
      exact ⟨rfl, rfl, rfl, rfl, rfl, rfl, rfl, rfl⟩
    obtain ⟨g1, g2, g3, g4, g5, g6, g7, g8⟩ := f1
    have h := rdM_all hb (by omega) (by rw [g8]; exact ht) (by rw [g1, g2, g3, g4]; exact he)
    rw [g1, g2, g3, g4, g5, g6, g7] at h
    exact h
  obtain ⟨os, hos⟩ : ∃ os, strOfNums o = os := ⟨_, rfl⟩
  have hol : os.size ≤ 1000000 := by rw [← hos, str_size]; have := hto.2; dsimp only at this; omega
  obtain ⟨dn, hdn⟩ : ∃ dn, (d == 1) = dn := ⟨_, rfl⟩
  rw [hos, hdn] at hrd hall
  have hd2 : decide (d = 1) = dn := by rw [← hdn]; rfl
  have hb0 := below_alloc (Below.refl w.heap.size w) (.cells #[.int .i64 0, .int .i64 0, .bool false, .int .i64 0, .string ⟨#[]⟩] 25)
  have hn0 := blk_new w (.cells #[.int .i64 0, .int .i64 0, .bool false, .int .i64 0, .string ⟨#[]⟩] 25)
  obtain ⟨W0, hW0⟩ : ∃ W0, W0 = w.alloc (.cells #[.int .i64 0, .int .i64 0, .bool false, .int .i64 0, .string ⟨#[]⟩] 25) := ⟨_, rfl⟩
  have HW0 := Aside0.mk hW0
  rw [← hW0] at hb0 hn0
  have hx0 := below_alloc (Below.refl W0.heap.size W0) (.cells #[.slice A b.length c] 63)
  have hxn := blk_new W0 (.cells #[.slice A b.length c] 63)
  obtain ⟨W1, hW1⟩ : ∃ W1, W1 = W0.alloc (.cells #[.slice A b.length c] 63) := ⟨_, rfl⟩
  have HW1 := Aside0.mk hW1
  rw [← hW1] at hx0 hxn
  have hAl : ∀ ad, A = some ad → 0 < b.length → ad.block < w.heap.size := fun ad e hp => by subst e; exact Kd.C_lt hC hp (by decide)
  obtain ⟨g, hg⟩ : ∃ g, W0.heap.size = g := ⟨_, rfl⟩
  have HG : Aside0 (w.heap.size + 1 = g) := ⟨by rw [← hg, hW0]; simp⟩
  have hN1 : NR 63 False W1 [g] g b := ⟨A, c, hg ▸ hxn, List.mem_singleton.2 rfl, hc, Kd.C_below hC (hb0.trans (hx0.mono hb0.size)), hb, fun h => h.elim, fun ad e hp => ⟨fun hm => by have h5 := List.mem_singleton.1 hm; have := hAl ad e hp; have := hb0.size; omega, Nat.lt_of_lt_of_le (hAl ad e hp) (Nat.le_trans hb0.size hx0.size)⟩⟩
  have N1 := Aside0.mk hN1
  have HB0 := Aside0.mk hb0
  have B1 := Aside0.mk (hb0.trans (hx0.mono hb0.size))
  have G1 : Aside0 (w.heap.size ≤ g) := ⟨by rw [← hg]; exact hb0.size⟩
  have hq0 : w.heap.size < W0.heap.size := (Array.getElem?_eq_some_iff.1 hn0).1
  have Q1 : Aside0 (W1.heap[w.heap.size]? = some (.cells #[.int .i64 0, .int .i64 0, .bool false, .int .i64 0, .string ⟨#[]⟩] 25 (0, 0))) := ⟨(hx0.block _ hq0).trans hn0⟩
  have QG : Aside0 (w.heap.size ≠ g) := ⟨by omega⟩
  have HC := Aside0.mk (Kd.C_below hC (hb0.trans (hx0.mono hb0.size)))
  have HAL := Aside0.mk hAl
  have HBY := Aside0.mk hb
  have HL := Aside0.mk hl
  have H1 := Aside0.mk h1
  have H2 := Aside0.mk h2
  have H3 := Aside0.mk h3
  have H4 := Aside0.mk h4
  have E1 := Aside0.mk e1
  have E2 := Aside0.mk e2
  have E3 := Aside0.mk e3
  have L3 := Aside0.mk l3
  have HRD := Aside0.mk hrd
  have HALL := Aside0.mk hall
  have HSR := Aside0.mk hsr
  have HOS := Aside0.mk hos
  have HOL := Aside0.mk hol
  clear hC hc hb hl hAl h1 h2 h3 h4 e1 e2 e3 l1 l2 l3 hrd hsr hos hol nb3 hto hb0 hn0 hW0 hx0 hxn hW1 hg hN1 hq0 hall
  go_enter Tryd.func13, Tryd.ntmps13
  go_upto_region 2 with (fail)
  rw [← HW0.out, ← HW1.out, HG.out]
  go_upto_region 6 with (first
    | (go_at_call 33; refine (refrtext_c N4.out (by have := L3.out; omega)).mono ?_; rw [H4.out]; unfold RTPost; dsimp only; rw [HOS.out]; rintro e w5 ⟨rfl, hN, hK⟩; have B5 := Aside0.mk (hK.below B4.out B4.out.size (fun j hj => by rw [hj]; exact G1.out)); have K5 := Aside0.mk (K4.out.trans hK); clear hN hK)
    | (go_at_call 32; refine (refrnum_c N3.out).mono ?_; rw [H3.out]; unfold RNPost; dsimp only; rw [E3.out]; rintro e w4 ⟨rfl, hN, hK⟩; have N4 := Aside0.mk hN; have B4 := Aside0.mk (hK.below B3.out B3.out.size (fun j hj => by rw [hj]; exact G1.out)); have K4 := Aside0.mk (K3.out.trans hK); clear hN hK)
    | (go_at_call 32; refine (refrnum_c N2.out).mono ?_; rw [H2.out]; unfold RNPost; dsimp only; rw [E2.out]; rintro e w3 ⟨rfl, hN, hK⟩; have N3 := Aside0.mk hN; have B3 := Aside0.mk (hK.below B2.out B2.out.size (fun j hj => by rw [hj]; exact G1.out)); have K3 := Aside0.mk (K2.out.trans hK); clear hN hK)
    | (go_at_call 32; refine (refrnum_c N1.out).mono ?_; rw [H1.out]; unfold RNPost; dsimp only; rw [E1.out]; rintro e w2 ⟨rfl, hN, hK⟩; have N2 := Aside0.mk hN; have B2 := Aside0.mk (hK.below B1.out B1.out.size (fun j hj => by rw [hj]; exact G1.out)); have K2 := Aside0.mk hK; clear hN hK))
  go_upto_region 7 with (fail)
  have hb6 := below_alloc (Below.refl w5.heap.size w5) (.cells #[.int .i64 0, .int .i64 n, .bool dn, .int .i64 s, .string os] 25)
  have hn6 := blk_new w5 (.cells #[.int .i64 0, .int .i64 n, .bool dn, .int .i64 s, .string os] 25)
  obtain ⟨W6, hW6⟩ : ∃ W6, W6 = w5.alloc (.cells #[.int .i64 0, .int .i64 n, .bool dn, .int .i64 s, .string os] 25) := ⟨_, rfl⟩
  rw [← hW6] at hb6 hn6 ⊢
  have hq1 : w.heap.size < W1.heap.size := (Array.getElem?_eq_some_iff.1 Q1.out).1
  have HQ0 : Aside0 (W6.heap[w.heap.size]? = some (.cells #[.int .i64 0, .int .i64 0, .bool false, .int .i64 0, .string ⟨#[]⟩] 25 (0, 0))) := ⟨(hb6.block _ (Nat.lt_of_lt_of_le hq1 K5.out.size)).trans ((K5.out.block _ hq1 QG.out).trans Q1.out)⟩
  obtain ⟨q6, hq6⟩ : ∃ q6, w5.heap.size = q6 := ⟨_, rfl⟩
  rw [hq6] at hb6 hn6 ⊢
  have HN6 := Aside0.mk hn6
  have B6 : Aside0 (Below w.heap.size w W6) := ⟨B5.out.trans (Below.mono (by rw [hq6]; exact hb6) B5.out.size)⟩
  have C6 : Aside0 ((Kd.int .u8).C W6 A b.length b) := ⟨Kd.C_below (C_blk HC.out (fun ad e hp => K5.out.block _ (Nat.lt_of_lt_of_le (HAL.out ad e hp) B1.out.size) (fun e2 => by have h5 : ad.block = g := e2; have := HAL.out ad e hp; have := G1.out; omega))) (by rw [hq6]; exact hb6)⟩
  have L6 : Aside0 (w.heap.size < W6.heap.size ∧ q6 < W6.heap.size) := ⟨(Array.getElem?_eq_some_iff.1 HQ0.out).1, (Array.getElem?_eq_some_iff.1 HN6.out).1⟩
  clear hb6 hn6 hW6 hq1 hq6
  by_cases hok : p = true ∧ q = true ∧ r = true ∧ t = true
  · obtain ⟨rfl, rfl, rfl, rfl⟩ := hok
    obtain ⟨sb, hsb⟩ : ∃ sb, strOfNums b = sb := ⟨_, rfl⟩
    have HSB := Aside0.mk hsb
    have HSS : Aside0 (∀ W', Below W6.heap.size W6 W' → W'.cell? ⟨q6, 0, none⟩ = some (.int .i64 0) ∧ W'.cell? ⟨q6, 1, none⟩ = some (.int .i64 n) ∧ W'.cell? ⟨q6, 2, none⟩ = some (.bool dn) ∧ W'.cell? ⟨q6, 3, none⟩ = some (.int .i64 s) ∧ W'.cell? ⟨q6, 4, none⟩ = some (.string os) ∧ (convert 26 9 (.slice A b.length c)).run Tryd.prog W' = .ok (.string sb) W') := ⟨fun W' hB => by
      have hh := (hB.block _ L6.out.2).trans HN6.out
      refine ⟨(blk_cell hh 0).trans rfl, (blk_cell hh 1).trans rfl, (blk_cell hh 2).trans rfl, (blk_cell hh 3).trans rfl, (blk_cell hh 4).trans rfl, ?_⟩
      rw [conv_str (Kd.C_below C6.out hB), HSB.out]⟩
    have OD := Aside0.mk (below_drew1 (Below.refl W6.heap.size W6))
    clear hsb
    cases hm : isM 0 n dn s os with
    | false =>
      have HR : Aside0 (rdM b = (0, false, 0, ⟨#[]⟩, false)) := ⟨by rw [HRD.out, if_neg (fun h => by have h2 := (HALL.out h.1 h.2).2.2.2; rw [hm] at h2; cases h2)]⟩
      have HIS : Aside0 (lazarusref6_Is.f 0 n dn s os = some false) := ⟨by rw [ref_is_f, hm]⟩
      clear hm
      have y0 := (blk_cell HN6.out 0).trans rfl
      have y1 := (blk_cell HN6.out 1).trans rfl
      have y2 := (blk_cell HN6.out 2).trans rfl
      have y3 := (blk_cell HN6.out 3).trans rfl
      have y4 := (blk_cell HN6.out 4).trans rfl
      refine wp_region_held_drew (S := (fun w' => w'.cell? ⟨q6, 0, none⟩ = some (.int .i64 0) ∧ w'.cell? ⟨q6, 1, none⟩ = some (.int .i64 n) ∧ w'.cell? ⟨q6, 2, none⟩ = some (.bool dn) ∧ w'.cell? ⟨q6, 3, none⟩ = some (.int .i64 s) ∧ w'.cell? ⟨q6, 4, none⟩ = some (.string os) ∧ (convert 26 9 (.slice A b.length c)).run Tryd.prog w' = .ok (.string sb) w')) (by kernel_rfl) (HSS.out _ OD.out) (fun hHeld => ?_)
      refine rg_take (i := 0) (dst := some 44) (v := ?_) (by kernel_rfl) (by kernel_rfl) (by kernel_rfl) (by kernel_rfl) (fun _ _ _ h => h) (by rfl) ?_ (by assumption) ?_
      rotate_left
      · intro o ho w' hSw
        cases ho
        (try dsimp only at hSw)
        go_simp
        first | done | with_reducible rfl
      simp only [Act.put, List.setIfInBounds_toArray, List.set_cons_zero, List.set_cons_succ]
      refine rg_take (i := 1) (dst := some 45) (v := ?_) (by kernel_rfl) (by kernel_rfl) (by kernel_rfl) (by kernel_rfl) (fun _ _ _ h => h) (by rfl) ?_ (by assumption) ?_
      rotate_left
      · intro o ho w' hSw
        cases ho
        (try dsimp only at hSw)
        go_simp
        first | done | with_reducible rfl
      simp only [Act.put, List.setIfInBounds_toArray, List.set_cons_zero, List.set_cons_succ]
      refine rg_take (i := 2) (dst := some 46) (v := ?_) (by kernel_rfl) (by kernel_rfl) (by kernel_rfl) (by kernel_rfl) (fun _ _ _ h => h) (by rfl) ?_ (by assumption) ?_
      rotate_left
      · intro o ho w' hSw
        cases ho
        (try dsimp only at hSw)
        go_simp
        first | done | with_reducible rfl
      simp only [Act.put, List.setIfInBounds_toArray, List.set_cons_zero, List.set_cons_succ]
      refine rg_take (i := 3) (dst := some 47) (v := ?_) (by kernel_rfl) (by kernel_rfl) (by kernel_rfl) (by kernel_rfl) (fun _ _ _ h => h) (by rfl) ?_ (by assumption) ?_
      rotate_left
      · intro o ho w' hSw
        cases ho
        (try dsimp only at hSw)
        go_simp
        first | done | with_reducible rfl
      simp only [Act.put, List.setIfInBounds_toArray, List.set_cons_zero, List.set_cons_succ]
      refine rg_take (i := 4) (dst := some 48) (v := ?_) (by kernel_rfl) (by kernel_rfl) (by kernel_rfl) (by kernel_rfl) (fun _ _ _ h => h) (by rfl) ?_ (by assumption) ?_
      rotate_left
      · intro o ho w' hSw
        cases ho
        (try dsimp only at hSw)
        go_simp
        first | done | with_reducible rfl
      simp only [Act.put, List.setIfInBounds_toArray, List.set_cons_zero, List.set_cons_succ]
      refine rg_take (i := 5) (dst := some 49) (v := ?_) (by kernel_rfl) (by kernel_rfl) (by kernel_rfl) (by kernel_rfl) (fun _ _ _ h => h) (by rfl) ?_ (by assumption) ?_
      rotate_left
      · intro o ho w' hSw
        cases ho
        (try dsimp only at hSw)
        go_simp
        first | done | with_reducible rfl
      simp only [Act.put, List.setIfInBounds_toArray, List.set_cons_zero, List.set_cons_succ]
      refine rg_take (i := 6) (dst := some 50) (v := ?_) (by kernel_rfl) (by kernel_rfl) (by kernel_rfl) (by kernel_rfl) (fun _ _ _ h => h) (by rfl) ?_ (by assumption) ?_
      rotate_left
      · intro o ho w' hSw
        cases ho
        (try dsimp only at hSw)
        go_simp
        first | done | with_reducible rfl
      simp only [Act.put, List.setIfInBounds_toArray, List.set_cons_zero, List.set_cons_succ]
      refine rg_take (i := 7) (dst := some 51) (v := ?_) (by kernel_rfl) (by kernel_rfl) (by kernel_rfl) (by kernel_rfl) (fun _ _ _ h => h) (by rfl) ?_ (by assumption) ?_
      rotate_left
      · intro o ho w' hSw
        cases ho
        (try dsimp only at hSw)
        go_simp
        first | done | with_reducible rfl
      simp only [Act.put, List.setIfInBounds_toArray, List.set_cons_zero, List.set_cons_succ]
      refine rg_take (i := 8) (dst := some 52) (v := ?_) (by kernel_rfl) (by kernel_rfl) (by kernel_rfl) (by kernel_rfl) (fun _ _ _ h => h) (by rfl) ?_ (by assumption) ?_
      rotate_left
      · intro o ho w' hSw
        cases ho
        (try dsimp only at hSw)
        go_simp
        first | done | with_reducible rfl
      simp only [Act.put, List.setIfInBounds_toArray, List.set_cons_zero, List.set_cons_succ]
      refine rg_take (i := 9) (dst := some 53) (v := ?_) (by kernel_rfl) (by kernel_rfl) (by kernel_rfl) (by kernel_rfl) (fun _ _ _ h => h) (by rfl) ?_ (by assumption) ?_
      rotate_left
      · intro o ho w' hSw
        cases ho
        (try dsimp only at hSw)
        go_simp
        first | done | with_reducible rfl
      simp only [Act.put, List.setIfInBounds_toArray, List.set_cons_zero, List.set_cons_succ]
      refine rg_take (i := 10) (dst := some 54) (v := ?_) (by kernel_rfl) (by kernel_rfl) (by kernel_rfl) (by kernel_rfl) (fun _ _ _ h => h) (by rfl) ?_ (by assumption) ?_
      rotate_left
      · intro o ho w' hSw
        cases ho
        (try dsimp only at hSw)
        go_simp
        first | done | with_reducible rfl
      simp only [Act.put, List.setIfInBounds_toArray, List.set_cons_zero, List.set_cons_succ]
      refine rg_take (i := 11) (dst := some 55) (v := ?_) (by kernel_rfl) (by kernel_rfl) (by kernel_rfl) (by kernel_rfl) (fun _ _ _ h => h) (by rfl) ?_ (by assumption) ?_
      rotate_left
      · intro o ho w' hSw
        cases ho
        (try dsimp only at hSw)
        go_simp
        first | done | with_reducible rfl
      simp only [Act.put, List.setIfInBounds_toArray, List.set_cons_zero, List.set_cons_succ]
      refine rg_take (i := 12) (dst := some 56) (v := ?_) (by kernel_rfl) (by kernel_rfl) (by kernel_rfl) (by kernel_rfl) (fun _ _ _ h => h) (by rfl) ?_ (by assumption) ?_
      rotate_left
      · intro o ho w' hSw
        cases ho
        (try dsimp only at hSw)
        go_simp
        first | done | with_reducible rfl
      simp only [Act.put, List.setIfInBounds_toArray, List.set_cons_zero, List.set_cons_succ]
      refine rg_take (i := 13) (dst := some 57) (v := ?_) (by kernel_rfl) (by kernel_rfl) (by kernel_rfl) (by kernel_rfl) (fun _ _ _ h => h) (by rfl) ?_ (by assumption) ?_
      rotate_left
      · intro o ho w' hSw
        cases ho
        (try dsimp only at hSw)
        go_simp
        first | done | with_reducible rfl
      simp only [Act.put, List.setIfInBounds_toArray, List.set_cons_zero, List.set_cons_succ]
      refine rg_take (i := 14) (dst := some 58) (v := ?_) (by kernel_rfl) (by kernel_rfl) (by kernel_rfl) (by kernel_rfl) (fun _ _ _ h => h) (by rfl) ?_ (by assumption) ?_
      rotate_left
      · intro o ho w' hSw
        cases ho
        (try dsimp only at hSw)
        go_simp
        first | done | with_reducible rfl
      simp only [Act.put, List.setIfInBounds_toArray, List.set_cons_zero, List.set_cons_succ]
      refine rg_take (i := 15) (dst := some 59) (v := ?_) (by kernel_rfl) (by kernel_rfl) (by kernel_rfl) (by kernel_rfl) (fun _ _ _ h => h) (by rfl) ?_ (by assumption) ?_
      rotate_left
      · intro o ho w' hSw
        cases ho
        (try dsimp only at hSw)
        go_simp
        first | done | with_reducible rfl
      simp only [Act.put, List.setIfInBounds_toArray, List.set_cons_zero, List.set_cons_succ]
      refine wpAnyH_ready (rs := [16]) (by kernel_rfl) (by simp) ?_
      refine AllReadyH.cons rfl (fun K hK => ?_) AllReadyH.nil
      go_simp
      go_wp2_with (first | (go_at_call 11; refine (lazarusref6_Is.calls 0 n dn s os false _ HIS.out).mono ?_; rintro e w7 ⟨rfl, hB⟩; have O7 := Aside0.mk (OD.out.trans (hB.mono OD.out.size)); clear hB))
      refine hK.out _ _ (HSS.out _ O7.out) (fun hHeld => ?_)
      clear hK K
      refine rg_take (i := 17) (dst := some 61) (v := ?_) (by kernel_rfl) (by kernel_rfl) (by kernel_rfl) (by kernel_rfl) (fun _ _ _ h => h) (by rfl) ?_ (by assumption) ?_
      rotate_left
      · intro o ho w' hSw
        cases ho
        (try dsimp only at hSw)
        go_simp
        first | done | with_reducible rfl
      simp only [Act.put, List.setIfInBounds_toArray, List.set_cons_zero, List.set_cons_succ]
      refine rg_take (i := 18) (dst := some 62) (v := ?_) (by kernel_rfl) (by kernel_rfl) (by kernel_rfl) (by kernel_rfl) (fun _ _ _ h => h) (by rfl) ?_ (by assumption) ?_
      rotate_left
      · intro o ho w' hSw
        cases ho
        (try dsimp only at hSw)
        go_simp
        first | done | with_reducible rfl
      simp only [Act.put, List.setIfInBounds_toArray, List.set_cons_zero, List.set_cons_succ]
      refine rg_take (i := 19) (dst := some 63) (v := ?_) (by kernel_rfl) (by kernel_rfl) (by kernel_rfl) (by kernel_rfl) (fun _ _ _ h => h) (by rfl) ?_ (by assumption) ?_
      rotate_left
      · intro o ho w' hSw
        cases ho
        (try dsimp only at hSw)
        go_simp
        first | done | with_reducible rfl
      simp only [Act.put, List.setIfInBounds_toArray, List.set_cons_zero, List.set_cons_succ]
      refine rg_out (i := 20) (dst := some 64) (by kernel_rfl) (by kernel_rfl) (by kernel_rfl) (by kernel_rfl) (fun _ _ _ h => h) (by rfl) (by assumption) ?_
      simp only [Act.put, List.setIfInBounds_toArray, List.set_cons_zero, List.set_cons_succ]
      refine rg_out (i := 21) (dst := some 65) (by kernel_rfl) (by kernel_rfl) (by kernel_rfl) (by kernel_rfl) (fun _ _ _ h => h) (by rfl) (by assumption) ?_
      simp only [Act.put, List.setIfInBounds_toArray, List.set_cons_zero, List.set_cons_succ]
      refine rg_out (i := 22) (dst := some 66) (by kernel_rfl) (by kernel_rfl) (by kernel_rfl) (by kernel_rfl) (fun _ _ _ h => h) (by rfl) (by assumption) ?_
      simp only [Act.put, List.setIfInBounds_toArray, List.set_cons_zero, List.set_cons_succ]
      refine rg_out (i := 23) (dst := some 67) (by kernel_rfl) (by kernel_rfl) (by kernel_rfl) (by kernel_rfl) (fun _ _ _ h => h) (by rfl) (by assumption) ?_
      simp only [Act.put, List.setIfInBounds_toArray, List.set_cons_zero, List.set_cons_succ]
      refine rg_out (i := 24) (dst := some 68) (by kernel_rfl) (by kernel_rfl) (by kernel_rfl) (by kernel_rfl) (fun _ _ _ h => h) (by rfl) (by assumption) ?_
      simp only [Act.put, List.setIfInBounds_toArray, List.set_cons_zero, List.set_cons_succ]
      refine rg_out (i := 25) (dst := some 69) (by kernel_rfl) (by kernel_rfl) (by kernel_rfl) (by kernel_rfl) (fun _ _ _ h => h) (by rfl) (by assumption) ?_
      simp only [Act.put, List.setIfInBounds_toArray, List.set_cons_zero, List.set_cons_succ]
      refine rg_take (i := 26) (dst := some 70) (v := ?_) (by kernel_rfl) (by kernel_rfl) (by kernel_rfl) (by kernel_rfl) (fun _ _ _ h => h) (by rfl) ?_ (by assumption) ?_
      rotate_left
      · intro o ho w' hSw
        cases ho
        (try dsimp only at hSw)
        go_simp
        first | done | with_reducible rfl
      simp only [Act.put, List.setIfInBounds_toArray, List.set_cons_zero, List.set_cons_succ]
      refine wpAnyH_done (by kernel_rfl) ?_ _
      all_goals
        have hB68 := O7.out
        have HQ8 := Aside0.mk ((hB68.block _ L6.out.1).trans HQ0.out)
        have hh6 := (hB68.block _ L6.out.2).trans HN6.out
        have B8 := Aside0.mk (B6.out.trans (hB68.mono B6.out.size))
        have z0 := (blk_cell HQ8.out 0).trans rfl
        have z1 := (blk_cell HQ8.out 1).trans rfl
        have z2 := (blk_cell HQ8.out 2).trans rfl
        have z3 := (blk_cell HQ8.out 3).trans rfl
        have z4 := (blk_cell HQ8.out 4).trans rfl
        have f0 := blk_frozen HQ8.out 0
        have f1 := blk_frozen HQ8.out 1
        have f2 := blk_frozen HQ8.out 2
        have f3 := blk_frozen HQ8.out 3
        have f4 := blk_frozen HQ8.out 4
        have x0 := (blk_cell hh6 0).trans rfl
        have x1 := (blk_cell hh6 1).trans rfl
        have x2 := (blk_cell hh6 2).trans rfl
        have x3 := (blk_cell hh6 3).trans rfl
        have x4 := (blk_cell hh6 4).trans rfl
        clear hB68 hh6
        go_wp2
        have hfp := five_put (y0 := .int .i64 0) (y1 := .int .i64 0) (y2 := .bool false) (y3 := .int .i64 0) (y4 := .string ⟨#[]⟩) HQ8.out
        have hB9 := ((((B8.out.setCell (p := ⟨w.heap.size, 0, none⟩) (Nat.le_refl _) (.int .i64 0)).setCell (p := ⟨w.heap.size, 1, none⟩) (Nat.le_refl _) (.int .i64 0)).setCell (p := ⟨w.heap.size, 2, none⟩) (Nat.le_refl _) (.bool false)).setCell (p := ⟨w.heap.size, 3, none⟩) (Nat.le_refl _) (.int .i64 0)).setCell (p := ⟨w.heap.size, 4, none⟩) (Nat.le_refl _) (.string ⟨#[]⟩)
        generalize (((((w7.setCell ⟨w.heap.size, 0, none⟩ (.int .i64 0)).setCell ⟨w.heap.size, 1, none⟩ (.int .i64 0)).setCell ⟨w.heap.size, 2, none⟩ (.bool false)).setCell ⟨w.heap.size, 3, none⟩ (.int .i64 0)).setCell ⟨w.heap.size, 4, none⟩ (.string ⟨#[]⟩)) = W9 at hfp hB9 ⊢
        have c0 : W9.cell? ⟨w.heap.size, 0, none⟩ = some (.int .i64 0) := (blk_cell hfp 0).trans rfl
        have c1 : W9.cell? ⟨w.heap.size, 1, none⟩ = some (.int .i64 0) := (blk_cell hfp 1).trans rfl
        have c2 : W9.cell? ⟨w.heap.size, 2, none⟩ = some (.bool false) := (blk_cell hfp 2).trans rfl
        have c3 : W9.cell? ⟨w.heap.size, 3, none⟩ = some (.int .i64 0) := (blk_cell hfp 3).trans rfl
        have c4 : W9.cell? ⟨w.heap.size, 4, none⟩ = some (.string ⟨#[]⟩) := (blk_cell hfp 4).trans rfl
        exact bodyPost_ret (v := .tuple #[.agg #[.int .i64 0, .int .i64 0, .bool false, .int .i64 0, .string ⟨#[]⟩], .bool false]) (by simp [results, Tryd.results13, go_sem, c0, c1, c2, c3, c4]) rfl (by show RdPost w b _ _; unfold RdPost; rw [HR.out]; exact ⟨rfl, hB9⟩)
    | true =>
      have HIS : Aside0 (lazarusref6_Is.f 0 n dn s os = some true) := ⟨by rw [ref_is_f, hm]⟩
      have hbb := bytesM_bytes 0 n dn s os
      obtain ⟨bm, hbm⟩ : ∃ bm, bytesM 0 n dn s os = bm := ⟨_, rfl⟩
      rw [hbm] at hbb
      have HBM := Aside0.mk hbm
      have hrd := HRD.out
      rw [hbm] at hrd
      clear hm hbm
      by_cases hq : bm = b
      · have HR : Aside0 (rdM b = (n, dn, s, os, true)) := ⟨by rw [hrd, if_pos ⟨rfl, hq⟩]⟩
        have HSM : Aside0 (strOfNums bm = sb) := ⟨by rw [hq, HSB.out]⟩
        have hse1 : (sb.toList == sb.toList) = true := beq_self_eq_true _
        have hse3 : ¬ (sb.toList == sb.toList) = false := by rw [hse1]; simp
        clear hrd hq hbb
        go_region_held (fun w' => w'.cell? ⟨q6, 0, none⟩ = some (.int .i64 0) ∧ w'.cell? ⟨q6, 1, none⟩ = some (.int .i64 n) ∧ w'.cell? ⟨q6, 2, none⟩ = some (.bool dn) ∧ w'.cell? ⟨q6, 3, none⟩ = some (.int .i64 s) ∧ w'.cell? ⟨q6, 4, none⟩ = some (.string os) ∧ (convert 26 9 (.slice A b.length c)).run Tryd.prog w' = .ok (.string sb) w') (first | exact HSS.out _ O8.out | exact HSS.out _ O7.out | exact HSS.out _ OD.out) (first
          | (go_at_call 10; refine (refbytes_c 0 n dn s os HSR.out HOL.out w7).mono ?_; unfold RefBytes; rw [HBM.out]; rintro e w8 ⟨A8, c8, rfl, hlc, hC, hB⟩; have O8 := Aside0.mk (O7.out.trans (hB.mono O7.out.size)); (have hcv8 := conv_str (c := c8) hC); rw [HSM.out] at hcv8; clear hlc hC hB)
          | (go_at_call 11; refine (lazarusref6_Is.calls 0 n dn s os true _ HIS.out).mono ?_; rintro e w7 ⟨rfl, hB⟩; have O7 := Aside0.mk (OD.out.trans (hB.mono OD.out.size)); clear hB))
        all_goals
          have hB68 := O8.out
          have HQ8 := Aside0.mk ((hB68.block _ L6.out.1).trans HQ0.out)
          have hh6 := (hB68.block _ L6.out.2).trans HN6.out
          have B8 := Aside0.mk (B6.out.trans (hB68.mono B6.out.size))
          have z0 := (blk_cell HQ8.out 0).trans rfl
          have z1 := (blk_cell HQ8.out 1).trans rfl
          have z2 := (blk_cell HQ8.out 2).trans rfl
          have z3 := (blk_cell HQ8.out 3).trans rfl
          have z4 := (blk_cell HQ8.out 4).trans rfl
          have f0 := blk_frozen HQ8.out 0
          have f1 := blk_frozen HQ8.out 1
          have f2 := blk_frozen HQ8.out 2
          have f3 := blk_frozen HQ8.out 3
          have f4 := blk_frozen HQ8.out 4
          have x0 := (blk_cell hh6 0).trans rfl
          have x1 := (blk_cell hh6 1).trans rfl
          have x2 := (blk_cell hh6 2).trans rfl
          have x3 := (blk_cell hh6 3).trans rfl
          have x4 := (blk_cell hh6 4).trans rfl
          clear hB68 hh6
          go_wp2
          all_goals first | (exfalso; rename_i hx; first | (rw [hse1] at hx; cases hx; done) | (simp at hx; done) | (simp at hx; exact hse3 hx)) | skip
          have hfp := five_put (y0 := .int .i64 0) (y1 := .int .i64 n) (y2 := .bool dn) (y3 := .int .i64 s) (y4 := .string os) HQ8.out
          have hB9 := ((((B8.out.setCell (p := ⟨w.heap.size, 0, none⟩) (Nat.le_refl _) (.int .i64 0)).setCell (p := ⟨w.heap.size, 1, none⟩) (Nat.le_refl _) (.int .i64 n)).setCell (p := ⟨w.heap.size, 2, none⟩) (Nat.le_refl _) (.bool dn)).setCell (p := ⟨w.heap.size, 3, none⟩) (Nat.le_refl _) (.int .i64 s)).setCell (p := ⟨w.heap.size, 4, none⟩) (Nat.le_refl _) (.string os)
          generalize (((((w8.setCell ⟨w.heap.size, 0, none⟩ (.int .i64 0)).setCell ⟨w.heap.size, 1, none⟩ (.int .i64 n)).setCell ⟨w.heap.size, 2, none⟩ (.bool dn)).setCell ⟨w.heap.size, 3, none⟩ (.int .i64 s)).setCell ⟨w.heap.size, 4, none⟩ (.string os)) = W9 at hfp hB9 ⊢
          have c0 : W9.cell? ⟨w.heap.size, 0, none⟩ = some (.int .i64 0) := (blk_cell hfp 0).trans rfl
          have c1 : W9.cell? ⟨w.heap.size, 1, none⟩ = some (.int .i64 n) := (blk_cell hfp 1).trans rfl
          have c2 : W9.cell? ⟨w.heap.size, 2, none⟩ = some (.bool dn) := (blk_cell hfp 2).trans rfl
          have c3 : W9.cell? ⟨w.heap.size, 3, none⟩ = some (.int .i64 s) := (blk_cell hfp 3).trans rfl
          have c4 : W9.cell? ⟨w.heap.size, 4, none⟩ = some (.string os) := (blk_cell hfp 4).trans rfl
          exact bodyPost_ret (v := .tuple #[.agg #[.int .i64 0, .int .i64 n, .bool dn, .int .i64 s, .string os], .bool true]) (by simp [results, Tryd.results13, go_sem, c0, c1, c2, c3, c4]) rfl (by show RdPost w b _ _; unfold RdPost; rw [HR.out]; exact ⟨rfl, hB9⟩)
      · have HR : Aside0 (rdM b = (0, false, 0, ⟨#[]⟩, false)) := ⟨by rw [hrd, if_neg (fun h => hq h.2)]⟩
        have hse0 := list_ne hbb HBY.out hq
        rw [HSB.out] at hse0
        obtain ⟨sm, hsm⟩ : ∃ sm, strOfNums bm = sm := ⟨_, rfl⟩
        rw [hsm] at hse0
        have HSM := Aside0.mk hsm
        have hse1 := hse0
        have hse3 : ¬ sm.toList = sb.toList := beq_eq_false_iff_ne.1 hse1
        clear hrd hq hbb hsm hse0
        go_region_held (fun w' => w'.cell? ⟨q6, 0, none⟩ = some (.int .i64 0) ∧ w'.cell? ⟨q6, 1, none⟩ = some (.int .i64 n) ∧ w'.cell? ⟨q6, 2, none⟩ = some (.bool dn) ∧ w'.cell? ⟨q6, 3, none⟩ = some (.int .i64 s) ∧ w'.cell? ⟨q6, 4, none⟩ = some (.string os) ∧ (convert 26 9 (.slice A b.length c)).run Tryd.prog w' = .ok (.string sb) w') (first | exact HSS.out _ O8.out | exact HSS.out _ O7.out | exact HSS.out _ OD.out) (first
          | (go_at_call 10; refine (refbytes_c 0 n dn s os HSR.out HOL.out w7).mono ?_; unfold RefBytes; rw [HBM.out]; rintro e w8 ⟨A8, c8, rfl, hlc, hC, hB⟩; have O8 := Aside0.mk (O7.out.trans (hB.mono O7.out.size)); (have hcv8 := conv_str (c := c8) hC); rw [HSM.out] at hcv8; clear hlc hC hB)
          | (go_at_call 11; refine (lazarusref6_Is.calls 0 n dn s os true _ HIS.out).mono ?_; rintro e w7 ⟨rfl, hB⟩; have O7 := Aside0.mk (OD.out.trans (hB.mono OD.out.size)); clear hB))
        all_goals
          have hB68 := O8.out
          have HQ8 := Aside0.mk ((hB68.block _ L6.out.1).trans HQ0.out)
          have hh6 := (hB68.block _ L6.out.2).trans HN6.out
          have B8 := Aside0.mk (B6.out.trans (hB68.mono B6.out.size))
          have z0 := (blk_cell HQ8.out 0).trans rfl
          have z1 := (blk_cell HQ8.out 1).trans rfl
          have z2 := (blk_cell HQ8.out 2).trans rfl
          have z3 := (blk_cell HQ8.out 3).trans rfl
          have z4 := (blk_cell HQ8.out 4).trans rfl
          have f0 := blk_frozen HQ8.out 0
          have f1 := blk_frozen HQ8.out 1
          have f2 := blk_frozen HQ8.out 2
          have f3 := blk_frozen HQ8.out 3
          have f4 := blk_frozen HQ8.out 4
          have x0 := (blk_cell hh6 0).trans rfl
          have x1 := (blk_cell hh6 1).trans rfl
          have x2 := (blk_cell hh6 2).trans rfl
          have x3 := (blk_cell hh6 3).trans rfl
          have x4 := (blk_cell hh6 4).trans rfl
          clear hB68 hh6
          go_wp2
          all_goals first | (exfalso; rename_i hx; first | (rw [hse1] at hx; cases hx; done) | (simp at hx; done) | (simp at hx; exact hse3 hx)) | skip
          have hfp := five_put (y0 := .int .i64 0) (y1 := .int .i64 0) (y2 := .bool false) (y3 := .int .i64 0) (y4 := .string ⟨#[]⟩) HQ8.out
          have hB9 := ((((B8.out.setCell (p := ⟨w.heap.size, 0, none⟩) (Nat.le_refl _) (.int .i64 0)).setCell (p := ⟨w.heap.size, 1, none⟩) (Nat.le_refl _) (.int .i64 0)).setCell (p := ⟨w.heap.size, 2, none⟩) (Nat.le_refl _) (.bool false)).setCell (p := ⟨w.heap.size, 3, none⟩) (Nat.le_refl _) (.int .i64 0)).setCell (p := ⟨w.heap.size, 4, none⟩) (Nat.le_refl _) (.string ⟨#[]⟩)
          generalize (((((w8.setCell ⟨w.heap.size, 0, none⟩ (.int .i64 0)).setCell ⟨w.heap.size, 1, none⟩ (.int .i64 0)).setCell ⟨w.heap.size, 2, none⟩ (.bool false)).setCell ⟨w.heap.size, 3, none⟩ (.int .i64 0)).setCell ⟨w.heap.size, 4, none⟩ (.string ⟨#[]⟩)) = W9 at hfp hB9 ⊢
          have c0 : W9.cell? ⟨w.heap.size, 0, none⟩ = some (.int .i64 0) := (blk_cell hfp 0).trans rfl
          have c1 : W9.cell? ⟨w.heap.size, 1, none⟩ = some (.int .i64 0) := (blk_cell hfp 1).trans rfl
          have c2 : W9.cell? ⟨w.heap.size, 2, none⟩ = some (.bool false) := (blk_cell hfp 2).trans rfl
          have c3 : W9.cell? ⟨w.heap.size, 3, none⟩ = some (.int .i64 0) := (blk_cell hfp 3).trans rfl
          have c4 : W9.cell? ⟨w.heap.size, 4, none⟩ = some (.string ⟨#[]⟩) := (blk_cell hfp 4).trans rfl
          exact bodyPost_ret (v := .tuple #[.agg #[.int .i64 0, .int .i64 0, .bool false, .int .i64 0, .string ⟨#[]⟩], .bool false]) (by simp [results, Tryd.results13, go_sem, c0, c1, c2, c3, c4]) rfl (by show RdPost w b _ _; unfold RdPost; rw [HR.out]; exact ⟨rfl, hB9⟩)
  · have HR : Aside0 (rdM b = (0, false, 0, ⟨#[]⟩, false)) := ⟨by rw [HRD.out, if_neg (fun h => hok (by have h2 := HALL.out h.1 h.2; exact ⟨h2.1, h2.2.1, h2.2.2.1, h.1⟩))]⟩
    cases p with
    | false =>
      go_quiet (first | fail)
      have hB68 := pw_below_drewN (Below.refl W6.heap.size W6) nq
      generalize W6.drewN nq = w8 at hB68 ⊢
      have HQ8 := Aside0.mk ((hB68.block _ L6.out.1).trans HQ0.out)
      have hh6 := (hB68.block _ L6.out.2).trans HN6.out
      have B8 := Aside0.mk (B6.out.trans (hB68.mono B6.out.size))
      have z0 := (blk_cell HQ8.out 0).trans rfl
      have z1 := (blk_cell HQ8.out 1).trans rfl
      have z2 := (blk_cell HQ8.out 2).trans rfl
      have z3 := (blk_cell HQ8.out 3).trans rfl
      have z4 := (blk_cell HQ8.out 4).trans rfl
      have f0 := blk_frozen HQ8.out 0
      have f1 := blk_frozen HQ8.out 1
      have f2 := blk_frozen HQ8.out 2
      have f3 := blk_frozen HQ8.out 3
      have f4 := blk_frozen HQ8.out 4
      have x0 := (blk_cell hh6 0).trans rfl
      have x1 := (blk_cell hh6 1).trans rfl
      have x2 := (blk_cell hh6 2).trans rfl
      have x3 := (blk_cell hh6 3).trans rfl
      have x4 := (blk_cell hh6 4).trans rfl
      clear hB68 hh6
      go_wp2
      have hfp := five_put (y0 := .int .i64 0) (y1 := .int .i64 0) (y2 := .bool false) (y3 := .int .i64 0) (y4 := .string ⟨#[]⟩) HQ8.out
      have hB9 := ((((B8.out.setCell (p := ⟨w.heap.size, 0, none⟩) (Nat.le_refl _) (.int .i64 0)).setCell (p := ⟨w.heap.size, 1, none⟩) (Nat.le_refl _) (.int .i64 0)).setCell (p := ⟨w.heap.size, 2, none⟩) (Nat.le_refl _) (.bool false)).setCell (p := ⟨w.heap.size, 3, none⟩) (Nat.le_refl _) (.int .i64 0)).setCell (p := ⟨w.heap.size, 4, none⟩) (Nat.le_refl _) (.string ⟨#[]⟩)
      generalize (((((w8.setCell ⟨w.heap.size, 0, none⟩ (.int .i64 0)).setCell ⟨w.heap.size, 1, none⟩ (.int .i64 0)).setCell ⟨w.heap.size, 2, none⟩ (.bool false)).setCell ⟨w.heap.size, 3, none⟩ (.int .i64 0)).setCell ⟨w.heap.size, 4, none⟩ (.string ⟨#[]⟩)) = W9 at hfp hB9 ⊢
      have c0 : W9.cell? ⟨w.heap.size, 0, none⟩ = some (.int .i64 0) := (blk_cell hfp 0).trans rfl
      have c1 : W9.cell? ⟨w.heap.size, 1, none⟩ = some (.int .i64 0) := (blk_cell hfp 1).trans rfl
      have c2 : W9.cell? ⟨w.heap.size, 2, none⟩ = some (.bool false) := (blk_cell hfp 2).trans rfl
      have c3 : W9.cell? ⟨w.heap.size, 3, none⟩ = some (.int .i64 0) := (blk_cell hfp 3).trans rfl
      have c4 : W9.cell? ⟨w.heap.size, 4, none⟩ = some (.string ⟨#[]⟩) := (blk_cell hfp 4).trans rfl
      exact bodyPost_ret (v := .tuple #[.agg #[.int .i64 0, .int .i64 0, .bool false, .int .i64 0, .string ⟨#[]⟩], .bool false]) (by simp [results, Tryd.results13, go_sem, c0, c1, c2, c3, c4]) rfl (by show RdPost w b _ _; unfold RdPost; rw [HR.out]; exact ⟨rfl, hB9⟩)
    | true =>
      cases q with
      | false =>
        go_quiet (first | fail)
        have hB68 := pw_below_drewN (Below.refl W6.heap.size W6) nq
        generalize W6.drewN nq = w8 at hB68 ⊢
        have HQ8 := Aside0.mk ((hB68.block _ L6.out.1).trans HQ0.out)
        have hh6 := (hB68.block _ L6.out.2).trans HN6.out
        have B8 := Aside0.mk (B6.out.trans (hB68.mono B6.out.size))
        have z0 := (blk_cell HQ8.out 0).trans rfl
        have z1 := (blk_cell HQ8.out 1).trans rfl
        have z2 := (blk_cell HQ8.out 2).trans rfl
        have z3 := (blk_cell HQ8.out 3).trans rfl
        have z4 := (blk_cell HQ8.out 4).trans rfl
        have f0 := blk_frozen HQ8.out 0
        have f1 := blk_frozen HQ8.out 1
        have f2 := blk_frozen HQ8.out 2
        have f3 := blk_frozen HQ8.out 3
        have f4 := blk_frozen HQ8.out 4
        have x0 := (blk_cell hh6 0).trans rfl
        have x1 := (blk_cell hh6 1).trans rfl
        have x2 := (blk_cell hh6 2).trans rfl
        have x3 := (blk_cell hh6 3).trans rfl
        have x4 := (blk_cell hh6 4).trans rfl
        clear hB68 hh6
        go_wp2
        have hfp := five_put (y0 := .int .i64 0) (y1 := .int .i64 0) (y2 := .bool false) (y3 := .int .i64 0) (y4 := .string ⟨#[]⟩) HQ8.out
        have hB9 := ((((B8.out.setCell (p := ⟨w.heap.size, 0, none⟩) (Nat.le_refl _) (.int .i64 0)).setCell (p := ⟨w.heap.size, 1, none⟩) (Nat.le_refl _) (.int .i64 0)).setCell (p := ⟨w.heap.size, 2, none⟩) (Nat.le_refl _) (.bool false)).setCell (p := ⟨w.heap.size, 3, none⟩) (Nat.le_refl _) (.int .i64 0)).setCell (p := ⟨w.heap.size, 4, none⟩) (Nat.le_refl _) (.string ⟨#[]⟩)
        generalize (((((w8.setCell ⟨w.heap.size, 0, none⟩ (.int .i64 0)).setCell ⟨w.heap.size, 1, none⟩ (.int .i64 0)).setCell ⟨w.heap.size, 2, none⟩ (.bool false)).setCell ⟨w.heap.size, 3, none⟩ (.int .i64 0)).setCell ⟨w.heap.size, 4, none⟩ (.string ⟨#[]⟩)) = W9 at hfp hB9 ⊢
        have c0 : W9.cell? ⟨w.heap.size, 0, none⟩ = some (.int .i64 0) := (blk_cell hfp 0).trans rfl
        have c1 : W9.cell? ⟨w.heap.size, 1, none⟩ = some (.int .i64 0) := (blk_cell hfp 1).trans rfl
        have c2 : W9.cell? ⟨w.heap.size, 2, none⟩ = some (.bool false) := (blk_cell hfp 2).trans rfl
        have c3 : W9.cell? ⟨w.heap.size, 3, none⟩ = some (.int .i64 0) := (blk_cell hfp 3).trans rfl
        have c4 : W9.cell? ⟨w.heap.size, 4, none⟩ = some (.string ⟨#[]⟩) := (blk_cell hfp 4).trans rfl
        exact bodyPost_ret (v := .tuple #[.agg #[.int .i64 0, .int .i64 0, .bool false, .int .i64 0, .string ⟨#[]⟩], .bool false]) (by simp [results, Tryd.results13, go_sem, c0, c1, c2, c3, c4]) rfl (by show RdPost w b _ _; unfold RdPost; rw [HR.out]; exact ⟨rfl, hB9⟩)
      | true =>
        cases r with
        | false =>
          go_quiet (first | fail)
          have hB68 := pw_below_drewN (Below.refl W6.heap.size W6) nq
          generalize W6.drewN nq = w8 at hB68 ⊢
          have HQ8 := Aside0.mk ((hB68.block _ L6.out.1).trans HQ0.out)
          have hh6 := (hB68.block _ L6.out.2).trans HN6.out
          have B8 := Aside0.mk (B6.out.trans (hB68.mono B6.out.size))
          have z0 := (blk_cell HQ8.out 0).trans rfl
          have z1 := (blk_cell HQ8.out 1).trans rfl
          have z2 := (blk_cell HQ8.out 2).trans rfl
          have z3 := (blk_cell HQ8.out 3).trans rfl
          have z4 := (blk_cell HQ8.out 4).trans rfl
          have f0 := blk_frozen HQ8.out 0
          have f1 := blk_frozen HQ8.out 1
          have f2 := blk_frozen HQ8.out 2
          have f3 := blk_frozen HQ8.out 3
          have f4 := blk_frozen HQ8.out 4
          have x0 := (blk_cell hh6 0).trans rfl
          have x1 := (blk_cell hh6 1).trans rfl
          have x2 := (blk_cell hh6 2).trans rfl
          have x3 := (blk_cell hh6 3).trans rfl
          have x4 := (blk_cell hh6 4).trans rfl
          clear hB68 hh6
          go_wp2
          have hfp := five_put (y0 := .int .i64 0) (y1 := .int .i64 0) (y2 := .bool false) (y3 := .int .i64 0) (y4 := .string ⟨#[]⟩) HQ8.out
          have hB9 := ((((B8.out.setCell (p := ⟨w.heap.size, 0, none⟩) (Nat.le_refl _) (.int .i64 0)).setCell (p := ⟨w.heap.size, 1, none⟩) (Nat.le_refl _) (.int .i64 0)).setCell (p := ⟨w.heap.size, 2, none⟩) (Nat.le_refl _) (.bool false)).setCell (p := ⟨w.heap.size, 3, none⟩) (Nat.le_refl _) (.int .i64 0)).setCell (p := ⟨w.heap.size, 4, none⟩) (Nat.le_refl _) (.string ⟨#[]⟩)
          generalize (((((w8.setCell ⟨w.heap.size, 0, none⟩ (.int .i64 0)).setCell ⟨w.heap.size, 1, none⟩ (.int .i64 0)).setCell ⟨w.heap.size, 2, none⟩ (.bool false)).setCell ⟨w.heap.size, 3, none⟩ (.int .i64 0)).setCell ⟨w.heap.size, 4, none⟩ (.string ⟨#[]⟩)) = W9 at hfp hB9 ⊢
          have c0 : W9.cell? ⟨w.heap.size, 0, none⟩ = some (.int .i64 0) := (blk_cell hfp 0).trans rfl
          have c1 : W9.cell? ⟨w.heap.size, 1, none⟩ = some (.int .i64 0) := (blk_cell hfp 1).trans rfl
          have c2 : W9.cell? ⟨w.heap.size, 2, none⟩ = some (.bool false) := (blk_cell hfp 2).trans rfl
          have c3 : W9.cell? ⟨w.heap.size, 3, none⟩ = some (.int .i64 0) := (blk_cell hfp 3).trans rfl
          have c4 : W9.cell? ⟨w.heap.size, 4, none⟩ = some (.string ⟨#[]⟩) := (blk_cell hfp 4).trans rfl
          exact bodyPost_ret (v := .tuple #[.agg #[.int .i64 0, .int .i64 0, .bool false, .int .i64 0, .string ⟨#[]⟩], .bool false]) (by simp [results, Tryd.results13, go_sem, c0, c1, c2, c3, c4]) rfl (by show RdPost w b _ _; unfold RdPost; rw [HR.out]; exact ⟨rfl, hB9⟩)
        | true =>
          cases t with
          | false =>
            go_quiet (first | fail)
            have hB68 := pw_below_drewN (Below.refl W6.heap.size W6) nq
            generalize W6.drewN nq = w8 at hB68 ⊢
            have HQ8 := Aside0.mk ((hB68.block _ L6.out.1).trans HQ0.out)
            have hh6 := (hB68.block _ L6.out.2).trans HN6.out
            have B8 := Aside0.mk (B6.out.trans (hB68.mono B6.out.size))
            have z0 := (blk_cell HQ8.out 0).trans rfl
            have z1 := (blk_cell HQ8.out 1).trans rfl
            have z2 := (blk_cell HQ8.out 2).trans rfl
            have z3 := (blk_cell HQ8.out 3).trans rfl
            have z4 := (blk_cell HQ8.out 4).trans rfl
            have f0 := blk_frozen HQ8.out 0
            have f1 := blk_frozen HQ8.out 1
            have f2 := blk_frozen HQ8.out 2
            have f3 := blk_frozen HQ8.out 3
            have f4 := blk_frozen HQ8.out 4
            have x0 := (blk_cell hh6 0).trans rfl
            have x1 := (blk_cell hh6 1).trans rfl
            have x2 := (blk_cell hh6 2).trans rfl
            have x3 := (blk_cell hh6 3).trans rfl
            have x4 := (blk_cell hh6 4).trans rfl
            clear hB68 hh6
            go_wp2
            have hfp := five_put (y0 := .int .i64 0) (y1 := .int .i64 0) (y2 := .bool false) (y3 := .int .i64 0) (y4 := .string ⟨#[]⟩) HQ8.out
            have hB9 := ((((B8.out.setCell (p := ⟨w.heap.size, 0, none⟩) (Nat.le_refl _) (.int .i64 0)).setCell (p := ⟨w.heap.size, 1, none⟩) (Nat.le_refl _) (.int .i64 0)).setCell (p := ⟨w.heap.size, 2, none⟩) (Nat.le_refl _) (.bool false)).setCell (p := ⟨w.heap.size, 3, none⟩) (Nat.le_refl _) (.int .i64 0)).setCell (p := ⟨w.heap.size, 4, none⟩) (Nat.le_refl _) (.string ⟨#[]⟩)
            generalize (((((w8.setCell ⟨w.heap.size, 0, none⟩ (.int .i64 0)).setCell ⟨w.heap.size, 1, none⟩ (.int .i64 0)).setCell ⟨w.heap.size, 2, none⟩ (.bool false)).setCell ⟨w.heap.size, 3, none⟩ (.int .i64 0)).setCell ⟨w.heap.size, 4, none⟩ (.string ⟨#[]⟩)) = W9 at hfp hB9 ⊢
            have c0 : W9.cell? ⟨w.heap.size, 0, none⟩ = some (.int .i64 0) := (blk_cell hfp 0).trans rfl
            have c1 : W9.cell? ⟨w.heap.size, 1, none⟩ = some (.int .i64 0) := (blk_cell hfp 1).trans rfl
            have c2 : W9.cell? ⟨w.heap.size, 2, none⟩ = some (.bool false) := (blk_cell hfp 2).trans rfl
            have c3 : W9.cell? ⟨w.heap.size, 3, none⟩ = some (.int .i64 0) := (blk_cell hfp 3).trans rfl
            have c4 : W9.cell? ⟨w.heap.size, 4, none⟩ = some (.string ⟨#[]⟩) := (blk_cell hfp 4).trans rfl
            exact bodyPost_ret (v := .tuple #[.agg #[.int .i64 0, .int .i64 0, .bool false, .int .i64 0, .string ⟨#[]⟩], .bool false]) (by simp [results, Tryd.results13, go_sem, c0, c1, c2, c3, c4]) rfl (by show RdPost w b _ _; unfold RdPost; rw [HR.out]; exact ⟨rfl, hB9⟩)
          | true => exact absurd ⟨rfl, rfl, rfl, rfl⟩ hok
end Go.Proofs.YtkicekddkgehoaaDoor.Hnd
