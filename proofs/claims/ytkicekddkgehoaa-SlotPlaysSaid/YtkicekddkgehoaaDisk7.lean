/- Contracts of the calls, by hand. -/
import Derived.Test.YtkicekddkgehoaaQSlotLastx1
import Derived.Test.YtkicekddkgehoaaDisk6
import Derived.RangeFuncNested
import Derived.RangeFuncBound
import Derived.RangeFuncCalls
import Derived.RangeFuncLeaves
import Derived.RangeFuncBox
import Derived.Shelf.Abstract
import Derived.Shelf.RegionOpen
import Derived.OwnWalkIn
import Derived.TacticsInMore
import Derived.LoopNIn
import Derived.LoopIn
namespace Go.Proofs.Ytkicekddkgehoaa.Hnd
open Go.RowKit Go.Proofs.Ytkicekddkgehoaa.QSlotLast Go.Proofs.YtkicekddkgehoaaW.PrintWords Go.Proofs.YtkicekddkgehoaaW.PrintLast Go.Proofs.YtkicekddkgehoaaW.Dk Go.Shelf
set_option linter.unusedVariables false
set_option linter.unusedSimpArgs false
attribute [local go_sem] Oper.semAt_some
set_option maxHeartbeats 1000000 in
theorem read_out {w : World} {base g : Nat} {ok : Nat → Prop} {d : DS} (h : DiskAt w base ok g d) (i : Int) (hi : i < 0 ∨ (d.S.length : Int) ≤ i) :
    Calls Try.prog 36 #[.pointer (some ⟨g, 0, none⟩), .int .i64 i] w fun e w' => ∃ v0, e = .returned v0 ∧ (Kd.int .u8).R 5 w' w.heap.size (fun _ => True) v0 [] ∧ Below w.heap.size w w' := by
  obtain ⟨vS, vP, vL, ss, h1, h2, h3, h4, h5⟩ := h
  obtain ⟨AS, cS, hv⟩ := slice_of h4
  subst hv
  have hc0 : w.cell? ⟨g, 0, none⟩ = some (.slice AS d.S.length cS) := (blk_cell h1 0).trans rfl
  have hgl : g < w.heap.size := (Array.getElem?_eq_some_iff.1 h1).1
  have hB : Aside0 (Below w.heap.size w ((w.alloc (.cells #[.int .i64 i] 3)).alloc (.cells #[.slice none 0 0] 22))) := ⟨below_alloc (below_alloc (Below.refl _ _) _) _⟩
  have hne1 : g ≠ w.heap.size := by omega
  have hne2 : g ≠ w.heap.size + 1 := by omega
  clear h1 h2 h3 h4 h5
  by_cases h0 : i < 0
  · have hd : decide (i < 0) = true := decide_eq_true h0
    clear hi
    go_enter Try.func36, Try.ntmps36
    go_wp2_with fail
    go_quiet (fail)
    go_wp2
    refine bodyPost_ret (v := .slice none 0 0) (by simp [results, Try.results36, go_sem]) rfl ⟨_, rfl, Kd.R_nil _ _ _ _ _, ?_⟩
    exact below_set (pw_below_drewN hB.out _) (Nat.le_succ _)
  · have hd : decide (i < 0) = false := decide_eq_false h0
    have hd1 : decide ((d.S.length : Int) ≤ i) = true := decide_eq_true (by omega)
    have hd2 : decide (i ≥ (d.S.length : Int)) = true := decide_eq_true (by omega)
    clear hi
    go_enter Try.func36, Try.ntmps36
    go_wp2_with fail
    go_quiet (fail)
    go_wp2
    refine bodyPost_ret (v := .slice none 0 0) (by simp [results, Try.results36, go_sem]) rfl ⟨_, rfl, Kd.R_nil _ _ _ _ _, ?_⟩
    exact below_set (pw_below_drewN hB.out _) (Nat.le_succ _)
theorem R_ownK {α : Type} {d : Kd α} {e base : Nat} {ok : Nat → Prop} {v : Value} {xs : List α} {W W' : World} {row : Option Nat} (h : d.R e W base ok v xs) (hg : W.grownBy W' row) (hr : ∀ r, row = some r → ∃ o : Obj, W.heap[r]? = some o ∧ o.isCells = false) : d.R e W' base ok v xs :=
  Kd.R_mono (Kd.R_grown (Kd.R_bound h) hg (fun k hk e => by
    obtain ⟨_, _, _, q, _, cells, hc⟩ := hk
    obtain ⟨o, ho, hoc⟩ := hr k e.symm
    rw [hc] at ho
    injection ho with ho
    subst ho
    cases hoc)) (fun _ hk => hk.1)
set_option maxHeartbeats 4000000 in
set_option maxRecDepth 100000 in
theorem read_in {w : World} {base g : Nat} {ok : Nat → Prop} {d : DS} (h : DiskAt w base ok g d) (i : Nat) (hi : i < d.S.length) :
    Calls Try.prog 36 #[.pointer (some ⟨g, 0, none⟩), .int .i64 (i : Int)] w fun e w' => ∃ v0, e = .returned v0 ∧ (Kd.int .u8).R 5 w' w.heap.size (fun _ => True) v0 (d.rd (i : Int)) ∧ Below w.heap.size w w' := by
  have hrd : d.rd (i : Int) = (DS.lastP (i : Int) d.P).getD (d.S.getD i []) := by unfold DS.rd; rw [if_pos (by omega), Int.toNat_natCast]
  obtain ⟨vS, vP, vL, ss, h1, h2, h3, h4, h5⟩ := h
  obtain ⟨A, c, pw, rfl, hPn, hA, hpw⟩ := pw_of h4 h5
  obtain ⟨kq, q, cap, hkq, rfl, hq, hsec⟩ := sec_value h4 i hi
  have hS16 : (d.S.getD i []).length = 16 := DS.getD_len h5.1 hi
  have hc0 : w.cell? ⟨g, 0, none⟩ = some (.slice (some ⟨q, 0, none⟩) d.S.length cap) := (blk_cell h1 0).trans rfl
  have hc1 : w.cell? ⟨g, 1, none⟩ = some (.slice A d.P.length c) := (blk_cell h1 1).trans rfl
  have hgl : g < w.heap.size := (Array.getElem?_eq_some_iff.1 h1).1
  have hne1 : g ≠ w.heap.size := by omega
  have hne2 : g ≠ w.heap.size + 1 := by omega
  have hd : decide ((i : Int) < 0) = false := decide_eq_false (by omega)
  have hd1 : decide ((d.S.length : Int) ≤ (i : Int)) = false := decide_eq_false (by omega)
  have hd2 : decide ((i : Int) ≥ (d.S.length : Int)) = false := decide_eq_false (by omega)
  have hd3 : decide (d.S.length ≤ i) = false := decide_eq_false (by omega)
  obtain ⟨sb, hsb⟩ : ∃ sb, sb = d.S.getD i [] := ⟨_, rfl⟩
  rw [← hsb] at hsec hS16 hrd
  have HPW := Aside0.mk hpw
  have HA := Aside0.mk hA
  have HRD := Aside0.mk hrd
  have H16 := Aside0.mk hS16
  have HSEC := Aside0.mk hsec
  have HP5 := Aside0.mk h5
  have HPN := Aside0.mk hPn
  have HQ := Aside0.mk hq
  have HI := Aside0.mk hi
  clear h1 h2 h3 h4 h5 hpw hA hrd hS16 hsec hPn hkq hsb
  rw [HRD.out]
  refine (callsIn_wide (n := 6)).1 (callsIn_of_wp_marks Try.func36 rfl trivial ?_ rfl)
  simp only [Try.ntmps36, List.size_toArray, List.length_cons, List.length_nil, Nat.reduceAdd, Nat.reduceSub, Array.replicate_succ, Array.replicate_zero, List.push_toArray, List.append_toArray, List.nil_append, List.cons_append]
  refine wpIn_wide.2 ?_
  go_wp2_with fail
  go_quiet (fail)
  go_wp2_with (go_at_call 52; refine (back_any _ _ _ _).mono ?_; rintro e w' ⟨rfl, rfl⟩)
  obtain ⟨W0, hW0⟩ : ∃ W0, W0 = (((w.alloc (.cells #[.int .i64 (i : Int)] 3)).alloc (.cells #[.slice none 0 0] 22)).drewN nq).alloc (.cells #[.slice A d.P.length c] 49) := ⟨_, rfl⟩
  have hB0 : Below w.heap.size w W0 := by rw [hW0]; exact below_alloc (pw_below_drewN (below_alloc (below_alloc (Below.refl _ _) _) _) _) _
  have hsz : W0.heap.size = w.heap.size + 1 + 1 + 1 := by rw [hW0]; simp
  have b1 : Boxed W0 w.heap.size 3 (.int .i64 (i : Int)) := by rw [hW0]; exact blk_alloc (blk_drewN (blk_alloc (blk_new w _) _) nq) _
  have b2 : Boxed W0 (w.heap.size + 1) 22 (.slice none 0 0) := by rw [hW0]; exact blk_alloc (blk_drewN (by have := blk_new (w.alloc (.cells #[.int .i64 (i : Int)] 3)) (.cells #[.slice none 0 0] 22); rwa [World.size_alloc] at this) nq) _
  have b3 : W0.cell? ⟨w.heap.size + 1 + 1, 0, none⟩ = some (.slice A d.P.length c) := by
    rw [hW0]
    have := blk_new (((w.alloc (.cells #[.int .i64 (i : Int)] 3)).alloc (.cells #[.slice none 0 0] 22)).drewN nq) (.cells #[.slice A d.P.length c] 49)
    have e : (((w.alloc (.cells #[.int .i64 (i : Int)] 3)).alloc (.cells #[.slice none 0 0] 22)).drewN nq).heap.size = w.heap.size + 1 + 1 := by simp
    rw [e] at this
    exact blk_cell this 0
  rw [← hW0]
  clear hW0
  have hA0 : 0 < d.P.length → ∃ ad, A = some ad ∧ PAt W0.heap.size d.P.length W0 ad pw := fun h0 => by
    obtain ⟨ad, e, hp⟩ := HA.out h0
    have hp2 := hp.below hB0
    exact ⟨ad, e, by have := hp2.1; omega, hp2.2⟩
  refine (wpIn_wide (n := 6)).1 ?_
  refine wpIn_rangeFunc_ownH rfl (by omega) (gf := 57) (lb := #[.pointer (some ⟨w.heap.size + 1 + 1, 0, none⟩)]) rfl trivial (enters_of Try.func57 (by kernel_rfl) rfl)
    (back_stops 5 (by omega) (w.heap.size + 1 + 1) W0.heap.size d.P.length c A pw HPN.out W0 b3 (by omega) (Nat.le_refl _) hA0) belowK_t (belowK_b (Nat.le_refl _)) (Below.refl _ _) (fun _ => rfl)
    (fun pre W => ((∀ x, x ∈ pre → (pw x.1).i ≠ (i : Int)) ∧ Boxed W w.heap.size 3 (.int .i64 (i : Int)) ∧ Boxed W (w.heap.size + 1) 22 (.slice none 0 0)) ∧ Below W0.heap.size W0 W)
    (fun c pre W => (c = .ret ∧ ∃ ini last v, pre = ini ++ [last] ∧ (∀ x, x ∈ ini → (pw x.1).i ≠ (i : Int)) ∧ (pw last.1).i = (i : Int) ∧ Boxed W (w.heap.size + 1) 22 v ∧ (Kd.int .u8).R 5 W w.heap.size (fun _ => True) v (d.P.getD last.1 (0, [])).2) ∧ Below w.heap.size w W)
    (OwnFrom.and (Own.from (fun s X Y row hs hg hr => ⟨hs.1, boxed_own w.heap.size 3 (fun (_ : Unit) => Value.int .i64 (i : Int)) () X Y row hs.2.1 hg hr, boxed_own (w.heap.size + 1) 22 (fun (_ : Unit) => Value.slice none 0 0) () X Y row hs.2.2 hg hr⟩) _) (ownFrom_below (Nat.le_refl _) (Nat.le_refl _)))
    (fun c => OwnFrom.and (Own.from (fun s X Y row hs hg hr => by obtain ⟨hc, ini, last, v, e1, e2, e3, e4, e5⟩ := hs; exact ⟨hc, ini, last, v, e1, e2, e3, boxed_own (w.heap.size + 1) 22 (fun (_ : Unit) => v) () X Y row e4 hg hr, R_ownK e5 hg hr⟩) _) (ownFrom_below (Nat.le_refl _) (by omega)))
    ⟨⟨(fun x hx => by cases hx), b1, b2⟩, Below.refl _ _⟩
    (fun x a' W => ∃ Bx, W0.heap.size ≤ Bx ∧ W.heap[Bx]? = some (.cells #[.int .i64 (pw x.1).i, .slice (some (pw x.1).a) 16 (pw x.1).c] 80 (0, 0)) ∧ a' = { tmps := #[.pointer (some ⟨g, 0, none⟩), .int .i64 (i : Int), undef, .pointer (some ⟨w.heap.size, 0, none⟩), .pointer (some ⟨w.heap.size + 1, 0, none⟩), undef, .pointer (some ⟨Bx, 0, none⟩), .pointer (some ⟨g, 0, none⟩), .bool false, .bool false, .int .i64 (i : Int), .bool false, .bool false, .bool false, .int .i64 (i : Int), .pointer (some ⟨g, 0, none⟩), .pointer (some ⟨g, 0, none⟩), .pointer (some ⟨g, 0, none⟩), .slice (some ⟨q, 0, none⟩) d.S.length cap, .int .i64 (d.S.length : Int), .bool false, .bool false, .pointer (some ⟨g, 0, none⟩), .pointer (some ⟨g, 0, none⟩), .pointer (some ⟨g, 1, none⟩), .slice A d.P.length c, .func (.func 57) #[] #[.pointer (some ⟨w.heap.size + 1 + 1, 0, none⟩)], .int .i64 (x.1 : Int), (pw x.1).val, undef, undef, undef, undef, undef, undef, undef, undef, undef, undef, undef, undef, undef, undef, undef], defers := [] })
    (fun x a' _ X Y row hs hg hr => by obtain ⟨Bx, h1, h2, h3⟩ := hs; exact ⟨Bx, h1, (hg.block Bx (Array.getElem?_eq_some_iff.1 h2).1 (fun e => by obtain ⟨_, o, ho, hoc⟩ := hr Bx e.symm; rw [h2] at ho; injection ho with ho; subst ho; cases hoc)).trans h2, h3⟩)
    ?assign ?body ?done ?stop
  case assign =>
    rintro l pre x W K ⟨⟨hp, c1, c2⟩, hB⟩ hK
    unfold PW.val
    gi_wp2
    exact hK _ _ ((KeepsOthers.alloc _ _).from _) ((Below.refl _ W).alloc hB.size _) ⟨⟨hp, c1.alloc _, c2.alloc _⟩, hB.alloc hB.size _⟩ ⟨W.heap.size, hB.size, blk_new W _, rfl⟩
  case body =>
    rintro l pre x a' W hl ⟨r, hr⟩ ⟨⟨hp, c1, c2⟩, hB⟩ ⟨Bx, hBx, bX, rfl⟩ hlt
    have cI := c1.cell
    have cR := c2.cell
    have fR := c2.frozen
    have cX0 : W.cell? ⟨Bx, 0, none⟩ = some (.int .i64 (pw x.1).i) := (blk_cell bX 0).trans rfl
    have cX1 : W.cell? ⟨Bx, 1, none⟩ = some (.slice (some (pw x.1).a) 16 (pw x.1).c) := (blk_cell bX 1).trans rfl
    have h1' : 1 ≤ 6 - 1 - 1 := by omega
    by_cases hx : (pw x.1).i = (i : Int)
    · have hb : ((pw x.1).i == (i : Int)) = true := by rw [hx]; simp
      obtain ⟨q1, q2, q3⟩ := HPW.out x.1 x.2
      have hl16 : (d.P.getD x.1 (0, [])).2.length = 16 := by
        have hm : d.P.getD x.1 (0, []) ∈ d.P := by rw [List.getD_eq_getElem?_getD, List.getElem?_eq_getElem x.2]; exact List.getElem_mem x.2
        exact (HP5.out.2 _ hm).2.2
      have HCL : Aside0 (bytes_Clone.f (d.P.getD x.1 (0, [])).2 = some (d.P.getD x.1 (0, [])).2) := ⟨by rw [bytes_Clone.f, Option.bind_some, if_pos (by simp only [List.length_nil, Nat.zero_add]; omega), List.nil_append]⟩
      have HC3 := Aside0.mk (Kd.C_below q3 ((hB0.trans (hB.mono (by omega)))))
      have HL16 := Aside0.mk hl16
      have HQ2 := Aside0.mk q2
      have HX := Aside0.mk hx
      have HPR := Aside0.mk hp
      have HBW := Aside0.mk (hB0.trans (hB.mono (by omega)))
      have HC2 := Aside0.mk c2
      have HSZ := Aside0.mk hB.size
      clear q1 q2 q3 hl16 hp hx
      gi_wp2_with (refine ⟨trivial, ?_⟩; gi_at_call 38; refine (CallsIn.inRound l (callsIn_wide.2 (by have h := bytes_Clone.calls (some (pw x.1).a) (pw x.1).c (d.P.getD x.1 (0, [])).2 (d.P.getD x.1 (0, [])).2 W HC3.out (by have := HQ2.out; have := HL16.out; omega) HCL.out; rw [HL16.out] at h; exact h))).mono ?_; rintro e w2 ⟨v0, rfl, ho, hb2⟩; have HO2 := Aside0.mk ho; have HB2 := Aside0.mk hb2; have cR2 : w2.cell? ⟨w.heap.size + 1, 0, none⟩ = some (.slice none 0 0) := (blk_cell (blk_below HC2.out HB2.out) 0).trans rfl; have fR2 : w2.frozen? ⟨w.heap.size + 1, 0, none⟩ = false := blk_frozen (blk_below HC2.out HB2.out) 0; obtain ⟨A0, c0, hv0, -, -⟩ := Kd.R_reads ho; subst hv0; clear ho hb2)
      have hKF : KeepsFrom W0.heap.size W w2 := ⟨HB2.out.size, fun k o _ hk _ => (HB2.out.block k (Array.getElem?_eq_some_iff.1 hk).1).trans hk⟩
      have hR : (Kd.int .u8).R 5 (w2.setCell ⟨w.heap.size + 1, 0, none⟩ (.slice A0 (d.P.getD x.1 (0, [])).2.length c0)) w.heap.size (fun _ => True) (.slice A0 (d.P.getD x.1 (0, [])).2.length c0) (d.P.getD x.1 (0, [])).2 :=
        Kd.R_mono (Kd.R_far (p := ⟨w.heap.size + 1, 0, none⟩) (ok := fun k => W.heap.size ≤ k) (Kd.R_lower (Kd.R_mono (Kd.R_bound HO2.out) (fun k hk => hk.2.1)) (by have := HSZ.out; omega)) (fun k hk => by have := HSZ.out; show k ≠ w.heap.size + 1; omega) _) (fun _ _ => trivial)
      exact ⟨hKF.trans ((KeepsOthers.setCell _ _ _).from _), ⟨rfl, pre, x, _, rfl, HPR.out, HX.out, Boxed.set _ (blk_below HC2.out HB2.out), hR⟩, ((below_step HBW.out HB2.out).setCell (p := ⟨w.heap.size + 1, 0, none⟩) (Nat.le_succ _) _)⟩
    · have hb : ((pw x.1).i == (i : Int)) = false := beq_eq_false_iff_ne.2 hx
      have HX := Aside0.mk hx
      clear hx
      gi_wp2
      exact ⟨KeepsFrom.refl _ _, Below.refl _ _, ⟨fun y hy => (List.mem_append.1 hy).elim (hp y) (fun e => by rw [List.mem_singleton.1 e]; exact HX.out), c1, c2⟩, hB⟩
  case done =>
    rintro D ys W hD hys ⟨⟨hne, c1, c2⟩, hB⟩ hK
    have hno : DS.lastP (i : Int) d.P = none := lastP_none _ _ (fun j hj => by
      have hm : j ∈ ys.map (fun x => x.1) := by
        rw [hys, dn, List.mem_map]
        exact ⟨d.P.length - 1 - j, List.mem_range.2 (by omega), by omega⟩
      obtain ⟨x, hx, e⟩ := List.mem_map.1 hm
      have h1 := hne x hx
      rw [e, (HPW.out j hj).1] at h1
      exact h1)
    have hBw := hB0.trans (hB.mono (by omega))
    have cI := c1.cell
    have cR := c2.cell
    have fR := c2.frozen
    have hg0 : W.cell? ⟨g, 0, none⟩ = some (.slice (some ⟨q, 0, none⟩) d.S.length cap) := pw_cell_below hBw hc0
    have hq0 : W.cell? ⟨q, i, none⟩ = some (.slice (some ⟨kq, 0, none⟩) 16 16) := pw_cell_below hBw hq
    have hp3 : (0 : Int) ≤ (i : Int) := by omega
    have hp4 : (i : Int) < (d.S.length : Int) := by omega
    have HCS : Aside0 ((Kd.int .u8).C W (some ⟨kq, 0, none⟩) sb.length sb) := ⟨Kd.C_below (Kd.C_int_cells HSEC.out rfl (by have := H16.out; omega)) hBw⟩
    have HCL : Aside0 (bytes_Clone.f sb = some sb) := ⟨by rw [bytes_Clone.f, Option.bind_some, if_pos (by have := H16.out; simp only [List.length_nil, Nat.zero_add]; omega), List.nil_append]⟩
    have HC2 := Aside0.mk c2
    have HBW := Aside0.mk hBw
    have HDK := Aside0.mk hK
    have HDD := Aside0.mk hD
    have HSZ := Aside0.mk hsz
    have HNO := Aside0.mk hno
    have HW0 := Aside0.mk hB.size
    clear hno hne hys c1 c2 hK hBw hB hD hsz b1 b2 b3 hA0 hB0 hc0 hq
    go_upto_region 7 with (fail)
    refine wp_region_noPanic ?_
    go_region_law (go_simp; go_at_call 38; refine (show Calls Try.prog 38 #[.slice (some ⟨kq, 0, none⟩) 16 16] W.drew (fun e w' => ∃ v0_ : Value, e = .returned v0_ ∧ (Kd.int .u8).R 5 w' W.heap.size (fun _ => True) v0_ sb ∧ Below W.heap.size W w') from (by have h := bytes_Clone.calls (some ⟨kq, 0, none⟩) 16 sb sb W.drew (Kd.C_below HCS.out (below_drew1 (Below.refl _ _))) (Nat.le_of_eq H16.out) HCL.out; rw [H16.out] at h; exact h.mono (fun e w' ⟨v, h1, h2, h3⟩ => ⟨v, h1, h2, (below_drew1 (Below.refl _ _)).trans h3⟩))).mono ?_; rintro e w2 ⟨v0, rfl, ho, hb2⟩; have HO2 := Aside0.mk ho; have HB2 := Aside0.mk hb2; have cR2 : w2.cell? ⟨w.heap.size + 1, 0, none⟩ = some (.slice none 0 0) := (blk_cell (blk_below HC2.out HB2.out) 0).trans rfl; have fR2 : w2.frozen? ⟨w.heap.size + 1, 0, none⟩ = false := blk_frozen (blk_below HC2.out HB2.out) 0; obtain ⟨A0, c0, hv0, -, -⟩ := Kd.R_reads ho; subst hv0; clear ho hb2)
    all_goals
      refine NoPanic.normal ?_
      go_wp2
      have hK2 : (w2.setCell ⟨w.heap.size + 1, 0, none⟩ (.slice A0 sb.length c0)).heap[D]? = some (.deferred (some [])) := (Below.heap_setCell _ _ _ _ (by have := HSZ.out; have := HDD.out; show D ≠ w.heap.size + 1; omega)).trans (blk_below HDK.out HB2.out)
      have hbx : Boxed (w2.setCell ⟨w.heap.size + 1, 0, none⟩ (.slice A0 sb.length c0)) (w.heap.size + 1) 22 (.slice A0 sb.length c0) := Boxed.set _ (blk_below HC2.out HB2.out)
      have hR : (Kd.int .u8).R 5 (w2.setCell ⟨w.heap.size + 1, 0, none⟩ (.slice A0 sb.length c0)) w.heap.size (fun _ => True) (.slice A0 sb.length c0) sb :=
        Kd.R_mono (Kd.R_far (p := ⟨w.heap.size + 1, 0, none⟩) (ok := fun k => W.heap.size ≤ k) (Kd.R_lower (Kd.R_mono (Kd.R_bound HO2.out) (fun k hk => hk.2.1)) (by have := HW0.out; have := HSZ.out; omega)) (fun k hk => by have := HW0.out; have := HSZ.out; show k ≠ w.heap.size + 1; omega) _) (fun _ _ => trivial)
      have hgP := grownBy_putObj' (w2.setCell ⟨w.heap.size + 1, 0, none⟩ (.slice A0 sb.length c0)) D (.deferred none)
      have hrP : ∀ r, some D = some r → ∃ o : Obj, (w2.setCell ⟨w.heap.size + 1, 0, none⟩ (.slice A0 sb.length c0)).heap[r]? = some o ∧ o.isCells = false := fun r e => by cases e; exact ⟨_, hK2, rfl⟩
      refine ⟨by simp, .inl ⟨_, _, rfl, run_takeDeferred hK2, ?_⟩⟩
      have hc5 := cell_kept hbx.cell hgP hrP
      refine ⟨.slice A0 sb.length c0, ?_, _, rfl, ?_, ?_⟩
      · simp [results, Try.f36, go_sem] at hc5 ⊢
        rw [hc5]
      · rw [HNO.out]
        exact R_ownK hR hgP hrP
      · exact ((below_step HBW.out HB2.out).setCell (p := ⟨w.heap.size + 1, 0, none⟩) (Nat.le_succ _) _).trans (belowK_b (w := w) (Nat.le_refl _) _ D _ _ (by have := HSZ.out; have := HDD.out; omega) hK2 rfl rfl)
  case stop =>
    rintro D cx pre W hD ⟨k, hk, hpre⟩ ⟨⟨rfl, ini, last, v, e1, e2, e3, hbx, hR⟩, hB⟩ hK
    have hlast : DS.lastP (i : Int) d.P = some (d.P.getD last.1 (0, [])).2 := by
      have hpm : ini.map (fun x => x.1) ++ [last.1] = dn d.P.length k := by rw [← hpre, e1, List.map_append]; rfl
      obtain ⟨k', rfl⟩ : ∃ k', k = k' + 1 := by
        cases k with
        | zero => simp [dn] at hpm
        | succ k' => exact ⟨k', rfl⟩
      rw [dn_succ] at hpm
      obtain ⟨e5, e6⟩ := List.append_inj' hpm rfl
      have e7 : last.1 = d.P.length - 1 - k' := by simpa using e6
      refine lastP_at _ _ last.1 last.2 ((HPW.out last.1 last.2).1.symm.trans e3) (fun j h1 h2 => ?_)
      have hm : j ∈ ini.map (fun x => x.1) := by
        rw [e5, dn, List.mem_map]
        exact ⟨d.P.length - 1 - j, List.mem_range.2 (by omega), by omega⟩
      obtain ⟨x, hx, e⟩ := List.mem_map.1 hm
      have h3 := e2 x hx
      rw [e, (HPW.out j h2).1] at h3
      exact h3
    refine wpIn_wide.2 ?_
    go_wp2
    have hgP := grownBy_putObj' W D (.deferred none)
    have hrP : ∀ r, some D = some r → ∃ o : Obj, W.heap[r]? = some o ∧ o.isCells = false := fun r e => by cases e; exact ⟨_, hK, rfl⟩
    refine ⟨by simp, .inl ⟨_, _, rfl, run_takeDeferred hK, ?_⟩⟩
    have hc5 := cell_kept hbx.cell hgP hrP
    refine ⟨v, ?_, _, rfl, ?_, ?_⟩
    · simp [results, Try.f36, go_sem] at hc5 ⊢
      rw [hc5]
    · rw [hlast]
      exact R_ownK hR hgP hrP
    · exact hB.trans (belowK_b (w := w) (Nat.le_refl _) W D _ _ (by omega) hK rfl rfl)
theorem read_any {w : World} {base g : Nat} {ok : Nat → Prop} {d : DS} (h : DiskAt w base ok g d) (i : Int) :
    Calls Try.prog 36 #[.pointer (some ⟨g, 0, none⟩), .int .i64 i] w fun e w' => ∃ v0, e = .returned v0 ∧ (Kd.int .u8).R 5 w' w.heap.size (fun _ => True) v0 (d.rd i) ∧ Below w.heap.size w w' := by
  by_cases hi : 0 ≤ i ∧ i < (d.S.length : Int)
  · obtain ⟨m, rfl⟩ : ∃ m : Nat, i = (m : Int) := ⟨i.toNat, by omega⟩
    exact read_in h m (by omega)
  · have e : d.rd i = [] := by unfold DS.rd; rw [if_neg hi]
    rw [e]
    exact read_out h i (by omega)
end Go.Proofs.Ytkicekddkgehoaa.Hnd
