/- Contracts of the calls, by hand. -/
import Derived.Test.YtkicekddkgehoaaQSlotLastx1
import Derived.Test.YtkicekddkgehoaaDisk2
namespace Go.Proofs.Ytkicekddkgehoaa.Hnd
open Go.RowKit Go.Proofs.Ytkicekddkgehoaa.QSlotLast Go.Proofs.YtkicekddkgehoaaW.PrintWords Go.Proofs.YtkicekddkgehoaaW.PrintLast Go.Proofs.YtkicekddkgehoaaW.Dk 
set_option linter.unusedVariables false
set_option linter.unusedSimpArgs false
theorem appended {W w3 : World} {base : Nat} {ok : Nat → Prop} {vS vP vL v1 : Value} {S : List (List Int)} {P P' : List (Int × List Int)} {L : List Int} {ss : List Nat} (h : DiskIn W base ok vS vP vL S P L ss) (hg : W.grownBy w3 vP.ownBlock)
    (hO : kW.R 80 w3 base (fun k => ok k ∧ k ∉ ss) v1 P') : DiskIn w3 base ok vS v1 vL S P' L ss := by
  obtain ⟨inner, hown⟩ := Kd.R_own h.2.2.2.2.2.1
  refine ⟨own_other h.1 hg (own_type_ne h.1 hown (by decide)), h.2.1, h.2.2.1.step (fun k hk => hg.block k (h.2.2.1.lt hk) (fun e => (h.2.2.2.2.2.1.1 k e.symm).2 hk)), h.2.2.2.1, h.2.2.2.2.1, hO, ?_⟩
  cases hb : vP.ownBlock with
  | none =>
    rw [hb] at hg
    exact Kd.R_grown h.2.2.2.2.2.2 hg (fun k _ e => by cases e)
  | some b =>
    rw [hb] at hg
    obtain ⟨cells, hc⟩ := own_typed hown b hb
    exact Kd.R_mono (Kd.R_grown (Kd.R_types h.2.2.2.2.2.2 hc (fun q hq => by simp [Kd.int, Kd.scalar] at hq; subst hq; decide)) hg (fun k hk e => hk.2 (by injection e))) (fun _ hk => hk.1)
theorem info58 : (Try.prog.info? 80).map (fun i => (i.zero, i.size, i.bytes)) = some (some (.agg #[.int .i64 0, .slice none 0 0]), kW.sz, 32) := by kernel_rfl
set_option maxHeartbeats 4000000 in
set_option maxRecDepth 100000 in
theorem write_any {w : World} {base g : Nat} {ok : Nat → Prop} {d : DS} (h : DiskAt w base ok g d) (i : Int) (A : Option Addr) (c : Nat) (b : List Int) (hr : ∀ W_, Kept w W_ ok → (Kd.int .u8).C W_ A b.length b) (hc : b.length ≤ c) (hP : d.P.length < 1099511627776) :
    Calls Try.prog 33 #[.pointer (some ⟨g, 0, none⟩), .int .i64 i, .slice A b.length c] w fun e w' => e = .returned (.int .i64 (d.wr i b).2) ∧ DiskAt w' base (fun k => ok k ∨ w.heap.size ≤ k) g (d.wr i b).1 ∧ KeptB ok w w' := by
  have HD := Aside0.mk h
  have HM := Aside0.mk (h.mono (ok' := fun k => ok k ∨ w.heap.size ≤ k) (fun k hk => .inl hk))
  have HR := Aside0.mk hr
  have HC := Aside0.mk hc
  have HP := Aside0.mk hP
  have hbg := h.base_le
  have hgl := h.lt
  clear hr hc hP
  by_cases h1 : d.down = true
  · have e : d.wr i b = (d, 5) := by unfold DS.wr; rw [if_pos h1]
    have HDN := Aside0.mk h1
    rw [e]
    clear e h h1
    go_enter Try.func33, Try.ntmps33
    go_wp2_with (go_at_call 48; refine (down_any HD.out).mono ?_; rw [HDN.out]; rintro e w' ⟨rfl, rfl⟩)
    go_ret
    exact ⟨rfl, HM.out, KeptB.refl _ _⟩
  · have h1f : d.down = false := by simpa using h1
    have HDN := Aside0.mk h1f
    by_cases h2 : b.length = 16
    · by_cases h3 : i < 0
      · have e : d.wr i b = (d, 4) := by unfold DS.wr; rw [if_neg h1, if_neg (by omega), if_pos (.inl h3)]
        have hd : decide (i < 0) = true := decide_eq_true h3
        have hl : ((b.length : Int) == 16) = true := by simp [h2]
        have hl2 : ((b.length : Int) != 16) = false := by simp [h2]
        rw [e]
        clear e h h1 h1f h3 h2
        go_enter Try.func33, Try.ntmps33
        go_wp2_with (go_at_call 48; refine (down_any HD.out).mono ?_; rw [HDN.out]; rintro e w' ⟨rfl, rfl⟩)
        go_ret
        exact ⟨rfl, HM.out, KeptB.refl _ _⟩
      · obtain ⟨vS, vP, vL, ss, g1, g2, g3, g4, g5⟩ := h
        obtain ⟨AS, cS, hv⟩ := slice_of g4
        subst hv
        have hc0 : w.cell? ⟨g, 0, none⟩ = some (.slice AS d.S.length cS) := (blk_cell g1 0).trans rfl
        have hd : decide (i < 0) = false := decide_eq_false h3
        have hl : ((b.length : Int) == 16) = true := by simp [h2]
        have hl2 : ((b.length : Int) != 16) = false := by simp [h2]
        by_cases h4 : (d.S.length : Int) ≤ i
        · have e : d.wr i b = (d, 4) := by unfold DS.wr; rw [if_neg h1, if_neg (by omega), if_pos (.inr h4)]
          have hd4 : decide (i ≥ (d.S.length : Int)) = true := decide_eq_true h4
          have hd5 : decide ((d.S.length : Int) ≤ i) = true := decide_eq_true h4
          rw [e]
          clear e h1 h1f h2 h3 h4 g1 g2 g3 g4 g5
          go_enter Try.func33, Try.ntmps33
          go_wp2_with (go_at_call 48; refine (down_any HD.out).mono ?_; rw [HDN.out]; rintro e w' ⟨rfl, rfl⟩)
          go_ret
          exact ⟨rfl, HM.out, KeptB.refl _ _⟩
        · have hd4 : decide (i ≥ (d.S.length : Int)) = false := decide_eq_false h4
          have hd5 : decide ((d.S.length : Int) ≤ i) = false := decide_eq_false h4
          by_cases h5 : d.bad = true
          · have e : d.wr i b = (d.crashed, 5) := by unfold DS.wr; rw [if_neg h1, if_neg (by omega), if_neg (by omega), if_pos h5]
            rw [e]
            have HBD := Aside0.mk h5
            clear e h1 h1f h2 h3 h4 g1 g2 g3 g4 g5 h5
            go_enter Try.func33, Try.ntmps33
            go_wp2_with (first | (go_at_call 48; refine (down_any HD.out).mono ?_; rw [HDN.out]; rintro e w' ⟨rfl, rfl⟩) | (go_at_call 49; refine (crashes_bad HD.out HBD.out).mono ?_; rintro e w1 ⟨rfl, hd1, hk1⟩; have HD1 := Aside0.mk hd1; have HK1 := Aside0.mk hk1; clear hd1 hk1))
            go_ret
            exact ⟨rfl, HD1.out.mono (fun k hk => .inl hk), HK1.out⟩
          · have h5f : d.bad = false := by simpa using h5
            have e : d.wr i b = ({ d.counted with P := d.P ++ [(i, b)] }, 0) := by unfold DS.wr; rw [if_neg h1, if_neg (by omega), if_neg (by omega), if_neg h5]
            have HOK := Aside0.mk (DS.wr_ok g5 i b)
            rw [e] at HOK ⊢
            have HBD := Aside0.mk h5f
            have HBL := Aside0.mk h2
            clear e h1 h1f h2 h3 h4 g1 g2 g3 g4 g5 h5 h5f
            go_enter Try.func33, Try.ntmps33
            go_upto_region 9 with (first | (go_at_call 48; refine (down_any HD.out).mono ?_; rw [HDN.out]; rintro e w' ⟨rfl, rfl⟩) | (go_at_call 49; refine (crashes_not HD.out HBD.out).mono ?_; rintro e w1 ⟨rfl, hd1, hk1⟩; have HD1 := Aside0.mk hd1; have HK1 := Aside0.mk hk1; clear hd1 hk1))
            clear hc0
            obtain ⟨vS1, vP1, vL1, ss1, q1, q2, q3, q4, q5⟩ := HD1.out
            have hL1 : g < w1.heap.size := (Array.getElem?_eq_some_iff.1 q1).1
            have HWB := HK1.out.size
            have hcg : w1.cell? ⟨g, 1, none⟩ = some vP1 := (blk_cell q1 1).trans rfl
            have Q1 := Aside0.mk q1
            have Q4 := Aside0.mk q4
            have Q2 := Aside0.mk q2
            have Q3 := Aside0.mk q3
            have HL1 := Aside0.mk hL1
            have HCL : Aside0 (bytes_Clone.f b = some b) := ⟨by rw [bytes_Clone.f, Option.bind_some, if_pos (by have := HBL.out; simp; omega), List.nil_append]⟩
            have HBB : Aside0 ((d.P.length + 1) * 32 ≤ 140737488355328) := ⟨by have := HP.out; omega⟩
            have HWS := Aside0.mk HWB
            clear q1 q2 q3 q4 q5 hL1 HWB
            go_region_law (first
              | (go_simp; go_at_call 38; (refine (bytes_Clone.calls A c b b _ ?s1 HC.out HCL.out).mono ?_); (case s1 => exact HR.out _ (HK1.out.drew).kept); rintro e w2 ⟨v0, rfl, ho, hb⟩; (obtain ⟨A0, c0, hv0, hlc0, hC0⟩ := Kd.R_reads ho); subst hv0; (have HB2 := Aside0.mk ((below_drew1 (Below.refl w1.heap.size w1)).trans hb)); (have HO2 := Aside0.mk ho); (have J1 := Aside0.mk (blk_below Q1.out HB2.out)); (have hcg2 : w2.cell? ⟨g, 1, none⟩ = some vP1 := (blk_cell J1.out 1).trans rfl); (have hcg2a : (w2.alloc (.cells #[.int .i64 i, .slice A0 b.length c0] 80)).cell? ⟨g, 1, none⟩ = some vP1 := (blk_cell (blk_alloc J1.out _) 1).trans rfl); (have J4 := Aside0.mk ((Q4.out.step (w1 := w2) (fun k _ hk => HB2.out.block k hk)).mono (ok' := fun k => (ok k ∨ w.heap.size ≤ k) ∧ k ≠ g) (fun k hk => ⟨.inl hk.1, hk.2⟩))); clear hb ho hlc0 hC0)
              | (refine Kd.R_append_step kW base (by simp [Region.wanted]) (.tmp 33) (.tmp 38) 49 80 _ 32 rfl Try.underlying49 info58 rfl (by decide) (by decide) vP1 d.P (i, b) [.int .i64 i, .slice A0 b.length c0] (fun k => ((ok k ∨ w.heap.size ≤ k) ∧ k ≠ g) ∧ k ∉ ss1) (fun k => w1.heap.size ≤ k ∧ k < w2.heap.size) (by simp [Act.eval, Act.put]) (by simp [Act.eval, Act.put]) ?a1 ?a2 ?a3 J4.out.2.2.2.2.2.1 (Below.refl base _) ?a4 HBB.out ?_; (case a1 => exact ⟨[.int .i64 i], [.slice A0 b.length c0], rfl, rfl, _, rfl, Kd.R_lower (Kd.R_mono (Kd.R_bound HO2.out) (fun k hk => ⟨hk.2.1, hk.2.2.1⟩)) (by have := HWS.out; show base ≤ w1.heap.size; omega)⟩); (case a2 => exact fun k hk => ⟨⟨⟨.inr (Nat.le_trans HWS.out hk.1), by have := HL1.out; omega⟩, fun e => by have := Q4.out.2.2.1.lt e; omega⟩, fun e => by obtain ⟨_, hown⟩ := Kd.R_own Q4.out.2.2.2.2.2.1; have := own_lt hown k e.symm; omega⟩); (case a3 => exact fun k hk => ⟨⟨.inr (by have := HWS.out; have := HB2.out.size; omega), by have := HL1.out; have := HB2.out.size; omega⟩, fun e => by have := Q4.out.2.2.1.lt e; have := HB2.out.size; omega⟩); (case a4 => have := HWS.out; have := HB2.out.size; omega); intro v1 w3 hO1 hB1 hG1 hA1; (obtain ⟨g1, cap1, hv1, hcap1⟩ := Kd.own_some hO1 (by simp)); (rw [List.length_append, List.length_singleton] at hv1); subst hv1; (have K4 := Aside0.mk (appended J4.out hG1 hO1)); (have K1 := Aside0.mk ((hG1.block g (by have := HL1.out; have := HB2.out.size; omega) (fun e => (J4.out.2.2.2.2.2.1.1 g e.symm).1.2 rfl)).trans J1.out)); (have hcg3 : w3.cell? ⟨g, 1, none⟩ = some vP1 := (blk_cell K1.out 1).trans rfl); (have hfg3 : w3.frozen? ⟨g, 1, none⟩ = false := blk_frozen K1.out 1); (have HK3 := Aside0.mk ((HK1.out.after HB2.out).grown hG1 (fun k hk => (J4.out.2.2.2.2.2.1.1 k hk).1.1))); clear hO1 hB1 hG1 hA1 hcap1))
            all_goals
              go_wp2
              go_ret
              exact ⟨rfl, ⟨vS1, _, vL1, ss1, blk_put K1.out 1 _ rfl, Q2.out, .inl Q3.out, K4.out.step (fun k hk _ => Below.heap_setCell _ _ _ _ hk.2), HOK.out⟩, HK3.out.setCell (.inl Q3.out) _⟩
    · have e : d.wr i b = (d, 1) := by unfold DS.wr; rw [if_neg h1, if_pos h2]
      have hl : ((b.length : Int) == 16) = false := by rw [beq_eq_false_iff_ne]; omega
      have hl2 : ((b.length : Int) != 16) = true := by rw [bne_iff_ne]; omega
      rw [e]
      clear e h h1 h1f h2
      go_enter Try.func33, Try.ntmps33
      go_wp2_with (go_at_call 48; refine (down_any HD.out).mono ?_; rw [HDN.out]; rintro e w' ⟨rfl, rfl⟩)
      go_ret
      exact ⟨rfl, HM.out, KeptB.refl _ _⟩
end Go.Proofs.Ytkicekddkgehoaa.Hnd
