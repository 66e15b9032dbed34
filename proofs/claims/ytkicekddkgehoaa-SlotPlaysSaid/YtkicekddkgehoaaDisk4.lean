/- Contracts of the calls, by hand. -/
import Derived.Test.YtkicekddkgehoaaQSlotLastx1
import Derived.Test.YtkicekddkgehoaaDisk3
namespace Go.Proofs.Ytkicekddkgehoaa.Hnd
open Go.RowKit Go.Proofs.Ytkicekddkgehoaa.QSlotLast Go.Proofs.YtkicekddkgehoaaW.PrintWords Go.Proofs.YtkicekddkgehoaaW.PrintLast Go.Proofs.YtkicekddkgehoaaW.Dk 
set_option linter.unusedVariables false
set_option linter.unusedSimpArgs false
theorem lay_all {b s : List Int} (hb : b.length = 16) (hs : s.length = 16) : DS.lay b s 16 = b := by
  unfold DS.lay
  rw [List.take_of_length_le (by omega), List.drop_of_length_le (by omega), List.append_nil]
def FlInv (w wr : World) (base g : Nat) (ok : Nat → Prop) (d : DS) (vS vP vL : Value) (ss : List Nat) (k : Nat) (S' : List (List Int)) : Prop :=
  DS.flushed S' (d.P.drop k) = DS.flushed d.S d.P ∧ DS.Fit S' (d.P.drop k) ∧ wr.heap[g]? = some (.cells (dcells vS vP vL d) 51 (0, 0)) ∧ DiskIn wr base (fun k => ok k ∧ k ≠ g) vS vP vL S' d.P d.left ss ∧ KeptB ok w wr
set_option maxHeartbeats 4000000 in
set_option maxRecDepth 100000 in
theorem flush_any {w : World} {base g : Nat} {ok : Nat → Prop} {d0 : DS} (h : DiskAt w base ok g d0) :
    Calls Try.prog 34 #[.pointer (some ⟨g, 0, none⟩)] w fun e w' => e = .returned (.int .i64 d0.fl.2) ∧ DiskAt w' base ok g d0.fl.1 ∧ KeptB ok w w' := by
  have HD := Aside0.mk h
  by_cases h1 : d0.down = true
  · have e : d0.fl = (d0, 5) := by unfold DS.fl; rw [if_pos h1]
    have HDN := Aside0.mk h1
    rw [e]
    clear e h h1
    go_enter Try.func34, Try.ntmps34
    go_wp2_with (go_at_call 48; refine (down_any HD.out).mono ?_; rw [HDN.out]; rintro e w' ⟨rfl, rfl⟩)
    go_ret
    exact ⟨rfl, HD.out, KeptB.refl _ _⟩
  · have h1f : d0.down = false := by simpa using h1
    have HDN := Aside0.mk h1f
    by_cases h5 : d0.bad = true
    · have e : d0.fl = (d0.crashed, 5) := by unfold DS.fl; rw [if_neg h1, if_pos h5]
      have HBD := Aside0.mk h5
      rw [e]
      clear e h h1 h1f h5
      go_enter Try.func34, Try.ntmps34
      go_wp2_with (first | (go_at_call 48; refine (down_any HD.out).mono ?_; rw [HDN.out]; rintro e w' ⟨rfl, rfl⟩) | (go_at_call 49; refine (crashes_bad HD.out HBD.out).mono ?_; rintro e w1 ⟨rfl, hd1, hk1⟩; have HD1 := Aside0.mk hd1; have HK1 := Aside0.mk hk1; clear hd1 hk1))
      go_ret
      exact ⟨rfl, HD1.out, HK1.out⟩
    · have h5f : d0.bad = false := by simpa using h5
      have e : d0.fl = ({ d0.counted with S := DS.flushed d0.S d0.P, P := [] }, 0) := by unfold DS.fl; rw [if_neg h1, if_neg h5]
      have HOK := Aside0.mk (DS.fl_ok h.isOk)
      rw [e] at HOK ⊢
      have HBD := Aside0.mk h5f
      obtain ⟨d, hd⟩ : ∃ d, d = d0.counted := ⟨_, rfl⟩
      have hdS : d0.S = d.S := by rw [hd]; rfl
      have hdP : d0.P = d.P := by rw [hd]; rfl
      rw [← hd, hdS, hdP] at HOK ⊢
      have HDC := Aside0.mk hd
      clear e h h1 h1f h5 h5f hd hdS hdP
      go_enter Try.func34, Try.ntmps34
      go_upto_region 3 with (first | (go_at_call 48; refine (down_any HD.out).mono ?_; rw [HDN.out]; rintro e w' ⟨rfl, rfl⟩) | (go_at_call 49; refine (crashes_not HD.out HBD.out).mono ?_; rw [← HDC.out]; rintro e w1 ⟨rfl, hd1, hk1⟩; have HD1 := Aside0.mk hd1; have HK1 := Aside0.mk hk1; clear hd1 hk1))
      clear HD HBD HDN HDC
      obtain ⟨vS, vP, vL, ss, q1, q2, q3, q4, q5⟩ := HD1.out
      obtain ⟨A, c, rfl, hlc, hC⟩ := Kd.R_reads q4.2.2.2.2.2.1
      have hc1 : w1.cell? ⟨g, 1, none⟩ = some (.slice A d.P.length c) := (blk_cell q1 1).trans rfl
      have H2 := Aside0.mk q2
      have H3 := Aside0.mk q3
      have HI : Aside0 (FlInv w w1 base g ok d vS (.slice A d.P.length c) vL ss 0 d.S) := ⟨rfl, q5, q1, q4, HK1.out⟩
      clear q1 q2 q3 q4 q5 hlc hC HD1 HK1
      go_wp2
      go_loopw [16] (fun u16 wr => ∃ (k : Nat) (S' : List (List Int)), u16 = .int .i64 (k : Int) ∧ Aside0 (k ≤ d.P.length) ∧ Aside0 (FlInv w wr base g ok d vS (.slice A d.P.length c) vL ss k S')) (fun u16 _ => d.P.length + 1 - (intOf u16).toNat)
      case atStart => exact ⟨0, d.S, rfl, ⟨Nat.zero_le _⟩, HI⟩
      case round =>
        clear hc1 HI
        obtain ⟨k, S', rfl, HK, HI⟩ := hrel
        by_cases hlt : k < d.P.length
        · have hp : d.P.drop k = d.P.getD k (0, []) :: d.P.drop (k + 1) := by
            rw [List.drop_eq_getElem_cons hlt, List.getD_eq_getElem?_getD, List.getElem?_eq_getElem hlt]
            rfl
          obtain ⟨i1, i2, i3, i4, i5⟩ := HI.out
          rw [hp] at i1 i2
          obtain ⟨f1, f2, f3⟩ := i2.head
          obtain ⟨A', c', hv, hlc, hC⟩ := Kd.R_reads i4.2.2.2.2.2.1
          injection hv with hA hl0 hc0
          subst hA hc0
          clear hl0
          obtain ⟨ad, ad', cb, rfl, hx0, hx1, hcb, hCb⟩ := write_at hC k hlt f3
          obtain ⟨i, hi⟩ : ∃ i : Nat, (d.P.getD k (0, [])).1 = (i : Int) := ⟨(d.P.getD k (0, [])).1.toNat, by omega⟩
          have hiS : i < S'.length := by omega
          obtain ⟨kq, q, cap, hkq, rfl, hq, hsec⟩ := sec_value i4 i hiS
          generalize hpp : d.P.getD k (0, []) = p at *
          rw [hi] at hx0
          have hd : decide ((k : Int) < (d.P.length : Int)) = true := decide_eq_true (by omega)
          have hp8 : (k : Int) + 1 ≤ 9223372036854775807 := by have := hC.2.1; omega
          have hp1 : (0 : Int) ≤ (k : Int) := by omega
          have hp2 : (k : Int) < (d.P.length : Int) := by omega
          have hp3 : (0 : Int) ≤ (i : Int) := by omega
          have hp4 : (i : Int) < (S'.length : Int) := by omega
          have hlay : DS.lay p.2 (S'.getD i []) 16 = p.2 := lay_all f3 (DS.getD_len i2.1 hiS)
          have HSP : Aside0 (DS.flushed (S'.set i p.2) (d.P.drop (k + 1)) = DS.flushed d.S d.P) := ⟨by rw [← i1, DS.flushed, hi, Int.toNat_natCast]⟩
          have HFT : Aside0 (DS.Fit (S'.set i p.2) (d.P.drop (k + 1))) := ⟨i2.tail.set i f3⟩
          have HLY := Aside0.mk hlay
          have I2 := Aside0.mk i2
          have I3 := Aside0.mk i3
          have I4 := Aside0.mk i4
          have I5 := Aside0.mk i5
          have F3 := Aside0.mk f3
          have KQ := Aside0.mk hkq
          have CB := Aside0.mk hCb
          clear i1 i2 i3 i4 i5 f1 f2 f3 hlc hC hkq hCb hsec hpp hp HI hi hlay
          go_upto_region 6 with (fail)
          obtain ⟨W0, hW0⟩ : ∃ W0, W0 = wr.alloc (.cells #[.int .i64 (i : Int), .slice (some ad') 16 cb] 80) := ⟨_, rfl⟩
          have hWb : Below wr.heap.size wr W0 := by rw [hW0]; exact below_alloc (Below.refl _ _) _
          have hWn : W0.heap[wr.heap.size]? = some (.cells #[.int .i64 (i : Int), .slice (some ad') 16 cb] 80 (0, 0)) := by rw [hW0]; exact blk_new wr _
          rw [← hW0]
          clear hW0
          have J3 : W0.heap[g]? = some (.cells (dcells (.slice (some ⟨q, 0, none⟩) S'.length cap) (.slice (some ad) d.P.length c) vL d) 51 (0, 0)) := blk_below I3.out hWb
          have J4 : DiskIn W0.drew base (fun k => ok k ∧ k ≠ g) (.slice (some ⟨q, 0, none⟩) S'.length cap) (.slice (some ad) d.P.length c) vL S' d.P d.left ss := I4.out.step (fun k _ hk => hWb.block k hk)
          obtain ⟨hcp, J5, hokk, hbk, hltk⟩ := copied J4 I2.out.1 i kq 16 cb hiS KQ.out ad' p.2 F3.out (Nat.le_refl _) (Kd.C_below CB.out (hWb.trans (below_drew1 (Below.refl _ _)))) 3
          rw [HLY.out] at J5
          have hc0 : W0.cell? ⟨g, 0, none⟩ = some (.slice (some ⟨q, 0, none⟩) S'.length cap) := (blk_cell J3 0).trans rfl
          have hb0 : W0.cell? ⟨wr.heap.size, 0, none⟩ = some (.int .i64 (i : Int)) := (blk_cell hWn 0).trans rfl
          have hb1 : W0.cell? ⟨wr.heap.size, 1, none⟩ = some (.slice (some ad') 16 cb) := (blk_cell hWn 1).trans rfl
          have hq1 : W0.cell? ⟨q, i, none⟩ = some (.slice (some ⟨kq, 0, none⟩) 16 16) := pw_cell_below hWb hq
          unfold secV at hcp
          have HD := Aside0.mk (I5.out.then_ (KeptB.setCells (((KeptB.refl ok wr).after hWb).drew) (.inl hokk.1) (vs := (p.2.map (Value.int .u8)).take 16) (o := 0)) (fun _ hk => .inl hk))
          have J3d : (W0.drew.setCells kq 0 ((p.2.map (Value.int .u8)).take 16)).heap[g]? = some (.cells (dcells (.slice (some ⟨q, 0, none⟩) S'.length cap) (.slice (some ad) d.P.length c) vL d) 51 (0, 0)) := (setCells_far _ _ g (Ne.symm hokk.2)).trans J3
          have HINV : Aside0 (FlInv w (W0.drew.setCells kq 0 ((p.2.map (Value.int .u8)).take 16)) base g ok d (.slice (some ⟨q, 0, none⟩) S'.length cap) (.slice (some ad) d.P.length c) vL ss (k + 1) (S'.set i p.2)) := ⟨HSP.out, HFT.out, J3d, J5, HD.out⟩
          obtain ⟨vs, hvs⟩ : ∃ vs, vs = (p.2.map (Value.int .u8)).take 16 := ⟨_, rfl⟩
          rw [← hvs] at hcp HINV
          clear hvs J3 J4 J5 J3d hWn hWb hokk hbk hltk HD hq hx0 hx1 I2 I3 I4 I5 HSP HFT CB KQ F3 HLY
          go_region_law (refine Kd.step_copy_run rfl _ _ 22 22 rfl _ _ (by simp [Act.eval, Act.put]) (by simp [Act.eval, Act.put]) hcp ?_)
          all_goals
            go_wp2
            all_goals exact ⟨⟨k + 1, _, by go_num, ⟨by omega⟩, HINV⟩, by simp [intOf]; omega⟩
        · obtain rfl : k = d.P.length := by have := HK.out; omega
          obtain ⟨i1, i2, i3, i4, i5⟩ := HI.out
          rw [List.drop_of_length_le (Nat.le_refl _), DS.flushed] at i1
          subst i1
          have hd : decide ((d.P.length : Int) < (d.P.length : Int)) = false := decide_eq_false (by omega)
          have hf1 : wr.frozen? ⟨g, 1, none⟩ = false := blk_frozen i3 1
          have hc1 : wr.cell? ⟨g, 1, none⟩ = some (.slice A d.P.length c) := (blk_cell i3 1).trans rfl
          have hfin : DiskAt (wr.setCell ⟨g, 1, none⟩ (.slice none 0 0)) base ok g { d with S := DS.flushed d.S d.P, P := [] } ∧ KeptB ok w (wr.setCell ⟨g, 1, none⟩ (.slice none 0 0)) := by
            refine ⟨⟨vS, .slice none 0 0, vL, ss, blk_put i3 1 _ rfl, H2.out, H3.out, ?_, HOK.out⟩, i5.setCell (.inl H3.out) _⟩
            have h := i4.step (w1 := wr.setCell ⟨g, 1, none⟩ (.slice none 0 0)) (fun q hq _ => Below.heap_setCell _ _ _ _ hq.2)
            exact ⟨h.1, h.2.1, h.2.2.1, h.2.2.2.1, h.2.2.2.2.1, Kd.R_nil _ _ _ _ _, h.2.2.2.2.2.2⟩
          have HFIN := Aside0.mk hfin
          clear i2 i3 i4 i5 hlt HI hfin HK
          go_wp2
          go_ret
          exact ⟨rfl, HFIN.out⟩
end Go.Proofs.Ytkicekddkgehoaa.Hnd
