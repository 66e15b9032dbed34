/- Contracts of the calls, by hand. -/
import Derived.Test.YtkicekddkgehoaaQSlotLastx1
import Derived.Test.YtkicekddkgehoaaDisk1
namespace Go.Proofs.Ytkicekddkgehoaa.Hnd
open Go.RowKit Go.Proofs.Ytkicekddkgehoaa.QSlotLast Go.Proofs.YtkicekddkgehoaaW.PrintWords Go.Proofs.YtkicekddkgehoaaW.PrintLast Go.Proofs.YtkicekddkgehoaaW.Dk 
set_option linter.unusedVariables false
set_option linter.unusedSimpArgs false
theorem crashes_any {w : World} {base g : Nat} {ok : Nat → Prop} {d : DS} (h : DiskAt w base ok g d) :
    Calls Try.prog 49 #[.pointer (some ⟨g, 0, none⟩)] w fun e w' => e = .returned (.bool d.bad) ∧ DiskAt w' base ok g d.next ∧ KeptB ok w w' := by
  cases hb : d.bad with
  | false =>
    have e : d.next = d.counted := by unfold DS.next; rw [hb]; rfl
    rw [e]
    exact crashes_not h hb
  | true =>
    have e : d.next = d.crashed := by unfold DS.next; rw [hb]; rfl
    rw [e]
    exact crashes_bad h hb
set_option maxHeartbeats 1000000 in
theorem restart_any {w : World} {base g : Nat} {ok : Nat → Prop} {d : DS} (h : DiskAt w base ok g d) :
    Calls Try.prog 18 #[.pointer (some ⟨g, 0, none⟩)] w fun e w' => e = .returned (.tuple #[]) ∧ DiskAt w' base ok g d.restart ∧ KeptB ok w w' := by
  obtain ⟨vS, vP, vL, ss, h1, h2, h3, h4, h5⟩ := h
  have hc1 : w.cell? ⟨g, 1, none⟩ = some vP := (blk_cell h1 1).trans rfl
  have hc2 : w.cell? ⟨g, 2, none⟩ = some (.int .i64 d.N) := (blk_cell h1 2).trans rfl
  have hc3 : w.cell? ⟨g, 3, none⟩ = some (.bool d.down) := (blk_cell h1 3).trans rfl
  have hc4 : w.cell? ⟨g, 4, none⟩ = some (.bool d.armed) := (blk_cell h1 4).trans rfl
  have hf : ∀ i, w.frozen? ⟨g, i, none⟩ = false := fun i => blk_frozen h1 i
  have hf1 := hf 1
  have hf2 := hf 2
  have hf3 := hf 3
  have hf4 := hf 4
  have HF : Aside0 (DiskAt ((((w.setCell ⟨g, 1, none⟩ (.slice none 0 0)).setCell ⟨g, 3, none⟩ (.bool false)).setCell ⟨g, 4, none⟩ (.bool false)).setCell ⟨g, 2, none⟩ (.int .i64 0)) base ok g d.restart ∧ KeptB ok w ((((w.setCell ⟨g, 1, none⟩ (.slice none 0 0)).setCell ⟨g, 3, none⟩ (.bool false)).setCell ⟨g, 4, none⟩ (.bool false)).setCell ⟨g, 2, none⟩ (.int .i64 0))) := by
    refine ⟨⟨vS, .slice none 0 0, vL, ss, blk_put (blk_put (blk_put (blk_put h1 1 _ rfl) 3 _ rfl) 4 _ rfl) 2 _ rfl, h2, h3, ?_, DS.restart_ok h5⟩, ((((KeptB.refl ok w).setCell (.inl h3) _).setCell (.inl h3) _).setCell (.inl h3) _).setCell (.inl h3) _⟩
    have h := h4.step (w1 := (((w.setCell ⟨g, 1, none⟩ (.slice none 0 0)).setCell ⟨g, 3, none⟩ (.bool false)).setCell ⟨g, 4, none⟩ (.bool false)).setCell ⟨g, 2, none⟩ (.int .i64 0)) (fun q hq _ => (((Below.heap_setCell _ _ _ _ hq.2).trans (Below.heap_setCell _ _ _ _ hq.2)).trans (Below.heap_setCell _ _ _ _ hq.2)).trans (Below.heap_setCell _ _ _ _ hq.2))
    exact ⟨h.1, h.2.1, h.2.2.1, h.2.2.2.1, h.2.2.2.2.1, Kd.R_nil _ _ _ _ _, h.2.2.2.2.2.2⟩
  clear h1 h2 h3 h4 h5 hf
  go_enter Try.func18, Try.ntmps18
  go_wp2
  go_end0
  exact ⟨rfl, HF.out⟩
set_option maxHeartbeats 1000000 in
theorem arm_any {w : World} {base g : Nat} {ok : Nat → Prop} {d : DS} (h : DiskAt w base ok g d) (a : Int) (A : Option Addr) (c : Nat) (l : List S63) (hr : Kd.C k63 w A l.length l) (hc : l.length ≤ c) (hl : l.length < 17592186044416) :
    Calls Try.prog 13 #[.pointer (some ⟨g, 0, none⟩), .agg #[.int .i64 a, .slice A l.length c]] w fun e w' => e = .returned (.tuple #[]) ∧ DiskAt w' base (fun k => ok k ∨ w.heap.size ≤ k) g (d.arm a (l.map fun x => x.f0)) ∧ KeptB ok w w' := by
  have HR := Aside0.mk hr
  have HC := Aside0.mk hc
  have HCL : Aside0 (api_Choice.f l = some l) := ⟨by
    rw [api_Choice.f, Option.bind_some, if_pos (by simpa using hl), List.nil_append]⟩
  have hs := h.lt
  have hbw : base ≤ w.heap.size := Nat.le_trans h.base_le (Nat.le_of_lt hs)
  obtain ⟨vS, vP, vL, ss, h1, h2, h3, h4, h5⟩ := h
  have HSS : Aside0 (∀ k, k ∈ ss → k < w.heap.size) := ⟨fun k hk => h4.2.2.1.lt hk⟩
  have G1 := Aside0.mk h1
  have H2 := Aside0.mk h2
  have H3 := Aside0.mk h3
  have G4 := Aside0.mk h4
  have H5 := Aside0.mk h5
  have HBW := Aside0.mk hbw
  clear hr hc hl h1 h2 h3 h4 h5 hbw
  go_enter Try.func13, Try.ntmps13
  go_upto_region 2 with (fail)
  go_region_law (go_simp; go_at_call 25; (refine (api_Choice.calls A c l l _ ?s1 HC.out HCL.out).mono ?_); (case s1 => exact Kd.C_below HR.out (below_drew1 (below_alloc (Below.refl _ _) _))); rintro e w1 ⟨v0, rfl, ho, hb⟩; (obtain ⟨A', c', hv0, hlc, hC⟩ := Kd.R_reads ho); subst hv0; (have HB := Aside0.mk ((below_drew1 (below_alloc (Below.refl w.heap.size w) (.cells #[.int .i64 a, .slice A l.length c] 38))).trans (hb.mono (by simp)))); (have HO := Aside0.mk (R_iso ho)); (have hX : w1.heap[w.heap.size]? = some (.cells #[.int .i64 a, .slice A l.length c] 38 (0, 0)) := blk_below (blk_drew (blk_new w _)) hb); (have hx0 : w1.cell? ⟨w.heap.size, 0, none⟩ = some (.int .i64 a) := (blk_cell hX 0).trans rfl); (have hx1 : w1.cell? ⟨w.heap.size, 1, none⟩ = some (.slice A l.length c) := (blk_cell hX 1).trans rfl); (have h1 := blk_below G1.out HB.out); (have H1 := Aside0.mk h1); (have H4 := Aside0.mk (G4.out.step (w1 := w1) (fun k _ hk => HB.out.block k hk))); (have hc4 : w1.cell? ⟨g, 4, none⟩ = some (.bool d.armed) := (blk_cell h1 4).trans rfl); (have hc5 : w1.cell? ⟨g, 5, none⟩ = some (.int .i64 d.at_) := (blk_cell h1 5).trans rfl); (have hc6 : w1.cell? ⟨g, 6, none⟩ = some vL := (blk_cell h1 6).trans rfl); (have hf4 := blk_frozen h1 4); (have hf5 := blk_frozen h1 5); (have hf6 := blk_frozen h1 6); clear h1 hlc hC hb ho hX)
  all_goals
    go_end0
    refine ⟨rfl, ⟨vS, vP, _, ss, blk_put (blk_put (blk_put H1.out 4 _ rfl) 5 _ rfl) 6 _ rfl, H2.out, .inl H3.out, ?_, DS.arm_ok H5.out _ _⟩, (((((KeptB.refl ok w).after HB.out).setCell (.inl H3.out) _).setCell (.inl H3.out) _).setCell (.inl H3.out) _)⟩
    have hst : ∀ k, k ≠ g → (((w1.setCell ⟨g, 4, none⟩ (.bool true)).setCell ⟨g, 5, none⟩ (.int .i64 a)).setCell ⟨g, 6, none⟩ (.slice A' l.length c')).heap[k]? = w1.heap[k]? := fun k hk => ((Below.heap_setCell _ _ _ _ hk).trans (Below.heap_setCell _ _ _ _ hk)).trans (Below.heap_setCell _ _ _ _ hk)
    have q4 := (H4.out.step (w1 := ((w1.setCell ⟨g, 4, none⟩ (.bool true)).setCell ⟨g, 5, none⟩ (.int .i64 a)).setCell ⟨g, 6, none⟩ (.slice A' l.length c')) (fun k hk _ => hst k hk.2)).mono (ok' := fun k => (ok k ∨ w.heap.size ≤ k) ∧ k ≠ g) (fun k hk => ⟨.inl hk.1, hk.2⟩)
    refine ⟨q4.1, q4.2.1, q4.2.2.1, q4.2.2.2.1, q4.2.2.2.2.1, q4.2.2.2.2.2.1, ?_⟩
    have r1 := Kd.R_mono (Kd.R_bound HO.out) (ok' := fun k => ((ok k ∨ w.heap.size ≤ k) ∧ k ≠ g) ∧ k ∉ ss) (fun k hk => by
      have h1 : w.heap.size + 1 ≤ k := by have := hk.2.1; simpa using this
      exact ⟨⟨.inr (by omega), by omega⟩, fun e => by have := HSS.out k e; omega⟩)
    exact Kd.R_lower (Kd.R_step r1 (fun k hk _ => hst k hk.1.2)) (Nat.le_trans HBW.out (by simp))
end Go.Proofs.Ytkicekddkgehoaa.Hnd
