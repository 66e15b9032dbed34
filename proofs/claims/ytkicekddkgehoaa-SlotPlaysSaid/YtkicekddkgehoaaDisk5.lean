/- Contracts of the calls, by hand. -/
import Derived.Test.YtkicekddkgehoaaQSlotLastx1
import Derived.Test.YtkicekddkgehoaaDisk4
namespace Go.Proofs.Ytkicekddkgehoaa.Hnd
open Go.RowKit Go.Proofs.Ytkicekddkgehoaa.QSlotLast Go.Proofs.YtkicekddkgehoaaW.PrintWords Go.Proofs.YtkicekddkgehoaaW.PrintLast Go.Proofs.YtkicekddkgehoaaW.Dk 
set_option linter.unusedVariables false
set_option linter.unusedSimpArgs false
def z16 : Array Value := ((List.replicate 16 (0 : Int)).map (Value.int .u8)).toArray
theorem make16 (W : World) : (Instr.makeSlice 22 (.int .i64 16) (.int .i64 16)).run Try.prog W = .ok (.slice (some ⟨W.heap.size, 0, none⟩) 16 16) (W.alloc (.cells z16 5)) := by
  have h := run_make_row' (P := Try.prog) 22 5 (.int .u8 0) 1 Try.underlying22 (by kernel_rfl) rfl .i64 .i64 16 (by decide) (by decide) W
  have e : madeCells #[.int .u8 0] 16 = z16 := by kernel_rfl
  rw [e] at h
  exact h
theorem info26 : (Try.prog.info? 22).map (fun i => (i.zero, i.size, i.bytes)) = some (some (.slice none 0 0), 1, 24) := by kernel_rfl
def NewInv (w wr : World) (k : Nat) : Prop :=
  ∃ (vS : Value) (ss : List Nat), wr.heap[w.heap.size]? = some (.cells (dcells vS (.slice none 0 0) (.slice none 0 0) (DS.new k)) 51 (0, 0)) ∧ DiskIn wr w.heap.size (fun q => w.heap.size ≤ q ∧ q ≠ w.heap.size) vS (.slice none 0 0) (.slice none 0 0) (DS.new k).S [] [] ss ∧ Below w.heap.size w wr
theorem new_step {w wr w1 : World} {k : Nat} {vS v1 : Value} {ss : List Nat} (h4 : DiskIn wr w.heap.size (fun q => w.heap.size ≤ q ∧ q ≠ w.heap.size) vS (.slice none 0 0) (.slice none 0 0) (DS.new k).S [] [] ss) (hlt : w.heap.size < wr.heap.size)
    (hO : w1.ownsRow w.heap.size 22 1 v1 (ss.length + 1) (ss.map secV ++ [secV wr.heap.size])) (hg : (wr.drew.alloc (.cells z16 5)).grownBy w1 vS.ownBlock) (hat : v1.ownBlock = vS.ownBlock ∨ ∃ b, v1.ownBlock = some b ∧ (wr.drew.alloc (.cells z16 5)).heap.size ≤ b) :
    DiskIn w1 w.heap.size (fun q => w.heap.size ≤ q ∧ q ≠ w.heap.size) v1 (.slice none 0 0) (.slice none 0 0) (DS.new (k + 1)).S [] [] (ss ++ [wr.heap.size]) := by
  have hsz : (wr.drew.alloc (.cells z16 5)).heap.size = wr.heap.size + 1 := by simp
  have hold : ∀ q, q < wr.heap.size → some q ≠ vS.ownBlock → w1.heap[q]? = wr.heap[q]? := fun q hq hne => (hg.block q (by omega) hne).trans (Below.heap_alloc wr.drew _ q hq)
  have hnss : ∀ q, q ∈ ss → some q ≠ vS.ownBlock := fun q hq e => (h4.2.1 q e.symm).2 hq
  have hnk : some wr.heap.size ≠ vS.ownBlock := fun e => by have := own_lt h4.1 _ e.symm; omega
  have hsec : SecAt w1 wr.heap.size (List.replicate 16 0) := (hg.block _ (by omega) hnk).trans (blk_new wr.drew _)
  refine ⟨by rw [List.length_append, List.length_singleton, List.map_append]; exact hO, fun q hq => ?_, ⟨?_, ?_⟩, ?_, ?_, Kd.R_nil _ _ _ _ _, Kd.R_nil _ _ _ _ _⟩
  · rcases hat with hat | ⟨b, hb, hle⟩
    · rw [hat] at hq
      refine ⟨(h4.2.1 q hq).1, fun e => ?_⟩
      rcases List.mem_append.1 e with e | e
      · exact (h4.2.1 q hq).2 e
      · rw [List.mem_singleton.1 e] at hq
        exact hnk hq.symm
    · rw [hb] at hq
      injection hq with hq
      subst hq
      refine ⟨⟨by omega, by omega⟩, fun e => ?_⟩
      rcases List.mem_append.1 e with e | e
      · have := h4.2.2.1.lt e; omega
      · have := List.mem_singleton.1 e; omega
  · rw [List.length_append, List.length_singleton, h4.2.2.1.1]
    simp [DS.new]
  · intro i q b hq hb
    have hS : (DS.new (k + 1)).S = (DS.new k).S ++ [List.replicate 16 0] := List.replicate_succ'
    rw [hS] at hb
    by_cases hi : i < ss.length
    · rw [List.getElem?_append_left hi] at hq
      rw [List.getElem?_append_left (by rw [← h4.2.2.1.1]; exact hi)] at hb
      have hm := List.mem_of_getElem? hq
      exact (hold q (h4.2.2.1.lt hm) (hnss q hm)).trans (h4.2.2.1.2 i q b hq hb)
    · rw [List.getElem?_append_right (by omega)] at hq
      rw [List.getElem?_append_right (by rw [← h4.2.2.1.1]; omega), ← h4.2.2.1.1] at hb
      cases hj : i - ss.length with
      | zero =>
        rw [hj] at hq hb
        simp at hq hb
        subst hq hb
        exact hsec
      | succ j => rw [hj] at hq; simp at hq
  · rw [List.nodup_append]
    exact ⟨h4.2.2.2.1, by simp, fun a ha b hb e => by have := h4.2.2.1.lt ha; have := List.mem_singleton.1 hb; omega⟩
  · intro q hq
    rcases List.mem_append.1 hq with hq | hq
    · exact h4.2.2.2.2.1 q hq
    · have := List.mem_singleton.1 hq
      exact ⟨by omega, by omega, by omega⟩
set_option maxHeartbeats 2000000 in
set_option maxRecDepth 100000 in
theorem new_any (n : Nat) (hn : n ≤ 4000) (w : World) :
    Calls Try.prog 7 #[.int .i64 (n : Int)] w fun e w' => e = .returned (.pointer (some ⟨w.heap.size, 0, none⟩)) ∧ DiskAt w' w.heap.size (fun k => w.heap.size ≤ k) w.heap.size (DS.new n) ∧ Below w.heap.size w w' := by
  have hd0 : decide ((n : Int) < 0) = false := decide_eq_false (by omega)
  have hd1 : decide ((n : Int) > 4000) = false := decide_eq_false (by omega)
  have hd2 : decide (4000 < n) = false := decide_eq_false (by omega)
  have hmk := make16
  have hn0 : (0 : Int) ≤ (n : Int) := by omega
  have hn1 : (n : Int) ≤ 4000 := by omega
  go_enter Try.func7, Try.ntmps7
  go_wp2
  go_loopw [13] (fun u wr => ∃ k : Nat, u = .int .i64 (k : Int) ∧ Aside0 (k ≤ n) ∧ Aside0 (NewInv w wr k)) (fun u _ => n + 1 - (intOf u).toNat)
  case atStart => exact ⟨0, rfl, ⟨Nat.zero_le _⟩, ⟨.slice none 0 0, [], blk_new w _, ⟨World.ownsRow_nil _ _ _ _, fun k hk => by simp [Value.ownBlock] at hk, ⟨rfl, fun i k b hk => by simp at hk⟩, by simp, fun k hk => by simp at hk, Kd.R_nil _ _ _ _ _, Kd.R_nil _ _ _ _ _⟩, below_alloc (Below.refl _ _) _⟩⟩
  case round =>
    obtain ⟨k, rfl, HK, HI⟩ := hrel
    obtain ⟨vS, ss, h1, h4, hb⟩ := HI.out
    by_cases hlt : k < n
    · have hd : decide ((k : Int) < (n : Int)) = true := decide_eq_true (by omega)
      have hd3 : decide (k < n) = true := decide_eq_true hlt
      have hgl : w.heap.size < wr.heap.size := (Array.getElem?_eq_some_iff.1 h1).1
      have hc0 : wr.cell? ⟨w.heap.size, 0, none⟩ = some vS := (blk_cell h1 0).trans rfl
      have hk1 : (k : Int) + 1 ≤ 4000 := by omega
      have hk0 : (0 : Int) ≤ (k : Int) := by omega
      have hssl : ss.length = k := by rw [h4.2.2.1.1]; simp [DS.new]
      have hcA : (wr.alloc (.cells z16 5)).cell? ⟨w.heap.size, 0, none⟩ = some vS := (blk_cell (blk_alloc h1 _) 0).trans rfl
      have hcB : ((wr.alloc (.cells z16 5)).alloc (.cells #[.slice (some ⟨wr.heap.size, 0, none⟩) 16 16] 22)).cell? ⟨w.heap.size, 0, none⟩ = some vS := (blk_cell (blk_alloc (blk_alloc h1 _) _) 0).trans rfl
      have G1 := Aside0.mk h1
      have G4 := Aside0.mk h4
      have GB := Aside0.mk hb
      have GL := Aside0.mk hgl
      have SSL := Aside0.mk hssl
      have HKN := Aside0.mk hlt
      clear h1 h4 hb HI hgl hssl hlt
      go_upto_region 6 with (fail)
      go_region_law (refine step_append_cells (w0 := wr.drew.alloc (.cells z16 5)) w.heap.size (by simp [Region.wanted]) (.tmp 19) (.tmp 21) 48 22 _ 1 24 rfl Try.underlying48 info26 rfl (by decide) (by decide) vS ss.length (ss.map secV) [.slice (some ⟨wr.heap.size, 0, none⟩) 16 16] (by simp [Act.eval, Act.put]) (by simp [Act.eval, Act.put]) rfl (by simp [Value.oneCell']) ?a1 (Below.refl _ _) ?a2 ?a3 ?_; (case a1 => exact own_move G4.out.1 (fun q hq => Below.heap_alloc wr.drew _ q (own_lt G4.out.1 q hq))); (case a2 => have := GL.out; simp; omega); (case a3 => have := SSL.out; have := HKN.out; omega); intro v1 w1 hO1 hB1 hG1 hA1; (have hO1' := Aside0.mk hO1); (rw [SSL.out] at hO1); (obtain ⟨g1, cap1, hv1⟩ : ∃ g1 cap1, v1 = .slice (some ⟨g1, 0, none⟩) (k + 1) cap1 := by rcases hO1.2 with ⟨_, h0⟩ | ⟨g1, cap1, _, e, _⟩; (· omega); (· exact ⟨g1, cap1, e⟩)); subst hv1; (have K4 := Aside0.mk (new_step G4.out GL.out hO1'.out hG1 hA1)); (have K1 := Aside0.mk ((hG1.block w.heap.size (by have := GL.out; simp; omega) (fun e => (G4.out.2.1 _ e.symm).1.2 rfl)).trans (blk_alloc (blk_drew G1.out) (.cells z16 5)))); (have hcg3 : w1.cell? ⟨w.heap.size, 0, none⟩ = some vS := (blk_cell K1.out 0).trans rfl); (have hfg3 : w1.frozen? ⟨w.heap.size, 0, none⟩ = false := blk_frozen K1.out 0); (have HB3 := Aside0.mk (((GB.out.drew).alloc (by have := GL.out; show w.heap.size ≤ wr.heap.size; omega) (.cells z16 5)).grown hG1 (by have := GL.out; simp; omega) (fun q hq => own_base G4.out.1 q hq))); clear hO1 hO1' hB1 hG1 hA1)
      all_goals
        go_wp2
        all_goals exact ⟨⟨k + 1, by go_num, ⟨by have := HKN.out; omega⟩, ⟨_, ss ++ [wr.heap.size], blk_put K1.out 0 _ rfl, K4.out.step (fun q hq _ => Below.heap_setCell _ _ _ _ hq.2), HB3.out.setCell (Nat.le_refl _) _⟩⟩, by have := HKN.out; simp [intOf]; omega⟩
    · obtain rfl : k = n := by have := HK.out; omega
      have hd : decide ((k : Int) < (k : Int)) = false := decide_eq_false (by omega)
      have HF : Aside0 (DiskAt wr w.heap.size (fun q => w.heap.size ≤ q) w.heap.size (DS.new k) ∧ Below w.heap.size w wr) := ⟨⟨vS, .slice none 0 0, .slice none 0 0, ss, h1, Nat.le_refl _, Nat.le_refl _, h4, DS.new_ok k⟩, hb⟩
      clear h1 h4 hb HI hlt
      go_wp2
      go_ret
      exact ⟨rfl, HF.out⟩
end Go.Proofs.Ytkicekddkgehoaa.Hnd
