/- Contracts of the calls, by hand. -/
import Derived.Test.YtikninibkljnnaaQPortLinesx4
import Derived.Test.YtikninibkljnnaaPlU
import Derived.RangeFuncNested
import Derived.RangeFuncBound
import Derived.RangeFuncCalls
import Derived.RangeFuncLeaves
import Derived.RangeFuncBox
import Derived.Shelf.Abstract
import Derived.Shelf.RegionOpen
import Derived.OwnWalkIn
import Derived.TacticsInMore
import Derived.LoopNIn
import Derived.LoopIn
import Derived.Sort.QuietIn
import Derived.Sort.CutIn
import Derived.Stop.RegionWithIn
import Derived.StillTailTactics
import Derived.StillTail
import Derived.Deep.RegionHeld
import Derived.StillTailTactics
namespace Go.Proofs.Ytikninibkljnnaa.Hnd
open Go.RowKit Go.Proofs.Ytikninibkljnnaa.QPortLines Go.Proofs.YtikninibkljnnaaW.PrintWords Go.Proofs.YtikninibkljnnaaW.PrintLast  Go.Shelf
set_option linter.unusedVariables false
set_option linter.unusedSimpArgs false
set_option linter.unusedVariables false
set_option linter.unusedSimpArgs false
attribute [local go_sem] Oper.semAt_some
theorem rg_take {P : Program} {ops : Array Oper} {Q : Exit → Act → World → Prop} {md : Region.Mode} {S : World → Prop} {i : Nat} {dst : Option Nat} {v : Value} {fuel : Nat} {listed : Array Bool} {a : Act} {w : World} (hd : (ops[i]?).map Oper.dst = some dst)
    (hs : Region.noSelect ops = true) (hf : Region.free md ops listed i = true) (hr : (Region.ready md ops listed).contains i = true)
    (hQ : ∀ c a w, Q (.panic c) (a.put dst v) w → Q (.panic c) a w) (hw : (ops[i]?).map (fun o => Region.wanted o (yielded ops a.tmps)) = some true)
    (hy : ∀ o, ops[i]? = some o → ∀ w, S w → (execOp a.eval o).run P w = .ok (.value v) w) (hS : S w)
    (h : wpAnyH P md ops Q S fuel (listed.setIfInBounds i true) (a.put dst v) w) : wpAnyH P md ops Q S (fuel + 1) listed a w := by
  obtain ⟨o, ho⟩ : ∃ o, ops[i]? = some o := by
    cases hh : ops[i]? with
    | none => rw [hh] at hd; cases hd
    | some o => exact ⟨o, rfl⟩
  rw [ho] at hd hw
  cases hd
  exact wpAnyH_take ho hs hf hr hQ (Or.inl ⟨Option.some.inj hw, hy o ho⟩) hS h
theorem left_c {w : World} {a0 : ByteArray} {i : Nat} (hi : i ≤ a0.size) : Calls Try.prog 20 #[.agg #[.slice none 0 0, .slice none 0 0, .slice none 0 0, .slice none 0 0, .int .i64 0, .string ⟨#[]⟩, .string a0, .int .i64 (i : Int), .int .i64 0, .string ⟨#[]⟩, .int .i64 0, .string ⟨#[]⟩, .slice none 0 0, .int .i64 0, .int .i64 0, .bool false, .bool false, .int .i64 0, .slice none 0 0, .slice none 0 0, .string ⟨#[]⟩]] w fun e w' => e = .returned (.string (a0.extract i a0.size)) ∧ Below w.heap.size w w' := by
  have h1 : mn (mx (i : Int) 0) (a0.size : Int) = (i : Int) := by unfold mn mx; split <;> split <;> omega
  exact port_left.calls none 0 [] none 0 [] none 0 [] none 0 [] 0 ⟨#[]⟩ a0 (i : Int) 0 ⟨#[]⟩ 0 ⟨#[]⟩ none 0 [] 0 0 false false 0 none 0 [] none 0 [] ⟨#[]⟩ (a0.extract i a0.size) w (Kd.C_nil _ _) (Nat.le_refl _) (Kd.C_nil _ _) (Nat.le_refl _) (Kd.C_nil _ _) (Nat.le_refl _) (Kd.C_nil _ _) (Nat.le_refl _) (Kd.C_nil _ _) (Nat.le_refl _) (Kd.C_nil _ _) (Nat.le_refl _) (Kd.C_nil _ _) (Nat.le_refl _) (by rw [port_left.f, h1, if_pos (by omega), if_pos (by omega), Int.toNat_natCast])
set_option maxHeartbeats 8000000 in
set_option maxRecDepth 100000 in
theorem line_yes {w : World} {a0 ln rest : ByteArray} {i i' : Nat} (hi : i ≤ a0.size) (hs : a0.size ≤ 200) (hl : split_Lines.f (a0.extract i a0.size) = some (ln, rest, true)) (h' : i' + rest.size = a0.size) :
    Calls Try.prog 11 #[.agg #[.slice none 0 0, .slice none 0 0, .slice none 0 0, .slice none 0 0, .int .i64 0, .string ⟨#[]⟩, .string a0, .int .i64 (i : Int), .int .i64 0, .string ⟨#[]⟩, .int .i64 0, .string ⟨#[]⟩, .slice none 0 0, .int .i64 0, .int .i64 0, .bool false, .bool false, .int .i64 0, .slice none 0 0, .slice none 0 0, .string ⟨#[]⟩]] w fun e w' => e = .returned (.tuple #[.string ln, .agg #[.slice none 0 0, .slice none 0 0, .slice none 0 0, .slice none 0 0, .int .i64 0, .string ⟨#[]⟩, .string a0, .int .i64 (i' : Int), .int .i64 0, .string ⟨#[]⟩, .int .i64 0, .string ⟨#[]⟩, .slice none 0 0, .int .i64 0, .int .i64 0, .bool false, .bool false, .int .i64 0, .slice none 0 0, .slice none 0 0, .string ⟨#[]⟩], .bool true]) ∧ Below w.heap.size w w' := by
  have HI := Aside0.mk hi
  have HLN := Aside0.mk hl
  have hwr : wrap64 ((a0.size : Int) - (rest.size : Int)) = (i' : Int) := by unfold wrap64; omega
  have hba := below_alloc (Below.refl w.heap.size w) (.cells #[.slice none 0 0, .slice none 0 0, .slice none 0 0, .slice none 0 0, .int .i64 0, .string ⟨#[]⟩, .string a0, .int .i64 (i : Int), .int .i64 0, .string ⟨#[]⟩, .int .i64 0, .string ⟨#[]⟩, .slice none 0 0, .int .i64 0, .int .i64 0, .bool false, .bool false, .int .i64 0, .slice none 0 0, .slice none 0 0, .string ⟨#[]⟩] 38)
  have hna := blk_new w (.cells #[.slice none 0 0, .slice none 0 0, .slice none 0 0, .slice none 0 0, .int .i64 0, .string ⟨#[]⟩, .string a0, .int .i64 (i : Int), .int .i64 0, .string ⟨#[]⟩, .int .i64 0, .string ⟨#[]⟩, .slice none 0 0, .int .i64 0, .int .i64 0, .bool false, .bool false, .int .i64 0, .slice none 0 0, .slice none 0 0, .string ⟨#[]⟩] 38)
  obtain ⟨Wa, hWa⟩ : ∃ Wa, Wa = w.alloc (.cells #[.slice none 0 0, .slice none 0 0, .slice none 0 0, .slice none 0 0, .int .i64 0, .string ⟨#[]⟩, .string a0, .int .i64 (i : Int), .int .i64 0, .string ⟨#[]⟩, .int .i64 0, .string ⟨#[]⟩, .slice none 0 0, .int .i64 0, .int .i64 0, .bool false, .bool false, .int .i64 0, .slice none 0 0, .slice none 0 0, .string ⟨#[]⟩] 38) := ⟨_, rfl⟩
  have HWa := Aside0.mk hWa
  rw [← hWa] at hba hna
  have hsa : Wa.heap.size = w.heap.size + 1 := by rw [hWa]; simp
  have hbb := below_alloc (Below.refl Wa.heap.size Wa) (.cells #[.slice none 0 0, .slice none 0 0, .slice none 0 0, .slice none 0 0, .int .i64 0, .string ⟨#[]⟩, .string ⟨#[]⟩, .int .i64 0, .int .i64 0, .string ⟨#[]⟩, .int .i64 0, .string ⟨#[]⟩, .slice none 0 0, .int .i64 0, .int .i64 0, .bool false, .bool false, .int .i64 0, .slice none 0 0, .slice none 0 0, .string ⟨#[]⟩] 38)
  have hnb := blk_new Wa (.cells #[.slice none 0 0, .slice none 0 0, .slice none 0 0, .slice none 0 0, .int .i64 0, .string ⟨#[]⟩, .string ⟨#[]⟩, .int .i64 0, .int .i64 0, .string ⟨#[]⟩, .int .i64 0, .string ⟨#[]⟩, .slice none 0 0, .int .i64 0, .int .i64 0, .bool false, .bool false, .int .i64 0, .slice none 0 0, .slice none 0 0, .string ⟨#[]⟩] 38)
  obtain ⟨Wb, hWb⟩ : ∃ Wb, Wb = Wa.alloc (.cells #[.slice none 0 0, .slice none 0 0, .slice none 0 0, .slice none 0 0, .int .i64 0, .string ⟨#[]⟩, .string ⟨#[]⟩, .int .i64 0, .int .i64 0, .string ⟨#[]⟩, .int .i64 0, .string ⟨#[]⟩, .slice none 0 0, .int .i64 0, .int .i64 0, .bool false, .bool false, .int .i64 0, .slice none 0 0, .slice none 0 0, .string ⟨#[]⟩] 38) := ⟨_, rfl⟩
  have HWb := Aside0.mk hWb
  rw [← hWb] at hbb hnb
  have hna2 := blk_below hna hbb
  have hsb : Wb.heap.size = w.heap.size + 2 := by rw [hWb]; simp [hsa]
  rw [hsa] at hnb
  obtain ⟨qa, hqa⟩ : ∃ qa, w.heap.size = qa := ⟨_, rfl⟩
  have HB0 := Aside0.mk (hba.trans (hbb.mono hba.size))
  have hB0 := HB0.out
  rw [hqa] at hna2 hnb
  have HQA := Aside0.mk hqa
  obtain ⟨qb, hqb⟩ : ∃ qb, qa + 1 = qb := ⟨_, rfl⟩
  rw [hqb] at hnb
  have HQB := Aside0.mk hqb
  have HAB : Aside0 (qb ≠ qa) := ⟨by omega⟩
  have HLA : Aside0 (w.heap.size ≤ qa) := ⟨by omega⟩
  have HLB : Aside0 (w.heap.size ≤ qb) := ⟨by omega⟩
  have HSB : Aside0 (Wb.heap.size = qb + 1) := ⟨by omega⟩
  have NA := Aside0.mk hna2
  have NB := Aside0.mk hnb
  clear hba hna hWa hsa hbb hnb hWb hna2 hqa hqb hB0 hsb hi hl hs h'
  go_enter Try.func11, Try.ntmps11
  go_upto_region 1 with (fail)
  rw [← HWa.out, ← HWb.out, HQA.out, HQB.out]
  go_upto_region 4 with (first | (go_at_call 19; refine (split_Lines.calls _ ln rest true _ HLN.out).mono ?_; rintro e w4 ⟨rfl, hB⟩; have T4 := Aside0.mk (T3.out.trans (hB.below.mono T3.out.size)); have hn4 := blk_below NA.out T4.out; have hm4 := blk_below NB.out T4.out; have y6 : w4.cell? ⟨qa, 6, none⟩ = some (.string a0) := (blk_cell hn4 6).trans rfl; have y7 : w4.cell? ⟨qa, 7, none⟩ = some (.int .i64 (i : Int)) := (blk_cell hn4 7).trans rfl; have f7 : w4.frozen? ⟨qa, 7, none⟩ = false := blk_frozen hn4 7; have HN5 : Aside0 ((w4.setCell ⟨qa, 7, none⟩ (.int .i64 (i' : Int))).heap[qa]? = some (.cells #[.slice none 0 0, .slice none 0 0, .slice none 0 0, .slice none 0 0, .int .i64 0, .string ⟨#[]⟩, .string a0, .int .i64 (i' : Int), .int .i64 0, .string ⟨#[]⟩, .int .i64 0, .string ⟨#[]⟩, .slice none 0 0, .int .i64 0, .int .i64 0, .bool false, .bool false, .int .i64 0, .slice none 0 0, .slice none 0 0, .string ⟨#[]⟩] 38 (0, 0))) := ⟨blk_put hn4 7 (.int .i64 (i' : Int)) rfl⟩; have HM5 : Aside0 ((w4.setCell ⟨qa, 7, none⟩ (.int .i64 (i' : Int))).heap[qb]? = some (.cells #[.slice none 0 0, .slice none 0 0, .slice none 0 0, .slice none 0 0, .int .i64 0, .string ⟨#[]⟩, .string ⟨#[]⟩, .int .i64 0, .int .i64 0, .string ⟨#[]⟩, .int .i64 0, .string ⟨#[]⟩, .slice none 0 0, .int .i64 0, .int .i64 0, .bool false, .bool false, .int .i64 0, .slice none 0 0, .slice none 0 0, .string ⟨#[]⟩] 38 (0, 0))) := ⟨blk_far hm4 HAB.out _⟩; have HB5 : Aside0 (Below w.heap.size w (w4.setCell ⟨qa, 7, none⟩ (.int .i64 (i' : Int)))) := ⟨(HB0.out.trans (T4.out.mono HB0.out.size)).setCell (p := ⟨qa, 7, none⟩) HLA.out _⟩; clear hB hn4 hm4) | (go_at_call 20; refine (left_c HI.out).mono ?_; rintro e w3 ⟨rfl, hB⟩; have T3 := Aside0.mk hB; clear hB) | ((with_reducible refine gate_dst (N := 7) rfl ?_); refine load_event (p := 1) (ty := 38) rfl rfl rfl ?hp NA.out Try.underlying38 rfl (by kernel_rfl) ?_; (case hp => first | rfl | (go_simp; done))))
  obtain ⟨W5, hW5⟩ : ∃ W5, W5 = (w4.setCell ⟨qa, 7, none⟩ (.int .i64 (i' : Int))) := ⟨_, rfl⟩
  rw [← hW5] at HN5 HM5 HB5 ⊢
  clear hW5
  have hS0 : W5.drew.heap[qa]? = some (.cells #[.slice none 0 0, .slice none 0 0, .slice none 0 0, .slice none 0 0, .int .i64 0, .string ⟨#[]⟩, .string a0, .int .i64 (i' : Int), .int .i64 0, .string ⟨#[]⟩, .int .i64 0, .string ⟨#[]⟩, .slice none 0 0, .int .i64 0, .int .i64 0, .bool false, .bool false, .int .i64 0, .slice none 0 0, .slice none 0 0, .string ⟨#[]⟩] 38 (0, 0)) := HN5.out
  refine wp_region_held_drew (S := (fun W' => W'.heap[qa]? = some (.cells #[.slice none 0 0, .slice none 0 0, .slice none 0 0, .slice none 0 0, .int .i64 0, .string ⟨#[]⟩, .string a0, .int .i64 (i' : Int), .int .i64 0, .string ⟨#[]⟩, .int .i64 0, .string ⟨#[]⟩, .slice none 0 0, .int .i64 0, .int .i64 0, .bool false, .bool false, .int .i64 0, .slice none 0 0, .slice none 0 0, .string ⟨#[]⟩] 38 (0, 0)))) (by kernel_rfl) hS0 (fun hHeld => ?_)
  clear hHeld
  refine rg_take (i := 0) (dst := some 23) (v := ?_) (by kernel_rfl) (by kernel_rfl) (by kernel_rfl) (by kernel_rfl) (fun _ _ _ h => h) (by rfl) ?_ (by assumption) ?_
  rotate_left
  · intro o ho w' hSw
    cases ho
    clear hSw
    go_simp
    first | done | with_reducible rfl
  simp only [Act.put, List.setIfInBounds_toArray, List.set_cons_zero, List.set_cons_succ]
  refine rg_take (i := 1) (dst := some 24) (v := ?_) (by kernel_rfl) (by kernel_rfl) (by kernel_rfl) (by kernel_rfl) (fun _ _ _ h => h) (by rfl) ?_ (by assumption) ?_
  rotate_left
  · intro o ho w' hSw
    cases ho
    refine load_whole (ty := 38) (p := 1) ?_ ?_ hSw Try.underlying38 rfl (by kernel_rfl) <;> rfl
  simp only [Act.put, List.setIfInBounds_toArray, List.set_cons_zero, List.set_cons_succ]
  refine rg_take (i := 2) (dst := some 25) (v := ?_) (by kernel_rfl) (by kernel_rfl) (by kernel_rfl) (by kernel_rfl) (fun _ _ _ h => h) (by rfl) ?_ (by assumption) ?_
  rotate_left
  · intro o ho w' hSw
    cases ho
    clear hSw
    go_simp
    first | done | with_reducible rfl
  simp only [Act.put, List.setIfInBounds_toArray, List.set_cons_zero, List.set_cons_succ]
  refine rg_take (i := 3) (dst := some 2) (v := ?_) (by kernel_rfl) (by kernel_rfl) (by kernel_rfl) (by kernel_rfl) (fun _ _ _ h => h) (by rfl) ?_ (by assumption) ?_
  rotate_left
  · intro o ho w' hSw
    cases ho
    clear hSw
    go_simp
    first | done | with_reducible rfl
  simp only [Act.put, List.setIfInBounds_toArray, List.set_cons_zero, List.set_cons_succ]
  refine wpAnyH_ready (rs := [4]) (by kernel_rfl) (by simp) ?_
  refine AllReadyH.cons rfl (fun K hK => ?_) AllReadyH.nil
  refine store_step (g := qb) (W := W5.drew) (vs := [.slice none 0 0, .slice none 0 0, .slice none 0 0, .slice none 0 0, .int .i64 0, .string ⟨#[]⟩, .string a0, .int .i64 (i' : Int), .int .i64 0, .string ⟨#[]⟩, .int .i64 0, .string ⟨#[]⟩, .slice none 0 0, .int .i64 0, .int .i64 0, .bool false, .bool false, .int .i64 0, .slice none 0 0, .slice none 0 0, .string ⟨#[]⟩]) rfl rfl rfl ?hp ?hv HM5.out ?hz ?ht ?h1 ?_
  case hp => first | rfl | (go_simp; done)
  case hv => first | rfl | (go_simp; done)
  case hz => rfl
  case ht => kernel_rfl
  case h1 => rfl
  intro v8 hW
  have HN8 : Aside0 (v8.heap[qb]? = some (.cells #[.slice none 0 0, .slice none 0 0, .slice none 0 0, .slice none 0 0, .int .i64 0, .string ⟨#[]⟩, .string a0, .int .i64 (i' : Int), .int .i64 0, .string ⟨#[]⟩, .int .i64 0, .string ⟨#[]⟩, .slice none 0 0, .int .i64 0, .int .i64 0, .bool false, .bool false, .int .i64 0, .slice none 0 0, .slice none 0 0, .string ⟨#[]⟩] 38 (0, 0))) := ⟨by rw [hW]; exact setCells_all HM5.out rfl⟩
  have HA8 : Aside0 (v8.heap[qa]? = some (.cells #[.slice none 0 0, .slice none 0 0, .slice none 0 0, .slice none 0 0, .int .i64 0, .string ⟨#[]⟩, .string a0, .int .i64 (i' : Int), .int .i64 0, .string ⟨#[]⟩, .int .i64 0, .string ⟨#[]⟩, .slice none 0 0, .int .i64 0, .int .i64 0, .bool false, .bool false, .int .i64 0, .slice none 0 0, .slice none 0 0, .string ⟨#[]⟩] 38 (0, 0))) := ⟨by rw [hW]; exact (far_setCells (Ne.symm HAB.out) _ _ _).trans HN5.out⟩
  have HB8 : Aside0 (Below w.heap.size w v8) := ⟨by rw [hW]; exact (HB5.out.trans (below_drew1 (Below.refl _ W5) |>.mono HB5.out.size)).trans (below_setCells HLB.out _ _ _)⟩
  clear hW
  refine hK.out _ _ HA8.out (fun hHeld => ?_)
  clear hK K hHeld hS0
  have hS0 := HA8.out
  refine rg_take (i := 5) (dst := some 4) (v := ?_) (by kernel_rfl) (by kernel_rfl) (by kernel_rfl) (by kernel_rfl) (fun _ _ _ h => h) (by rfl) ?_ (by assumption) ?_
  rotate_left
  · intro o ho w' hSw
    cases ho
    clear hSw
    go_simp
    first | done | with_reducible rfl
  simp only [Act.put, List.setIfInBounds_toArray, List.set_cons_zero, List.set_cons_succ]
  refine wpAnyH_done (by kernel_rfl) ?_ _
  clear hS0
  go_wp2
  exact bodyPost_ret (results_list (rs := [.tmp 2, .cell 3 38, .tmp 4]) (by kernel_rfl) (by simp) (Vals.tmp (Vals.cell (p := 3) (ty := 38) qb 38 #[.slice none 0 0, .slice none 0 0, .slice none 0 0, .slice none 0 0, .int .i64 0, .string ⟨#[]⟩, .string a0, .int .i64 (i' : Int), .int .i64 0, .string ⟨#[]⟩, .int .i64 0, .string ⟨#[]⟩, .slice none 0 0, .int .i64 0, .int .i64 0, .bool false, .bool false, .int .i64 0, .slice none 0 0, .slice none 0 0, .string ⟨#[]⟩] (0, 0) _ rfl HN8.out Try.underlying38 rfl (by kernel_rfl) (Vals.tmp Vals.nil)))) rfl ⟨rfl, HB8.out⟩
set_option maxHeartbeats 8000000 in
set_option maxRecDepth 100000 in
theorem line_no {w : World} {a0 ln rest : ByteArray} {i : Nat} (hi : i ≤ a0.size) (hs : a0.size ≤ 200) (hl : split_Lines.f (a0.extract i a0.size) = some (ln, rest, false)) :
    Calls Try.prog 11 #[.agg #[.slice none 0 0, .slice none 0 0, .slice none 0 0, .slice none 0 0, .int .i64 0, .string ⟨#[]⟩, .string a0, .int .i64 (i : Int), .int .i64 0, .string ⟨#[]⟩, .int .i64 0, .string ⟨#[]⟩, .slice none 0 0, .int .i64 0, .int .i64 0, .bool false, .bool false, .int .i64 0, .slice none 0 0, .slice none 0 0, .string ⟨#[]⟩]] w fun e w' => e = .returned (.tuple #[.string ln, .agg #[.slice none 0 0, .slice none 0 0, .slice none 0 0, .slice none 0 0, .int .i64 0, .string ⟨#[]⟩, .string a0, .int .i64 (i : Int), .int .i64 0, .string ⟨#[]⟩, .int .i64 0, .string ⟨#[]⟩, .slice none 0 0, .int .i64 0, .int .i64 0, .bool false, .bool false, .int .i64 0, .slice none 0 0, .slice none 0 0, .string ⟨#[]⟩], .bool false]) ∧ Below w.heap.size w w' := by
  have HI := Aside0.mk hi
  have HLN := Aside0.mk hl
  have hba := below_alloc (Below.refl w.heap.size w) (.cells #[.slice none 0 0, .slice none 0 0, .slice none 0 0, .slice none 0 0, .int .i64 0, .string ⟨#[]⟩, .string a0, .int .i64 (i : Int), .int .i64 0, .string ⟨#[]⟩, .int .i64 0, .string ⟨#[]⟩, .slice none 0 0, .int .i64 0, .int .i64 0, .bool false, .bool false, .int .i64 0, .slice none 0 0, .slice none 0 0, .string ⟨#[]⟩] 38)
  have hna := blk_new w (.cells #[.slice none 0 0, .slice none 0 0, .slice none 0 0, .slice none 0 0, .int .i64 0, .string ⟨#[]⟩, .string a0, .int .i64 (i : Int), .int .i64 0, .string ⟨#[]⟩, .int .i64 0, .string ⟨#[]⟩, .slice none 0 0, .int .i64 0, .int .i64 0, .bool false, .bool false, .int .i64 0, .slice none 0 0, .slice none 0 0, .string ⟨#[]⟩] 38)
  obtain ⟨Wa, hWa⟩ : ∃ Wa, Wa = w.alloc (.cells #[.slice none 0 0, .slice none 0 0, .slice none 0 0, .slice none 0 0, .int .i64 0, .string ⟨#[]⟩, .string a0, .int .i64 (i : Int), .int .i64 0, .string ⟨#[]⟩, .int .i64 0, .string ⟨#[]⟩, .slice none 0 0, .int .i64 0, .int .i64 0, .bool false, .bool false, .int .i64 0, .slice none 0 0, .slice none 0 0, .string ⟨#[]⟩] 38) := ⟨_, rfl⟩
  have HWa := Aside0.mk hWa
  rw [← hWa] at hba hna
  have hsa : Wa.heap.size = w.heap.size + 1 := by rw [hWa]; simp
  have hbb := below_alloc (Below.refl Wa.heap.size Wa) (.cells #[.slice none 0 0, .slice none 0 0, .slice none 0 0, .slice none 0 0, .int .i64 0, .string ⟨#[]⟩, .string ⟨#[]⟩, .int .i64 0, .int .i64 0, .string ⟨#[]⟩, .int .i64 0, .string ⟨#[]⟩, .slice none 0 0, .int .i64 0, .int .i64 0, .bool false, .bool false, .int .i64 0, .slice none 0 0, .slice none 0 0, .string ⟨#[]⟩] 38)
  have hnb := blk_new Wa (.cells #[.slice none 0 0, .slice none 0 0, .slice none 0 0, .slice none 0 0, .int .i64 0, .string ⟨#[]⟩, .string ⟨#[]⟩, .int .i64 0, .int .i64 0, .string ⟨#[]⟩, .int .i64 0, .string ⟨#[]⟩, .slice none 0 0, .int .i64 0, .int .i64 0, .bool false, .bool false, .int .i64 0, .slice none 0 0, .slice none 0 0, .string ⟨#[]⟩] 38)
  obtain ⟨Wb, hWb⟩ : ∃ Wb, Wb = Wa.alloc (.cells #[.slice none 0 0, .slice none 0 0, .slice none 0 0, .slice none 0 0, .int .i64 0, .string ⟨#[]⟩, .string ⟨#[]⟩, .int .i64 0, .int .i64 0, .string ⟨#[]⟩, .int .i64 0, .string ⟨#[]⟩, .slice none 0 0, .int .i64 0, .int .i64 0, .bool false, .bool false, .int .i64 0, .slice none 0 0, .slice none 0 0, .string ⟨#[]⟩] 38) := ⟨_, rfl⟩
  have HWb := Aside0.mk hWb
  rw [← hWb] at hbb hnb
  have hna2 := blk_below hna hbb
  have hsb : Wb.heap.size = w.heap.size + 2 := by rw [hWb]; simp [hsa]
  rw [hsa] at hnb
  obtain ⟨qa, hqa⟩ : ∃ qa, w.heap.size = qa := ⟨_, rfl⟩
  have HB0 := Aside0.mk (hba.trans (hbb.mono hba.size))
  have hB0 := HB0.out
  rw [hqa] at hna2 hnb
  have HQA := Aside0.mk hqa
  obtain ⟨qb, hqb⟩ : ∃ qb, qa + 1 = qb := ⟨_, rfl⟩
  rw [hqb] at hnb
  have HQB := Aside0.mk hqb
  have HAB : Aside0 (qb ≠ qa) := ⟨by omega⟩
  have HLA : Aside0 (w.heap.size ≤ qa) := ⟨by omega⟩
  have HLB : Aside0 (w.heap.size ≤ qb) := ⟨by omega⟩
  have HSB : Aside0 (Wb.heap.size = qb + 1) := ⟨by omega⟩
  have NA := Aside0.mk hna2
  have NB := Aside0.mk hnb
  clear hba hna hWa hsa hbb hnb hWb hna2 hqa hqb hB0 hsb hi hl hs
  go_enter Try.func11, Try.ntmps11
  go_upto_region 1 with (fail)
  rw [← HWa.out, ← HWb.out, HQA.out, HQB.out]
  go_upto_region 4 with (first | (go_at_call 19; refine (split_Lines.calls _ ln rest false _ HLN.out).mono ?_; rintro e w4 ⟨rfl, hB⟩; have T4 := Aside0.mk (T3.out.trans (hB.below.mono T3.out.size)); have hn4 := blk_below NA.out T4.out; have hm4 := blk_below NB.out T4.out; have y6 : w4.cell? ⟨qa, 6, none⟩ = some (.string a0) := (blk_cell hn4 6).trans rfl; have y7 : w4.cell? ⟨qa, 7, none⟩ = some (.int .i64 (i : Int)) := (blk_cell hn4 7).trans rfl; have f7 : w4.frozen? ⟨qa, 7, none⟩ = false := blk_frozen hn4 7; have HN5 : Aside0 (w4.heap[qa]? = some (.cells #[.slice none 0 0, .slice none 0 0, .slice none 0 0, .slice none 0 0, .int .i64 0, .string ⟨#[]⟩, .string a0, .int .i64 (i : Int), .int .i64 0, .string ⟨#[]⟩, .int .i64 0, .string ⟨#[]⟩, .slice none 0 0, .int .i64 0, .int .i64 0, .bool false, .bool false, .int .i64 0, .slice none 0 0, .slice none 0 0, .string ⟨#[]⟩] 38 (0, 0))) := ⟨hn4⟩; have HM5 : Aside0 (w4.heap[qb]? = some (.cells #[.slice none 0 0, .slice none 0 0, .slice none 0 0, .slice none 0 0, .int .i64 0, .string ⟨#[]⟩, .string ⟨#[]⟩, .int .i64 0, .int .i64 0, .string ⟨#[]⟩, .int .i64 0, .string ⟨#[]⟩, .slice none 0 0, .int .i64 0, .int .i64 0, .bool false, .bool false, .int .i64 0, .slice none 0 0, .slice none 0 0, .string ⟨#[]⟩] 38 (0, 0))) := ⟨hm4⟩; have HB5 : Aside0 (Below w.heap.size w w4) := ⟨(HB0.out.trans (T4.out.mono HB0.out.size))⟩; clear hB hn4 hm4) | (go_at_call 20; refine (left_c HI.out).mono ?_; rintro e w3 ⟨rfl, hB⟩; have T3 := Aside0.mk hB; clear hB) | ((with_reducible refine gate_dst (N := 7) rfl ?_); refine load_event (p := 1) (ty := 38) rfl rfl rfl ?hp NA.out Try.underlying38 rfl (by kernel_rfl) ?_; (case hp => first | rfl | (go_simp; done))))
  obtain ⟨W5, hW5⟩ : ∃ W5, W5 = w4 := ⟨_, rfl⟩
  rw [← hW5] at HN5 HM5 HB5 ⊢
  clear hW5
  have hS0 : W5.drew.heap[qa]? = some (.cells #[.slice none 0 0, .slice none 0 0, .slice none 0 0, .slice none 0 0, .int .i64 0, .string ⟨#[]⟩, .string a0, .int .i64 (i : Int), .int .i64 0, .string ⟨#[]⟩, .int .i64 0, .string ⟨#[]⟩, .slice none 0 0, .int .i64 0, .int .i64 0, .bool false, .bool false, .int .i64 0, .slice none 0 0, .slice none 0 0, .string ⟨#[]⟩] 38 (0, 0)) := HN5.out
  refine wp_region_held_drew (S := (fun W' => W'.heap[qa]? = some (.cells #[.slice none 0 0, .slice none 0 0, .slice none 0 0, .slice none 0 0, .int .i64 0, .string ⟨#[]⟩, .string a0, .int .i64 (i : Int), .int .i64 0, .string ⟨#[]⟩, .int .i64 0, .string ⟨#[]⟩, .slice none 0 0, .int .i64 0, .int .i64 0, .bool false, .bool false, .int .i64 0, .slice none 0 0, .slice none 0 0, .string ⟨#[]⟩] 38 (0, 0)))) (by kernel_rfl) hS0 (fun hHeld => ?_)
  clear hHeld
  refine rg_take (i := 0) (dst := some 23) (v := ?_) (by kernel_rfl) (by kernel_rfl) (by kernel_rfl) (by kernel_rfl) (fun _ _ _ h => h) (by rfl) ?_ (by assumption) ?_
  rotate_left
  · intro o ho w' hSw
    cases ho
    clear hSw
    go_simp
    first | done | with_reducible rfl
  simp only [Act.put, List.setIfInBounds_toArray, List.set_cons_zero, List.set_cons_succ]
  refine rg_take (i := 1) (dst := some 24) (v := ?_) (by kernel_rfl) (by kernel_rfl) (by kernel_rfl) (by kernel_rfl) (fun _ _ _ h => h) (by rfl) ?_ (by assumption) ?_
  rotate_left
  · intro o ho w' hSw
    cases ho
    refine load_whole (ty := 38) (p := 1) ?_ ?_ hSw Try.underlying38 rfl (by kernel_rfl) <;> rfl
  simp only [Act.put, List.setIfInBounds_toArray, List.set_cons_zero, List.set_cons_succ]
  refine rg_take (i := 2) (dst := some 25) (v := ?_) (by kernel_rfl) (by kernel_rfl) (by kernel_rfl) (by kernel_rfl) (fun _ _ _ h => h) (by rfl) ?_ (by assumption) ?_
  rotate_left
  · intro o ho w' hSw
    cases ho
    clear hSw
    go_simp
    first | done | with_reducible rfl
  simp only [Act.put, List.setIfInBounds_toArray, List.set_cons_zero, List.set_cons_succ]
  refine rg_take (i := 3) (dst := some 2) (v := ?_) (by kernel_rfl) (by kernel_rfl) (by kernel_rfl) (by kernel_rfl) (fun _ _ _ h => h) (by rfl) ?_ (by assumption) ?_
  rotate_left
  · intro o ho w' hSw
    cases ho
    clear hSw
    go_simp
    first | done | with_reducible rfl
  simp only [Act.put, List.setIfInBounds_toArray, List.set_cons_zero, List.set_cons_succ]
  refine wpAnyH_ready (rs := [4]) (by kernel_rfl) (by simp) ?_
  refine AllReadyH.cons rfl (fun K hK => ?_) AllReadyH.nil
  refine store_step (g := qb) (W := W5.drew) (vs := [.slice none 0 0, .slice none 0 0, .slice none 0 0, .slice none 0 0, .int .i64 0, .string ⟨#[]⟩, .string a0, .int .i64 (i : Int), .int .i64 0, .string ⟨#[]⟩, .int .i64 0, .string ⟨#[]⟩, .slice none 0 0, .int .i64 0, .int .i64 0, .bool false, .bool false, .int .i64 0, .slice none 0 0, .slice none 0 0, .string ⟨#[]⟩]) rfl rfl rfl ?hp ?hv HM5.out ?hz ?ht ?h1 ?_
  case hp => first | rfl | (go_simp; done)
  case hv => first | rfl | (go_simp; done)
  case hz => rfl
  case ht => kernel_rfl
  case h1 => rfl
  intro v8 hW
  have HN8 : Aside0 (v8.heap[qb]? = some (.cells #[.slice none 0 0, .slice none 0 0, .slice none 0 0, .slice none 0 0, .int .i64 0, .string ⟨#[]⟩, .string a0, .int .i64 (i : Int), .int .i64 0, .string ⟨#[]⟩, .int .i64 0, .string ⟨#[]⟩, .slice none 0 0, .int .i64 0, .int .i64 0, .bool false, .bool false, .int .i64 0, .slice none 0 0, .slice none 0 0, .string ⟨#[]⟩] 38 (0, 0))) := ⟨by rw [hW]; exact setCells_all HM5.out rfl⟩
  have HA8 : Aside0 (v8.heap[qa]? = some (.cells #[.slice none 0 0, .slice none 0 0, .slice none 0 0, .slice none 0 0, .int .i64 0, .string ⟨#[]⟩, .string a0, .int .i64 (i : Int), .int .i64 0, .string ⟨#[]⟩, .int .i64 0, .string ⟨#[]⟩, .slice none 0 0, .int .i64 0, .int .i64 0, .bool false, .bool false, .int .i64 0, .slice none 0 0, .slice none 0 0, .string ⟨#[]⟩] 38 (0, 0))) := ⟨by rw [hW]; exact (far_setCells (Ne.symm HAB.out) _ _ _).trans HN5.out⟩
  have HB8 : Aside0 (Below w.heap.size w v8) := ⟨by rw [hW]; exact (HB5.out.trans (below_drew1 (Below.refl _ W5) |>.mono HB5.out.size)).trans (below_setCells HLB.out _ _ _)⟩
  clear hW
  refine hK.out _ _ HA8.out (fun hHeld => ?_)
  clear hK K hHeld hS0
  have hS0 := HA8.out
  refine rg_take (i := 5) (dst := some 4) (v := ?_) (by kernel_rfl) (by kernel_rfl) (by kernel_rfl) (by kernel_rfl) (fun _ _ _ h => h) (by rfl) ?_ (by assumption) ?_
  rotate_left
  · intro o ho w' hSw
    cases ho
    clear hSw
    go_simp
    first | done | with_reducible rfl
  simp only [Act.put, List.setIfInBounds_toArray, List.set_cons_zero, List.set_cons_succ]
  refine wpAnyH_done (by kernel_rfl) ?_ _
  clear hS0
  go_wp2
  exact bodyPost_ret (results_list (rs := [.tmp 2, .cell 3 38, .tmp 4]) (by kernel_rfl) (by simp) (Vals.tmp (Vals.cell (p := 3) (ty := 38) qb 38 #[.slice none 0 0, .slice none 0 0, .slice none 0 0, .slice none 0 0, .int .i64 0, .string ⟨#[]⟩, .string a0, .int .i64 (i : Int), .int .i64 0, .string ⟨#[]⟩, .int .i64 0, .string ⟨#[]⟩, .slice none 0 0, .int .i64 0, .int .i64 0, .bool false, .bool false, .int .i64 0, .slice none 0 0, .slice none 0 0, .string ⟨#[]⟩] (0, 0) _ rfl HN8.out Try.underlying38 rfl (by kernel_rfl) (Vals.tmp Vals.nil)))) rfl ⟨rfl, HB8.out⟩
set_option maxHeartbeats 8000000 in
set_option maxRecDepth 100000 in
theorem rest_c {w : World} {a0 : ByteArray} {i : Nat} (hi : i ≤ a0.size) :
    Calls Try.prog 12 #[.agg #[.slice none 0 0, .slice none 0 0, .slice none 0 0, .slice none 0 0, .int .i64 0, .string ⟨#[]⟩, .string a0, .int .i64 (i : Int), .int .i64 0, .string ⟨#[]⟩, .int .i64 0, .string ⟨#[]⟩, .slice none 0 0, .int .i64 0, .int .i64 0, .bool false, .bool false, .int .i64 0, .slice none 0 0, .slice none 0 0, .string ⟨#[]⟩]] w fun e w' => e = .returned (.tuple #[.string (a0.extract i a0.size), .agg #[.slice none 0 0, .slice none 0 0, .slice none 0 0, .slice none 0 0, .int .i64 0, .string ⟨#[]⟩, .string a0, .int .i64 (a0.size : Int), .int .i64 0, .string ⟨#[]⟩, .int .i64 0, .string ⟨#[]⟩, .slice none 0 0, .int .i64 0, .int .i64 0, .bool false, .bool false, .int .i64 0, .slice none 0 0, .slice none 0 0, .string ⟨#[]⟩]]) ∧ Below w.heap.size w w' := by
  have HI := Aside0.mk hi
  have hba := below_alloc (Below.refl w.heap.size w) (.cells #[.slice none 0 0, .slice none 0 0, .slice none 0 0, .slice none 0 0, .int .i64 0, .string ⟨#[]⟩, .string a0, .int .i64 (i : Int), .int .i64 0, .string ⟨#[]⟩, .int .i64 0, .string ⟨#[]⟩, .slice none 0 0, .int .i64 0, .int .i64 0, .bool false, .bool false, .int .i64 0, .slice none 0 0, .slice none 0 0, .string ⟨#[]⟩] 38)
  have hna := blk_new w (.cells #[.slice none 0 0, .slice none 0 0, .slice none 0 0, .slice none 0 0, .int .i64 0, .string ⟨#[]⟩, .string a0, .int .i64 (i : Int), .int .i64 0, .string ⟨#[]⟩, .int .i64 0, .string ⟨#[]⟩, .slice none 0 0, .int .i64 0, .int .i64 0, .bool false, .bool false, .int .i64 0, .slice none 0 0, .slice none 0 0, .string ⟨#[]⟩] 38)
  obtain ⟨Wa, hWa⟩ : ∃ Wa, Wa = w.alloc (.cells #[.slice none 0 0, .slice none 0 0, .slice none 0 0, .slice none 0 0, .int .i64 0, .string ⟨#[]⟩, .string a0, .int .i64 (i : Int), .int .i64 0, .string ⟨#[]⟩, .int .i64 0, .string ⟨#[]⟩, .slice none 0 0, .int .i64 0, .int .i64 0, .bool false, .bool false, .int .i64 0, .slice none 0 0, .slice none 0 0, .string ⟨#[]⟩] 38) := ⟨_, rfl⟩
  have HWa := Aside0.mk hWa
  rw [← hWa] at hba hna
  have hsa : Wa.heap.size = w.heap.size + 1 := by rw [hWa]; simp
  have hbb := below_alloc (Below.refl Wa.heap.size Wa) (.cells #[.slice none 0 0, .slice none 0 0, .slice none 0 0, .slice none 0 0, .int .i64 0, .string ⟨#[]⟩, .string ⟨#[]⟩, .int .i64 0, .int .i64 0, .string ⟨#[]⟩, .int .i64 0, .string ⟨#[]⟩, .slice none 0 0, .int .i64 0, .int .i64 0, .bool false, .bool false, .int .i64 0, .slice none 0 0, .slice none 0 0, .string ⟨#[]⟩] 38)
  have hnb := blk_new Wa (.cells #[.slice none 0 0, .slice none 0 0, .slice none 0 0, .slice none 0 0, .int .i64 0, .string ⟨#[]⟩, .string ⟨#[]⟩, .int .i64 0, .int .i64 0, .string ⟨#[]⟩, .int .i64 0, .string ⟨#[]⟩, .slice none 0 0, .int .i64 0, .int .i64 0, .bool false, .bool false, .int .i64 0, .slice none 0 0, .slice none 0 0, .string ⟨#[]⟩] 38)
  obtain ⟨Wb, hWb⟩ : ∃ Wb, Wb = Wa.alloc (.cells #[.slice none 0 0, .slice none 0 0, .slice none 0 0, .slice none 0 0, .int .i64 0, .string ⟨#[]⟩, .string ⟨#[]⟩, .int .i64 0, .int .i64 0, .string ⟨#[]⟩, .int .i64 0, .string ⟨#[]⟩, .slice none 0 0, .int .i64 0, .int .i64 0, .bool false, .bool false, .int .i64 0, .slice none 0 0, .slice none 0 0, .string ⟨#[]⟩] 38) := ⟨_, rfl⟩
  have HWb := Aside0.mk hWb
  rw [← hWb] at hbb hnb
  have hna2 := blk_below hna hbb
  have hsb : Wb.heap.size = w.heap.size + 2 := by rw [hWb]; simp [hsa]
  rw [hsa] at hnb
  obtain ⟨qa, hqa⟩ : ∃ qa, w.heap.size = qa := ⟨_, rfl⟩
  have HB0 := Aside0.mk (hba.trans (hbb.mono hba.size))
  have hB0 := HB0.out
  rw [hqa] at hna2 hnb
  have HQA := Aside0.mk hqa
  obtain ⟨qb, hqb⟩ : ∃ qb, qa + 1 = qb := ⟨_, rfl⟩
  rw [hqb] at hnb
  have HQB := Aside0.mk hqb
  have HAB : Aside0 (qb ≠ qa) := ⟨by omega⟩
  have HLA : Aside0 (w.heap.size ≤ qa) := ⟨by omega⟩
  have HLB : Aside0 (w.heap.size ≤ qb) := ⟨by omega⟩
  have HSB : Aside0 (Wb.heap.size = qb + 1) := ⟨by omega⟩
  have NA := Aside0.mk hna2
  have NB := Aside0.mk hnb
  clear hba hna hWa hsa hbb hnb hWb hna2 hqa hqb hB0 hsb hi
  go_enter Try.func12, Try.ntmps12
  go_upto_region 1 with (fail)
  rw [← HWa.out, ← HWb.out, HQA.out, HQB.out]
  go_upto_region 3 with (first | (go_at_call 20; refine (left_c HI.out).mono ?_; rintro e w4 ⟨rfl, hB⟩; have T4 := Aside0.mk hB; have hn4 := blk_below NA.out T4.out; have hm4 := blk_below NB.out T4.out; have y6 : w4.cell? ⟨qa, 6, none⟩ = some (.string a0) := (blk_cell hn4 6).trans rfl; have y7 : w4.cell? ⟨qa, 7, none⟩ = some (.int .i64 (i : Int)) := (blk_cell hn4 7).trans rfl; have f7 : w4.frozen? ⟨qa, 7, none⟩ = false := blk_frozen hn4 7; have HN5 : Aside0 ((w4.setCell ⟨qa, 7, none⟩ (.int .i64 (a0.size : Int))).heap[qa]? = some (.cells #[.slice none 0 0, .slice none 0 0, .slice none 0 0, .slice none 0 0, .int .i64 0, .string ⟨#[]⟩, .string a0, .int .i64 (a0.size : Int), .int .i64 0, .string ⟨#[]⟩, .int .i64 0, .string ⟨#[]⟩, .slice none 0 0, .int .i64 0, .int .i64 0, .bool false, .bool false, .int .i64 0, .slice none 0 0, .slice none 0 0, .string ⟨#[]⟩] 38 (0, 0))) := ⟨blk_put hn4 7 (.int .i64 (a0.size : Int)) rfl⟩; have HM5 : Aside0 ((w4.setCell ⟨qa, 7, none⟩ (.int .i64 (a0.size : Int))).heap[qb]? = some (.cells #[.slice none 0 0, .slice none 0 0, .slice none 0 0, .slice none 0 0, .int .i64 0, .string ⟨#[]⟩, .string ⟨#[]⟩, .int .i64 0, .int .i64 0, .string ⟨#[]⟩, .int .i64 0, .string ⟨#[]⟩, .slice none 0 0, .int .i64 0, .int .i64 0, .bool false, .bool false, .int .i64 0, .slice none 0 0, .slice none 0 0, .string ⟨#[]⟩] 38 (0, 0))) := ⟨blk_far hm4 HAB.out _⟩; have HB5 : Aside0 (Below w.heap.size w (w4.setCell ⟨qa, 7, none⟩ (.int .i64 (a0.size : Int)))) := ⟨(HB0.out.trans (T4.out.mono HB0.out.size)).setCell (p := ⟨qa, 7, none⟩) HLA.out _⟩; clear hB hn4 hm4) | ((with_reducible refine gate_dst (N := 5) rfl ?_); refine load_event (p := 1) (ty := 38) rfl rfl rfl ?hp NA.out Try.underlying38 rfl (by kernel_rfl) ?_; (case hp => first | rfl | (go_simp; done))))
  obtain ⟨W5, hW5⟩ : ∃ W5, W5 = (w4.setCell ⟨qa, 7, none⟩ (.int .i64 (a0.size : Int))) := ⟨_, rfl⟩
  rw [← hW5] at HN5 HM5 HB5 ⊢
  clear hW5
  have hS0 : W5.drew.heap[qa]? = some (.cells #[.slice none 0 0, .slice none 0 0, .slice none 0 0, .slice none 0 0, .int .i64 0, .string ⟨#[]⟩, .string a0, .int .i64 (a0.size : Int), .int .i64 0, .string ⟨#[]⟩, .int .i64 0, .string ⟨#[]⟩, .slice none 0 0, .int .i64 0, .int .i64 0, .bool false, .bool false, .int .i64 0, .slice none 0 0, .slice none 0 0, .string ⟨#[]⟩] 38 (0, 0)) := HN5.out
  refine wp_region_held_drew (S := (fun W' => W'.heap[qa]? = some (.cells #[.slice none 0 0, .slice none 0 0, .slice none 0 0, .slice none 0 0, .int .i64 0, .string ⟨#[]⟩, .string a0, .int .i64 (a0.size : Int), .int .i64 0, .string ⟨#[]⟩, .int .i64 0, .string ⟨#[]⟩, .slice none 0 0, .int .i64 0, .int .i64 0, .bool false, .bool false, .int .i64 0, .slice none 0 0, .slice none 0 0, .string ⟨#[]⟩] 38 (0, 0)))) (by kernel_rfl) hS0 (fun hHeld => ?_)
  clear hHeld
  refine rg_take (i := 0) (dst := some 13) (v := ?_) (by kernel_rfl) (by kernel_rfl) (by kernel_rfl) (by kernel_rfl) (fun _ _ _ h => h) (by rfl) ?_ (by assumption) ?_
  rotate_left
  · intro o ho w' hSw
    cases ho
    clear hSw
    go_simp
    first | done | with_reducible rfl
  simp only [Act.put, List.setIfInBounds_toArray, List.set_cons_zero, List.set_cons_succ]
  refine rg_take (i := 1) (dst := some 14) (v := ?_) (by kernel_rfl) (by kernel_rfl) (by kernel_rfl) (by kernel_rfl) (fun _ _ _ h => h) (by rfl) ?_ (by assumption) ?_
  rotate_left
  · intro o ho w' hSw
    cases ho
    refine load_whole (ty := 38) (p := 1) ?_ ?_ hSw Try.underlying38 rfl (by kernel_rfl) <;> rfl
  simp only [Act.put, List.setIfInBounds_toArray, List.set_cons_zero, List.set_cons_succ]
  refine rg_take (i := 2) (dst := some 2) (v := ?_) (by kernel_rfl) (by kernel_rfl) (by kernel_rfl) (by kernel_rfl) (fun _ _ _ h => h) (by rfl) ?_ (by assumption) ?_
  rotate_left
  · intro o ho w' hSw
    cases ho
    clear hSw
    go_simp
    first | done | with_reducible rfl
  simp only [Act.put, List.setIfInBounds_toArray, List.set_cons_zero, List.set_cons_succ]
  refine wpAnyH_ready (rs := [3]) (by kernel_rfl) (by simp) ?_
  refine AllReadyH.cons rfl (fun K hK => ?_) AllReadyH.nil
  refine store_step (g := qb) (W := W5.drew) (vs := [.slice none 0 0, .slice none 0 0, .slice none 0 0, .slice none 0 0, .int .i64 0, .string ⟨#[]⟩, .string a0, .int .i64 (a0.size : Int), .int .i64 0, .string ⟨#[]⟩, .int .i64 0, .string ⟨#[]⟩, .slice none 0 0, .int .i64 0, .int .i64 0, .bool false, .bool false, .int .i64 0, .slice none 0 0, .slice none 0 0, .string ⟨#[]⟩]) rfl rfl rfl ?hp ?hv HM5.out ?hz ?ht ?h1 ?_
  case hp => first | rfl | (go_simp; done)
  case hv => first | rfl | (go_simp; done)
  case hz => rfl
  case ht => kernel_rfl
  case h1 => rfl
  intro v8 hW
  have HN8 : Aside0 (v8.heap[qb]? = some (.cells #[.slice none 0 0, .slice none 0 0, .slice none 0 0, .slice none 0 0, .int .i64 0, .string ⟨#[]⟩, .string a0, .int .i64 (a0.size : Int), .int .i64 0, .string ⟨#[]⟩, .int .i64 0, .string ⟨#[]⟩, .slice none 0 0, .int .i64 0, .int .i64 0, .bool false, .bool false, .int .i64 0, .slice none 0 0, .slice none 0 0, .string ⟨#[]⟩] 38 (0, 0))) := ⟨by rw [hW]; exact setCells_all HM5.out rfl⟩
  have HA8 : Aside0 (v8.heap[qa]? = some (.cells #[.slice none 0 0, .slice none 0 0, .slice none 0 0, .slice none 0 0, .int .i64 0, .string ⟨#[]⟩, .string a0, .int .i64 (a0.size : Int), .int .i64 0, .string ⟨#[]⟩, .int .i64 0, .string ⟨#[]⟩, .slice none 0 0, .int .i64 0, .int .i64 0, .bool false, .bool false, .int .i64 0, .slice none 0 0, .slice none 0 0, .string ⟨#[]⟩] 38 (0, 0))) := ⟨by rw [hW]; exact (far_setCells (Ne.symm HAB.out) _ _ _).trans HN5.out⟩
  have HB8 : Aside0 (Below w.heap.size w v8) := ⟨by rw [hW]; exact (HB5.out.trans (below_drew1 (Below.refl _ W5) |>.mono HB5.out.size)).trans (below_setCells HLB.out _ _ _)⟩
  clear hW
  refine hK.out _ _ HA8.out (fun hHeld => ?_)
  clear hK K hHeld hS0
  have hS0 := HA8.out
  refine wpAnyH_done (by kernel_rfl) ?_ _
  clear hS0
  go_wp2
  exact bodyPost_ret (results_tc (p := 3) (u := 2) (ty := 38) (by kernel_rfl) _ _ qb 38 #[.slice none 0 0, .slice none 0 0, .slice none 0 0, .slice none 0 0, .int .i64 0, .string ⟨#[]⟩, .string a0, .int .i64 (a0.size : Int), .int .i64 0, .string ⟨#[]⟩, .int .i64 0, .string ⟨#[]⟩, .slice none 0 0, .int .i64 0, .int .i64 0, .bool false, .bool false, .int .i64 0, .slice none 0 0, .slice none 0 0, .string ⟨#[]⟩] (0, 0) _ rfl HN8.out Try.underlying38 rfl (by kernel_rfl)) rfl ⟨rfl, HB8.out⟩
end Go.Proofs.Ytikninibkljnnaa.Hnd
