/- Contracts of the calls, by hand. -/
import Derived.Test.YtikninibkljnnaaQPortLinesx4
import Derived.RangeFuncNested
import Derived.RangeFuncBound
import Derived.RangeFuncCalls
import Derived.RangeFuncLeaves
import Derived.RangeFuncBox
import Derived.Shelf.Abstract
import Derived.Shelf.RegionOpen
import Derived.OwnWalkIn
import Derived.TacticsInMore
import Derived.LoopNIn
import Derived.LoopIn
import Derived.Sort.QuietIn
import Derived.Sort.CutIn
import Derived.Stop.RegionWithIn
import Derived.StillTailTactics
import Derived.StillTail
import Derived.Deep.RegionHeld
import Derived.StillTailTactics
namespace Go.Proofs.Ytikninibkljnnaa.Hnd
open Go.RowKit Go.Proofs.Ytikninibkljnnaa.QPortLines Go.Proofs.YtikninibkljnnaaW.PrintWords Go.Proofs.YtikninibkljnnaaW.PrintLast  Go.Shelf
set_option linter.unusedVariables false
set_option linter.unusedSimpArgs false
set_option linter.unusedVariables false
set_option linter.unusedSimpArgs false
/-! A whole struct put into a block: one step, however many cells. -/
section
variable {P : Program} {ops : Array Oper} {rest : List Oper} {o : Oper} {a : Act} {Q : Exit → Act → World → Prop}
theorem setCells_blk {g : Nat} {e : TypeId} : ∀ (vs : List Value) (W : World) (pre post : List Value), post.length = vs.length → W.heap[g]? = some (.cells (pre ++ post).toArray e (0, 0)) → (W.setCells g pre.length vs).heap[g]? = some (.cells (pre ++ vs).toArray e (0, 0))
  | [], W, pre, post, hl, h => by
    obtain rfl : post = [] := List.length_eq_zero_iff.1 hl
    exact h
  | v :: vs, W, pre, [], hl, h => by simp at hl
  | v :: vs, W, pre, p :: post, hl, h => by
    have h1 := blk_set h pre.length v
    have e1 : (pre ++ p :: post).toArray.setIfInBounds pre.length v = (pre ++ [v] ++ post).toArray := by simp
    rw [e1] at h1
    have h2 := setCells_blk vs (W.setCell ⟨g, pre.length, none⟩ v) (pre ++ [v]) post (by simpa using hl) h1
    have e2 : pre ++ [v] ++ vs = pre ++ v :: vs := by simp
    rw [e2, List.length_append] at h2
    exact h2
theorem setCells_all {g : Nat} {e : TypeId} {vs : List Value} {W : World} {zs : Array Value} (h : W.heap[g]? = some (.cells zs e (0, 0))) (hl : zs.size = vs.length) : (W.setCells g 0 vs).heap[g]? = some (.cells vs.toArray e (0, 0)) :=
  setCells_blk vs W [] zs.toList (by simpa using hl) (by simpa using h)
theorem R_setCells {α : Type} {d : Kd α} {e : TypeId} {base : Nat} {ok : Nat → Prop} {v : Value} {xs : List α} {g t : Nat} (ht : ∀ q, q ∈ e :: d.E → q ≠ t) : ∀ (vs : List Value) (o : Nat) (W : World) (zs : Array Value), W.heap[g]? = some (.cells zs t (0, 0)) → Kd.R d e W base ok v xs → Kd.R d e (W.setCells g o vs) base ok v xs
  | [], _, _, _, _, h => h
  | u :: vs, o, W, zs, hb, h => R_setCells ht vs (o + 1) _ _ (blk_set hb o u) (Kd.R_set h hb ht o u)
theorem below_setCells {B g : Nat} (hg : B ≤ g) : ∀ (vs : List Value) (o : Nat) (w : World), Below B w (w.setCells g o vs)
  | [], _, w => Below.refl B w
  | v :: r, o, w => ((Below.refl B w).setCell (p := ⟨g, o, none⟩) hg v).trans (below_setCells hg r (o + 1) _)
theorem far_setCells {g k : Nat} (hk : k ≠ g) : ∀ (vs : List Value) (o : Nat) (W : World), (W.setCells g o vs).heap[k]? = W.heap[k]?
  | [], _, _ => rfl
  | v :: vs, o, W => (far_setCells hk vs (o + 1) _).trans (Below.heap_setCell W ⟨g, o, none⟩ v k hk)
/-- A store of a whole struct: the world behind it is a letter. -/
theorem store_all {t : TypeId} {p : Tmp} {v : Operand} {g : Nat} {W : World} {vs : List Value} {zs : Array Value} {e : TypeId} (hgd : o.guard = none) (hN : o.dst = none) (ho : o.op = .store t (.tmp p) v)
    (hp : a.eval (.tmp p) = .pointer (some ⟨g, 0, none⟩)) (hv : a.eval v = .agg vs.toArray) (hb : W.heap[g]? = some (.cells zs e (0, 0))) (hz : zs.size = vs.length) (ht : (P.info? t).map (·.size) = some vs.length) (h1 : (vs.all fun q => q.oneCell') = true)
    (h : ∀ w', w' = W.setCells g 0 vs → wpList P ops Q rest a w') : wpList P ops Q (o :: rest) a W := by
  refine store_event hgd ho hN (w1 := W.setCells g 0 vs) ?_ h
  have hrun : (Instr.storeAt t (.pointer (some ⟨g, 0, none⟩)) (.agg vs.toArray)).run P W = .ok () (W.setCells g 0 vs) :=
    run_store_run t (.agg vs.toArray) vs hb (by simp [Value.cells]) ht (by omega) (fun q hq => List.all_eq_true.1 h1 q hq)
  unfold execOp
  simp only [ho, hp, hv, Sem.run_bind, Sem.run_pure, Result.andThen_ok, hrun]
/-- A load of a whole struct. -/
theorem load_whole {ty : TypeId} {p : Tmp} {g : Nat} {t : TypeId} {cs : Array Value} {d : TypeDesc} {w : World} (ho : o.op = .load ty (.tmp p)) (hp : a.eval (.tmp p) = .pointer (some ⟨g, 0, none⟩)) (hg : w.heap[g]? = some (.cells cs t (0, 0)))
    (hu : P.underlying ty = some d) (hd : (match d with | .struct _ | .array _ _ => true | _ => false) = true) (hi : (P.info? ty).map (·.size) = some cs.size) : (execOp a.eval o).run P w = .ok (.value (.agg cs)) w := by
  unfold execOp
  simp only [ho, hp, Instr.loadAt, Instr.sureAddr, Sem.run_bind, Sem.run_pure, Result.andThen_ok, run_loadVar_row w g t ty cs (0, 0) d hg hu hd hi]
theorem load_event {N : Tmp} {ty : TypeId} {p : Tmp} {g : Nat} {t : TypeId} {cs : Array Value} {d : TypeDesc} {W : World} (hgd : o.guard = none) (hN : o.dst = some N) (ho : o.op = .load ty (.tmp p)) (hp : a.eval (.tmp p) = .pointer (some ⟨g, 0, none⟩)) (hg : W.heap[g]? = some (.cells cs t (0, 0)))
    (hu : P.underlying ty = some d) (hd : (match d with | .struct _ | .array _ _ => true | _ => false) = true) (hi : (P.info? ty).map (·.size) = some cs.size) (h : wpList P ops Q rest (a.put o.dst (.agg cs)) W) : wpList P ops Q (o :: rest) a W := by
  refine wpList_plain hgd fun K hK => ?_
  unfold Oper.wp
  rw [load_whole ho hp hg hu hd hi]
  exact hK _ _ h
theorem store_step {Kc : Act → World → Prop} {t : TypeId} {p : Tmp} {v : Operand} {g : Nat} {W : World} {vs : List Value} {zs : Array Value} {e : TypeId} (hw : Region.wanted o (yielded ops a.tmps) = true) (hN : o.dst = none) (ho : o.op = .store t (.tmp p) v)
    (hp : a.eval (.tmp p) = .pointer (some ⟨g, 0, none⟩)) (hv : a.eval v = .agg vs.toArray) (hb : W.heap[g]? = some (.cells zs e (0, 0))) (hz : zs.size = vs.length) (ht : (P.info? t).map (·.size) = some vs.length) (h1 : (vs.all fun q => q.oneCell') = true)
    (h : ∀ w', w' = W.setCells g 0 vs → Kc a w') : if Region.wanted o (yielded ops a.tmps) = true then Oper.wp P o a W Kc Q else Kc (a.put o.dst undef) W := by
  rw [if_pos hw]
  have hrun : (Instr.storeAt t (.pointer (some ⟨g, 0, none⟩)) (.agg vs.toArray)).run P W = .ok () (W.setCells g 0 vs) :=
    run_store_run t (.agg vs.toArray) vs hb (by simp [Value.cells]) ht (by omega) (fun q hq => List.all_eq_true.1 h1 q hq)
  unfold Oper.wp execOp
  simp only [ho, hp, hv, Sem.run_bind, Sem.run_pure, Result.andThen_ok, hrun]
  show Kc (a.put o.dst undef) _
  rw [hN]
  exact h _ rfl
end
end Go.Proofs.Ytikninibkljnnaa.Hnd
