/- Contracts of the calls, by hand. -/
import Derived.Test.YtekebjkcolhcoaaQEnvOwnx
import Derived.Test.YtekebjkcolhcoaaEnvH
import Derived.RangeFuncNested
import Derived.RangeFuncBound
import Derived.RangeFuncCalls
import Derived.RangeFuncLeaves
import Derived.RangeFuncBox
import Derived.Shelf.Abstract
import Derived.Shelf.RegionOpen
import Derived.OwnWalkIn
import Derived.TacticsInMore
import Derived.LoopNIn
import Derived.LoopIn
import Derived.Sort.QuietIn
import Derived.Sort.CutIn
import Derived.Stop.RegionWithIn
import Derived.StillTailTactics
import Derived.StillTail
import Derived.Deep.RegionHeld
namespace Go.Proofs.Ytekebjkcolhcoaa.Hnd
open Go.RowKit Go.Proofs.Ytekebjkcolhcoaa.QEnvOwn Go.Proofs.YtekebjkcolhcoaaW.PrintWords Go.Proofs.YtekebjkcolhcoaaW.PrintLast  Go.Shelf
set_option linter.unusedVariables false
set_option linter.unusedSimpArgs false
set_option linter.unusedVariables false
set_option linter.unusedSimpArgs false
open Go
section
variable {P : Program} {ops : Array Oper} {Q : Exit → Act → World → Prop} {md : Region.Mode}
theorem countP_lt {p q : Nat → Bool} : ∀ {l : List Nat} {i : Nat}, (∀ x ∈ l, q x = true → p x = true) → i ∈ l → p i = true → q i = false → l.countP q < l.countP p
  | x :: l, i, h, hi, hp, hq => by
    have hle : l.countP q ≤ l.countP p := List.countP_mono_left (fun y hy => h y (List.mem_cons_of_mem _ hy))
    rcases List.mem_cons.1 hi with rfl | hi
    · rw [List.countP_cons_of_neg (by simp [hq]), List.countP_cons_of_pos hp]
      omega
    · have := countP_lt (fun y hy => h y (List.mem_cons_of_mem _ hy)) hi hp hq
      rw [List.countP_cons, List.countP_cons]
      have hx := h x (by simp)
      cases hqx : q x with
      | false => simp; omega
      | true => rw [hx hqx]; simp; omega
/-- How many have not come up. -/
def unl (ops : Array Oper) (listed : Array Bool) : Nat := (List.range ops.size).countP fun i => !listed.getD i true
theorem unl_set {listed : Array Bool} {i : Nat} (hi : i ∈ Region.ready md ops listed) : unl ops (listed.setIfInBounds i true) < unl ops listed := by
  obtain ⟨hun, oi, hoi, _⟩ := mem_ready.1 hi
  have hlt : i < ops.size := (Array.getElem?_eq_some_iff.1 hoi).1
  refine countP_lt (i := i) (fun x _ hx => ?_) (List.mem_range.2 hlt) (by rw [hun]; rfl) ?_
  · by_cases hxi : i = x
    · subst hxi
      rw [hun]
      rfl
    · rw [getD_set_ne true hxi] at hx
      exact hx
  · have : (listed.setIfInBounds i true).getD i true = true := by
      rcases Nat.lt_or_ge i listed.size with h | h
      · simp [h]
      · simp [Array.getElem?_eq_none h]
    rw [this]
    rfl
/-- One condition on what has come up, on the state and on the world, kept by every operation that may come up: whatever order, it holds at the end. -/
theorem wpAny_inv (I : Array Bool → Act → World → Prop) (hstep : ∀ listed a w, I listed a w → ∀ i ∈ Region.ready md ops listed, wpOp P ops Q i (fun a' w' => I (listed.setIfInBounds i true) a' w') a w)
    (hend : ∀ listed a w, I listed a w → Region.ready md ops listed = [] → Q .normal a w) : ∀ (fuel : Nat) (listed : Array Bool) (a : Act) (w : World), unl ops listed ≤ fuel → I listed a w → wpAny P md ops Q fuel listed a w
  | 0, listed, a, w, hu, hI => by
    have hr : Region.ready md ops listed = [] := by
      rw [List.eq_nil_iff_forall_not_mem]
      intro i hi
      have := unl_set hi
      omega
    exact ⟨hr, hend listed a w hI hr⟩
  | fuel + 1, listed, a, w, hu, hI => ⟨hend listed a w hI, fun i hi => wpOp_mono (fun a' w' h => wpAny_inv I hstep hend fuel _ a' w' (by have := unl_set hi; omega) h) (hstep listed a w hI i hi)⟩
theorem wp_region_inv {id : Nat} {a : Act} {w : World} (I : Array Bool → Act → World → Prop) (hm : P.follows .mixedOrders = true) (h0 : I (Array.replicate ops.size false) a w.drew)
    (hstep : ∀ listed a w, I listed a w → ∀ i ∈ Region.ready .any ops listed, wpOp P ops Q i (fun a' w' => I (listed.setIfInBounds i true) a' w') a w)
    (hend : ∀ listed a w, I listed a w → Region.ready .any ops listed = [] → Q .normal a w) : (Code.region id ops true).wp P Q a w :=
  wp_region_any hm (wpAny_inv I hstep hend _ _ _ _ (by unfold unl; exact Nat.le_trans List.countP_le_length (by rw [List.length_range]; exact Nat.le_refl _)) h0)
end
/-- What has come up. -/
def Lst (listed : Array Bool) (i : Nat) : Prop := listed.getD i true = true
theorem lst_self (listed : Array Bool) (i : Nat) : Lst (listed.setIfInBounds i true) i := by
  unfold Lst
  rcases Nat.lt_or_ge i listed.size with h | h
  · simp [h]
  · simp [Array.getElem?_eq_none h]
theorem lst_ne {listed : Array Bool} {i j : Nat} (h : i ≠ j) : Lst (listed.setIfInBounds i true) j ↔ Lst listed j := by
  unfold Lst
  rw [getD_set_ne true h]
theorem lst_not {listed : Array Bool} {i : Nat} {p : Prop} (h : ¬ Lst (listed.setIfInBounds i true) i) : p := absurd (lst_self listed i) h
theorem ready_not {ops : Array Oper} {md : Region.Mode} {listed : Array Bool} {i : Nat} (hi : i ∈ Region.ready md ops listed) : ¬ Lst listed i := fun h => by
  have := (mem_ready.1 hi).1
  unfold Lst at h
  rw [this] at h
  cases h
theorem ready_dep {ops : Array Oper} {md : Region.Mode} {listed : Array Bool} {m i : Nat} (hi : m ∈ Region.ready md ops listed) (hw : Region.waitsFor md ops m i = true) : Lst listed i := by
  obtain ⟨om, hom, e, he, hb, rfl⟩ := Region.waitsFor_spec hw
  obtain ⟨_, o, ho, hall⟩ := mem_ready.1 hi
  obtain rfl : om = o := Option.some.inj (hom.symm.trans ho)
  have := hall e he hb
  unfold Lst
  rcases Nat.lt_or_ge e.on listed.size with h' | h'
  · simp [h'] at this ⊢
    exact this
  · simp [Array.getElem?_eq_none h']
def Region.falls (ops : Array Oper) : Bool := (List.range ops.size).all fun i => ((ops[i]?).map fun o => o.after.all fun e => decide (e.on < i)).getD true
theorem all_listed {ops : Array Oper} {md : Region.Mode} {listed : Array Bool} (hc : Region.falls ops = true) (hs : listed.size = ops.size) (h : Region.ready md ops listed = []) : ∀ n i, i < n → i < ops.size → Lst listed i
  | 0, _, hi, _ => absurd hi (Nat.not_lt_zero _)
  | n + 1, i, hi, hlt => by
    have ih := all_listed hc hs h n
    cases hb : listed.getD i true with
    | true => exact hb
    | false =>
      have hm : i ∈ Region.ready md ops listed := by
        refine mem_ready.2 ⟨hb, ops[i], Array.getElem?_eq_getElem hlt, fun e he _ => ?_⟩
        have h1 := List.all_eq_true.1 hc i (List.mem_range.2 hlt)
        rw [Array.getElem?_eq_getElem hlt] at h1
        have h2 : e.on < i := by
          have h1 : (ops[i]).after.all (fun e => decide (e.on < i)) = true := h1
          rw [Array.all_eq_true] at h1
          obtain ⟨j, hj, rfl⟩ := Array.mem_iff_getElem.1 he
          exact of_decide_eq_true (h1 j hj)
        have h3 := ih e.on (by omega) (by omega)
        unfold Lst at h3
        have h4 : e.on < listed.size := by omega
        simp [h4] at h3 ⊢
        exact h3
      rw [h] at hm
      cases hm
theorem lst_none {n i : Nat} (h : i < n) : ¬ Lst (Array.replicate n false) i := by
  unfold Lst
  simp [h]
theorem lst_mono {listed : Array Bool} {i j : Nat} (h : Lst listed j) : Lst (listed.setIfInBounds i true) j := by
  by_cases e : i = j
  · subst e; exact lst_self _ _
  · exact (lst_ne e).2 h
/-- What has come up, with all that it waits for. -/
def Closed (ops : Array Oper) (listed : Array Bool) : Prop := ∀ m j, Region.waitsFor .any ops m j = true → Lst listed m → Lst listed j
theorem wp_region_keys {P : Program} {ops : Array Oper} {Q : Exit → Act → World → Prop} {id : Nat} {a : Act} {w : World} (I : Array Bool → Act → World → Prop) (hm : P.follows .mixedOrders = true) (hc : Region.falls ops = true) (h0 : I (Array.replicate ops.size false) a w.drew)
    (hstep : ∀ listed a w, I listed a w → Closed ops listed → ∀ i, i < ops.size → i ∈ Region.ready .any ops listed → wpOp P ops Q i (fun a' w' => I (listed.setIfInBounds i true) a' w') a w)
    (hend : ∀ listed a w, I listed a w → (∀ i, i < ops.size → Lst listed i) → Q .normal a w) : (Code.region id ops true).wp P Q a w :=
  wp_region_inv (fun l a w => (l.size = ops.size ∧ Closed ops l) ∧ I l a w) hm
    ⟨⟨by simp, fun m j hw h => by
      obtain ⟨om, hom, _⟩ := Region.waitsFor_spec hw
      exact absurd h (lst_none (Array.getElem?_eq_some_iff.1 hom).1)⟩, h0⟩
    (fun l a w h i hi => wpOp_mono (fun _ _ h' => ⟨⟨by simp [h.1.1], fun m j hw hl => by
      by_cases e : i = m
      · subst e; exact lst_mono (ready_dep hi hw)
      · exact lst_mono (h.1.2 m j hw ((lst_ne e).1 hl))⟩, h'⟩) (hstep l a w h.2 h.1.2 i (by obtain ⟨_, o, ho, _⟩ := mem_ready.1 hi; exact (Array.getElem?_eq_some_iff.1 ho).1) hi))
    (fun l a w h hr => hend l a w h.2 (fun i hi => all_listed hc h.1.1 hr (i + 1) i (by omega) hi))
theorem keys_step {P : Program} {ops : Array Oper} {Q : Exit → Act → World → Prop} {i : Nat} {o : Oper} {K : Act → World → Prop} {a : Act} {w : World} (ho : ops[i]? = some o)
    (h : ∀ K' : Act → World → Prop, Shut (∀ a w, K a w → K' a w) → if Region.wanted o (yielded ops a.tmps) = true then Oper.wp P o a w K' Q else K' (a.put o.dst undef) w) : wpOp P ops Q i K a w :=
  wpOp_step ho (fun K' hK => h K' hK)
end Go.Proofs.Ytekebjkcolhcoaa.Hnd
