/- Contracts of the calls, by hand. -/
import Derived.Test.YtkicekddkgehoaaDoorQMarkBytesx2
import Derived.Test.YtkicekddkgehoaaDoorNet10
import Derived.RangeFuncNested
import Derived.RangeFuncBound
import Derived.RangeFuncCalls
import Derived.RangeFuncLeaves
import Derived.RangeFuncBox
import Derived.Shelf.Abstract
import Derived.Shelf.RegionOpen
import Derived.OwnWalkIn
import Derived.TacticsInMore
import Derived.LoopNIn
import Derived.LoopIn
import Derived.Sort.QuietIn
import Derived.Sort.CutIn
import Derived.Stop.RegionWithIn
import Derived.StillTailTactics
import Derived.Shelf.Strconv.AppendIntPublic10
import Derived.Shelf.Strconv.ErrVarParseInt
import Derived.Shelf.Bytes.IndexByte
import Derived.Lib.ItoaLen
import Derived.Lib.ParseIntBTie
import Derived.Lib.AtoiBound
import Derived.Deep.Upon
namespace Go.Proofs.YtkicekddkgehoaaDoor.Hnd
open Go.RowKit Go.Proofs.YtkicekddkgehoaaDoor.QMarkBytes Go.Proofs.YtkicekddkgehoaaDoorW.PrintWords Go.Proofs.YtkicekddkgehoaaDoorW.PrintLast  Go.Shelf
set_option linter.unusedVariables false
set_option linter.unusedSimpArgs false
attribute [local go_sem] Oper.semAt_some
/-! Bytes of ours, be they converted or not: whatever lies behind their end may be written. -/
def Mn (W : World) (base : Nat) (v : Value) (xs : List Int) : Prop :=
  ∃ g c, v = .slice (some ⟨g, 0, none⟩) xs.length c ∧ base ≤ g ∧ xs.length ≤ c ∧ (∀ j, j < xs.length → W.cell? ⟨g, j, none⟩ = some (.int .u8 (xs.getD j 0))) ∧ ∀ j, j < c → (W.cell? ⟨g, j, none⟩).isSome = true ∧ W.frozen? ⟨g, j, none⟩ = false
namespace Mn
variable {W W' : World} {base : Nat} {v : Value} {xs : List Int}
theorem below (h : Mn W base v xs) (hb : Below W.heap.size W W') : Mn W' base v xs := by
  obtain ⟨g, c, e, h1, h2, h3, h4⟩ := h
  have hlt : ∀ j, j < c → g < W.heap.size := fun j hj => World.block_lt_of_cell? W ⟨g, j, none⟩ (Option.isSome_iff_exists.1 (h4 j hj).1).choose_spec
  have hc : ∀ j, j < c → W'.cell? ⟨g, j, none⟩ = W.cell? ⟨g, j, none⟩ := fun j hj => cell_of_heap (p := ⟨g, j, none⟩) (hb.block g (hlt j hj))
  refine ⟨g, c, e, h1, h2, fun j hj => (hc j (by omega)).trans (h3 j hj), fun j hj => ⟨by rw [hc j hj]; exact (h4 j hj).1, ?_⟩⟩
  have h5 := (h4 j hj).2
  unfold World.frozen? at h5 ⊢
  rw [hb.block g (hlt j hj)]
  exact h5
theorem lower {base' : Nat} (h : Mn W base v xs) (hb : base' ≤ base) : Mn W base' v xs := by
  obtain ⟨g, c, e, h1, h2, h3, h4⟩ := h
  exact ⟨g, c, e, Nat.le_trans hb h1, h2, h3, h4⟩
theorem reads (h : Mn W base v xs) (hl : xs.length ≤ 9223372036854775807) : ∃ g c, v = .slice (some ⟨g, 0, none⟩) xs.length c ∧ base ≤ g ∧ xs.length ≤ c ∧ (Kd.int .u8).C W (some ⟨g, 0, none⟩) xs.length xs := by
  obtain ⟨g, c, e, h1, h2, h3, h4⟩ := h
  have h5 := C_join (W := W) (g := g) (n := xs.length) (xs := xs) (ys := []) rfl (by rw [List.append_nil]; exact hl) h3 (fun j hj => by cases hj)
  rw [List.append_nil] at h5
  exact ⟨g, c, e, h1, h2, h5⟩
end Mn
theorem mn_conv (W1 : World) (t : ByteArray) : Mn (Lib.bytesWorld W1 5 t) W1.heap.size (.slice (some ⟨W1.heap.size, 0, none⟩) t.size (grownCap W1 t.size 0 5)) (strL t) := by
  have hge := grownCap_ge W1 t.size 0 5
  have hbs : (Lib.bytesCells W1 5 t).size = grownCap W1 t.size 0 5 := by
    unfold Lib.bytesCells
    rw [Array.size_append, Array.size_map, Array.size_replicate]
    show t.size + _ = _
    omega
  have hbl := Lib.bytesWorld_at_new W1 5 t
  rw [hbs] at hbl
  refine ⟨W1.heap.size, grownCap W1 t.size 0 5, by rw [strL_len], Nat.le_refl _, by rw [strL_len]; exact hge, fun j hj => ?_, fun j hj => ⟨?_, ?_⟩⟩
  · rw [strL_len] at hj
    rw [Lib.bytesWorld_cell W1 5 t j hj]
    have h3 : j < t.data.toList.length := by rw [Array.length_toList]; exact hj
    unfold strL NT.ints
    rw [List.getD_eq_getElem?_getD, List.getD_eq_getElem?_getD, List.getElem?_map, List.getElem?_eq_getElem h3]
    rfl
  · rw [World.cell?, hbl]
    simp [hbs, hj]
  · simp only [World.frozen?, hbl, Bool.and_eq_false_iff, decide_eq_false_iff_not]
    left
    omega
def nums8 (ys : List Int) : List Value := ys.map (Value.int .u8)
theorem nums8_at {ys : List Int} {j : Nat} (hj : j < ys.length) : (nums8 ys)[j]? = some (.int .u8 (ys.getD j 0)) := by
  unfold nums8
  rw [List.getElem?_map, List.getD_eq_getElem?_getD, List.getElem?_eq_getElem hj]
  rfl
theorem nums8_len (ys : List Int) : (nums8 ys).length = ys.length := List.length_map _
theorem getD_app {xs ys : List Int} (j : Nat) : (xs ++ ys).getD (xs.length + j) 0 = ys.getD j 0 := by
  rw [List.getD_eq_getElem?_getD, List.getD_eq_getElem?_getD, List.getElem?_append_right (by omega), Nat.add_sub_cancel_left]
theorem getD_left {xs ys : List Int} {j : Nat} (hj : j < xs.length) : (xs ++ ys).getD j 0 = xs.getD j 0 := by
  rw [List.getD_eq_getElem?_getD, List.getD_eq_getElem?_getD, List.getElem?_append_left hj]
theorem append_mn {W : World} {base : Nat} {v : Value} {xs : List Int} (h : Mn W base v xs) (hb : base ≤ W.heap.size) {B : Option Addr} {c2 : Nat} {ys : List Int} (hC : (Kd.int .u8).C W B ys.length ys) (ty : TypeId) (hl : xs.length + ys.length ≤ 140737488355328) :
    ∃ v' w', (Builtin.append_ #[26, 26] ty #[v, .slice B ys.length c2]).run Tryd.prog W = .ok v' w' ∧ Mn w' base v' (xs ++ ys) ∧ Below base W w' := by
  obtain ⟨i0, hi, hz0, hz1, hz2⟩ := info_parts info5
  obtain ⟨g, c, rfl, h1, h2, h3, h4⟩ := h
  by_cases hys : ys = []
  · subst hys
    refine ⟨_, W, run_append_nothing W 26 26 ty 5 i0 Tryd.underlying26 hi _ _ _ h2 _ ?_, ⟨g, c, by rw [List.append_nil], h1, by rw [List.append_nil]; exact h2, by rw [List.append_nil]; exact h3, h4⟩, Below.refl _ _⟩
    cases B with
    | none => exact Src.ofNil W Tryd.underlying26 c2
    | some a => exact Src.ofSlice W Tryd.underlying26 a 0 c2 [] (by simp) (fun j u hu => by cases hu) (fun u hu => by cases hu)
  have hpos : 0 < ys.length := by
    cases ys with
    | nil => exact absurd rfl hys
    | cons _ _ => exact Nat.succ_pos _
  obtain ⟨a, rfl, hcell⟩ := hC.2.2 hpos
  have hsrc : ∀ j u, (nums8 ys)[j]? = some u → W.cell? (a.add j) = some u := fun j u hu => by
    have hj : j < ys.length := by
      have := (List.getElem?_eq_some_iff.1 hu).1
      rwa [nums8_len] at this
    obtain ⟨cs, k1, k2, k3⟩ := hcell j _ (List.getElem?_eq_getElem hj)
    have k4 := k3 0 (.int .u8 ys[j]) (by rw [show cs = [.int .u8 ys[j]] from k2]; rfl)
    rw [Nat.add_zero, show (Kd.int .u8).sz = 1 from rfl, Nat.mul_one] at k4
    rw [k4, ← hu, nums8_at hj, List.getD_eq_getElem?_getD, List.getElem?_eq_getElem hj]
    rfl
  have hone : ∀ u ∈ nums8 ys, u.oneCell' = true := fun u hu => by
    obtain ⟨y, _, rfl⟩ := List.mem_map.1 hu
    rfl
  have hlt : ∀ j, j < c → g < W.heap.size := fun j hj => World.block_lt_of_cell? W ⟨g, j, none⟩ (Option.isSome_iff_exists.1 (h4 j hj).1).choose_spec
  by_cases hroom : xs.length + ys.length ≤ c
  · have hf := run_firstCells_some (P := Tryd.prog) W 1 ys.length a ys.length c2 (nums8 ys) (by rw [nums8_len, Nat.mul_one]) hsrc
    have hst := run_storeCells_cells (P := Tryd.prog) g xs.length (nums8 ys) 0 W (fun j hj => by rw [Nat.add_zero]; rw [nums8_len] at hj; exact (h4 _ (by omega)).1) (fun j hj => by rw [Nat.add_zero]; rw [nums8_len] at hj; exact (h4 _ (by omega)).2) hone
    rw [Nat.add_zero] at hst
    refine ⟨.slice (some ⟨g, 0, none⟩) (xs.length + ys.length) c, W.setCells g xs.length (nums8 ys), ?_, ⟨g, c, by rw [List.length_append], h1, by rw [List.length_append]; exact hroom, fun j hj => ?_, fun j hj => ⟨World.isSome_setCells g _ _ _ _ (h4 j hj).1, by rw [World.frozen?_setCells]; exact (h4 j hj).2⟩⟩, Kd.below_setCells (Below.refl _ _) h1⟩
    · simp [Builtin.append_, run_underlying Tryd.underlying26, sizeOf, typeInfo, hi, hz1, Builtin.lenOf, hroom, hf, Addr.add_lit, hst]
    · by_cases hjl : j < xs.length
      · rw [World.cell?_setCells_out g _ _ _ _ (fun _ _ => .inl hjl), h3 j hjl, getD_left hjl]
      · obtain ⟨i, rfl⟩ : ∃ i, j = xs.length + i := ⟨j - xs.length, by omega⟩
        rw [List.length_append] at hj
        rw [World.cell?_setCells_in g (nums8 ys) xs.length W (fun i hi => (h4 _ (by rw [nums8_len] at hi; omega)).1) i (by rw [nums8_len]; omega), getD_app]
        have k5 := nums8_at (ys := ys) (j := i) (by omega)
        rw [List.getElem?_eq_getElem (by rw [nums8_len]; omega)] at k5
        exact k5
  · have hold : ∀ j u, (nums8 xs)[j]? = some u → W.cell? ((⟨g, 0, none⟩ : Addr).add j) = some u := fun j u hu => by
      have hj : j < xs.length := by
        have := (List.getElem?_eq_some_iff.1 hu).1
        rwa [nums8_len] at this
      rw [nums8_at hj] at hu
      rw [Kd.add_plain2, Nat.zero_add, h3 j hj, hu]
    have hr := run_append_grow (P := Tryd.prog) W 26 ty 5 i0 (.int .u8 0) Tryd.underlying26 hi hz0 ⟨g, 0, none⟩ xs.length c (nums8 xs) (by rw [nums8_len, hz1, Nat.mul_one]) hold a ys.length c2 (nums8 ys) (by rw [nums8_len, hz1, Nat.mul_one]) hsrc (by omega) (by omega) (by rw [hz2]; exact growslice_fits (by omega) (by omega))
    have hgc := grownCap_ge W (xs.length + ys.length) c 5
    have hnew := heap_alloc_new W.drew (.cells ((nums8 xs).toArray ++ (nums8 ys).toArray ++ Builtin.zeroCells (Value.int .u8 0).cells (grownCap W (xs.length + ys.length) c 5 - (xs.length + ys.length))) 5)
    have hzs : (Builtin.zeroCells (Value.int .u8 0).cells (grownCap W (xs.length + ys.length) c 5 - (xs.length + ys.length))).size = grownCap W (xs.length + ys.length) c 5 - (xs.length + ys.length) := by
      rw [size_zeroCells]
      exact Nat.mul_one _
    refine ⟨_, _, hr, ⟨W.heap.size, _, by rw [List.length_append], hb, by rw [List.length_append]; exact hgc, fun j hj => ?_, fun j hj => ⟨?_, ?_⟩⟩, (below_alloc (below_drew1 (Below.refl W.heap.size W)) _).mono hb⟩
    · rw [show W.heap.size = W.drew.heap.size from rfl, blk_cell hnew j]
      rw [List.length_append] at hj
      rw [Array.getElem?_append_left (by simp [nums8_len]; omega)]
      by_cases hjl : j < xs.length
      · rw [Array.getElem?_append_left (by simp [nums8_len]; omega), List.getElem?_toArray, nums8_at hjl, getD_left hjl]
      · obtain ⟨i, rfl⟩ : ∃ i, j = xs.length + i := ⟨j - xs.length, by omega⟩
        rw [Array.getElem?_append_right (by simp [nums8_len]), List.size_toArray, nums8_len, List.getElem?_toArray, Nat.add_sub_cancel_left, nums8_at (by omega), getD_app]
    · rw [show W.heap.size = W.drew.heap.size from rfl, blk_cell hnew j]
      have hsz : j < ((nums8 xs).toArray ++ (nums8 ys).toArray ++ Builtin.zeroCells (Value.int .u8 0).cells (grownCap W (xs.length + ys.length) c 5 - (xs.length + ys.length))).size := by
        rw [Array.size_append, Array.size_append, List.size_toArray, List.size_toArray, nums8_len, nums8_len, hzs]
        omega
      rw [Array.getElem?_eq_getElem hsz]
      rfl
    · rw [show W.heap.size = W.drew.heap.size from rfl]
      exact blk_frozen hnew j
section
variable {ops : Array Oper} {rest : List Oper} {o : Oper} {a : Act} {Q : Exit → Act → World → Prop}
theorem wpList_append_mn {W : World} (hgd : o.guard = none) (sl x : Operand) (ho : o.op = .call { callee := .builtin .append, args := #[sl, x], argTypes := #[26, 26] }) {base : Nat} {v : Value} {xs : List Int} (h : Mn W base v xs) (hb : base ≤ W.heap.size) {B : Option Addr} {c2 : Nat} {ys : List Int} (hC : (Kd.int .u8).C W B ys.length ys)
    (hs : a.eval sl = v) (hx : a.eval x = .slice B ys.length c2) (hl : xs.length + ys.length ≤ 140737488355328)
    (hK : ∀ v' w', Mn w' base v' (xs ++ ys) → Below base W w' → wpList Tryd.prog ops Q rest (a.put o.dst v') w') : wpList Tryd.prog ops Q (o :: rest) a W := by
  refine wpList_plain hgd fun K hK' => ?_
  obtain ⟨v', w', hr, h2, h3⟩ := append_mn (c2 := c2) h hb hC o.type hl
  unfold Oper.wp execOp
  simp only [ho, resolve, invoke, builtin, Sem.run_bind, Sem.run_pure, Result.andThen_ok, List.map_toArray, List.map_cons, List.map_nil, hs, hx, hr]
  exact hK' _ _ (hK v' w' h2 h3)
end
end Go.Proofs.YtkicekddkgehoaaDoor.Hnd
