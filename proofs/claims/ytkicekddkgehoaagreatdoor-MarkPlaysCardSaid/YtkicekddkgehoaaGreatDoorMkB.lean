/- Contracts of the calls, by hand. -/
import Derived.Test.YtkicekddkgehoaaGreatDoorQMarkPlaysx
import Derived.Test.YtkicekddkgehoaaGreatDoorNetB
import Derived.RangeFuncNested
import Derived.RangeFuncBound
import Derived.RangeFuncCalls
import Derived.RangeFuncLeaves
import Derived.RangeFuncBox
import Derived.Shelf.Abstract
import Derived.Shelf.RegionOpen
import Derived.OwnWalkIn
import Derived.TacticsInMore
import Derived.LoopNIn
import Derived.LoopIn
import Derived.Sort.QuietIn
import Derived.Sort.CutIn
import Derived.Stop.RegionWithIn
import Derived.StillTailTactics
import Derived.Shelf.Strconv.AppendIntPublic10
import Derived.Shelf.Strconv.ErrVarParseInt
import Derived.Shelf.Bytes.IndexByte
import Derived.Lib.ItoaLen
import Derived.Lib.ParseIntBTie
import Derived.Lib.AtoiBound
import Derived.Deep.Upon
namespace Go.Proofs.YtkicekddkgehoaaGreatDoor.Hnd
open Go.RowKit Go.Proofs.YtkicekddkgehoaaGreatDoor.QMarkPlays Go.Proofs.YtkicekddkgehoaaGreatDoorW.PrintWords Go.Proofs.YtkicekddkgehoaaGreatDoorW.PrintLast  Go.Shelf
set_option linter.unusedVariables false
set_option linter.unusedSimpArgs false
set_option linter.unusedVariables false
set_option linter.unusedSimpArgs false
attribute [local go_sem] Oper.semAt_some
/-! Bytes of ours, be they converted or not: whatever lies behind their end may be written. -/
def Mn (W : World) (base : Nat) (v : Value) (xs : List Int) : Prop :=
  ∃ g c, v = .slice (some ⟨g, 0, none⟩) xs.length c ∧ base ≤ g ∧ xs.length ≤ c ∧ (∀ j, j < xs.length → W.cell? ⟨g, j, none⟩ = some (.int .u8 (xs.getD j 0))) ∧ ∀ j, j < c → (W.cell? ⟨g, j, none⟩).isSome = true ∧ W.frozen? ⟨g, j, none⟩ = false
namespace Mn
variable {W W' : World} {base : Nat} {v : Value} {xs : List Int}
theorem below (h : Mn W base v xs) (hb : Below W.heap.size W W') : Mn W' base v xs := by
  obtain ⟨g, c, e, h1, h2, h3, h4⟩ := h
  have hlt : ∀ j, j < c → g < W.heap.size := fun j hj => World.block_lt_of_cell? W ⟨g, j, none⟩ (Option.isSome_iff_exists.1 (h4 j hj).1).choose_spec
  have hc : ∀ j, j < c → W'.cell? ⟨g, j, none⟩ = W.cell? ⟨g, j, none⟩ := fun j hj => cell_of_heap (p := ⟨g, j, none⟩) (hb.block g (hlt j hj))
  refine ⟨g, c, e, h1, h2, fun j hj => (hc j (by omega)).trans (h3 j hj), fun j hj => ⟨by rw [hc j hj]; exact (h4 j hj).1, ?_⟩⟩
  have h5 := (h4 j hj).2
  unfold World.frozen? at h5 ⊢
  rw [hb.block g (hlt j hj)]
  exact h5
theorem lower {base' : Nat} (h : Mn W base v xs) (hb : base' ≤ base) : Mn W base' v xs := by
  obtain ⟨g, c, e, h1, h2, h3, h4⟩ := h
  exact ⟨g, c, e, Nat.le_trans hb h1, h2, h3, h4⟩
theorem reads (h : Mn W base v xs) (hl : xs.length ≤ 9223372036854775807) : ∃ g c, v = .slice (some ⟨g, 0, none⟩) xs.length c ∧ base ≤ g ∧ xs.length ≤ c ∧ (Kd.int .u8).C W (some ⟨g, 0, none⟩) xs.length xs := by
  obtain ⟨g, c, e, h1, h2, h3, h4⟩ := h
  have h5 := C_join (W := W) (g := g) (n := xs.length) (xs := xs) (ys := []) rfl (by rw [List.append_nil]; exact hl) h3 (fun j hj => by cases hj)
  rw [List.append_nil] at h5
  exact ⟨g, c, e, h1, h2, h5⟩
end Mn
theorem mn_conv (W1 : World) (t : ByteArray) : Mn (Lib.bytesWorld W1 5 t) W1.heap.size (.slice (some ⟨W1.heap.size, 0, none⟩) t.size (grownCap W1 t.size 0 5)) (strL t) := by
  have hge := grownCap_ge W1 t.size 0 5
  have hbs : (Lib.bytesCells W1 5 t).size = grownCap W1 t.size 0 5 := by
    unfold Lib.bytesCells
    rw [Array.size_append, Array.size_map, Array.size_replicate]
    show t.size + _ = _
    omega
  have hbl := Lib.bytesWorld_at_new W1 5 t
  rw [hbs] at hbl
  refine ⟨W1.heap.size, grownCap W1 t.size 0 5, by rw [strL_len], Nat.le_refl _, by rw [strL_len]; exact hge, fun j hj => ?_, fun j hj => ⟨?_, ?_⟩⟩
  · rw [strL_len] at hj
    rw [Lib.bytesWorld_cell W1 5 t j hj]
    have h3 : j < t.data.toList.length := by rw [Array.length_toList]; exact hj
    unfold strL NT.ints
    rw [List.getD_eq_getElem?_getD, List.getD_eq_getElem?_getD, List.getElem?_map, List.getElem?_eq_getElem h3]
    rfl
  · rw [World.cell?, hbl]
    simp [hbs, hj]
  · simp only [World.frozen?, hbl, Bool.and_eq_false_iff, decide_eq_false_iff_not]
    left
    omega
def nums8 (ys : List Int) : List Value := ys.map (Value.int .u8)
theorem nums8_at {ys : List Int} {j : Nat} (hj : j < ys.length) : (nums8 ys)[j]? = some (.int .u8 (ys.getD j 0)) := by
  unfold nums8
  rw [List.getElem?_map, List.getD_eq_getElem?_getD, List.getElem?_eq_getElem hj]
  rfl
theorem nums8_len (ys : List Int) : (nums8 ys).length = ys.length := List.length_map _
theorem getD_app {xs ys : List Int} (j : Nat) : (xs ++ ys).getD (xs.length + j) 0 = ys.getD j 0 := by
  rw [List.getD_eq_getElem?_getD, List.getD_eq_getElem?_getD, List.getElem?_append_right (by omega), Nat.add_sub_cancel_left]
theorem getD_left {xs ys : List Int} {j : Nat} (hj : j < xs.length) : (xs ++ ys).getD j 0 = xs.getD j 0 := by
  rw [List.getD_eq_getElem?_getD, List.getD_eq_getElem?_getD, List.getElem?_append_left hj]
theorem append_mn {W : World} {base : Nat} {v : Value} {xs : List Int} (h : Mn W base v xs) (hb : base ≤ W.heap.size) {B : Option Addr} {c2 : Nat} {ys : List Int} (hC : (Kd.int .u8).C W B ys.length ys) (ty : TypeId) (hl : xs.length + ys.length ≤ 140737488355328) :
    ∃ v' w', (Builtin.append_ #[52, 52] ty #[v, .slice B ys.length c2]).run Tryz.prog W = .ok v' w' ∧ Mn w' base v' (xs ++ ys) ∧ Below base W w' := by
  obtain ⟨i0, hi, hz0, hz1, hz2⟩ := info_parts info5
  obtain ⟨g, c, rfl, h1, h2, h3, h4⟩ := h
  by_cases hys : ys = []
  · subst hys
    refine ⟨_, W, run_append_nothing W 52 52 ty 5 i0 Tryz.underlying52 hi _ _ _ h2 _ ?_, ⟨g, c, by rw [List.append_nil], h1, by rw [List.append_nil]; exact h2, by rw [List.append_nil]; exact h3, h4⟩, Below.refl _ _⟩
    cases B with
    | none => exact Src.ofNil W Tryz.underlying52 c2
    | some a => exact Src.ofSlice W Tryz.underlying52 a 0 c2 [] (by simp) (fun j u hu => by cases hu) (fun u hu => by cases hu)
  have hpos : 0 < ys.length := by
    cases ys with
    | nil => exact absurd rfl hys
    | cons _ _ => exact Nat.succ_pos _
  obtain ⟨a, rfl, hcell⟩ := hC.2.2 hpos
  have hsrc : ∀ j u, (nums8 ys)[j]? = some u → W.cell? (a.add j) = some u := fun j u hu => by
    have hj : j < ys.length := by
      have := (List.getElem?_eq_some_iff.1 hu).1
      rwa [nums8_len] at this
    obtain ⟨cs, k1, k2, k3⟩ := hcell j _ (List.getElem?_eq_getElem hj)
    have k4 := k3 0 (.int .u8 ys[j]) (by rw [show cs = [.int .u8 ys[j]] from k2]; rfl)
    rw [Nat.add_zero, show (Kd.int .u8).sz = 1 from rfl, Nat.mul_one] at k4
    rw [k4, ← hu, nums8_at hj, List.getD_eq_getElem?_getD, List.getElem?_eq_getElem hj]
    rfl
  have hone : ∀ u ∈ nums8 ys, u.oneCell' = true := fun u hu => by
    obtain ⟨y, _, rfl⟩ := List.mem_map.1 hu
    rfl
  have hlt : ∀ j, j < c → g < W.heap.size := fun j hj => World.block_lt_of_cell? W ⟨g, j, none⟩ (Option.isSome_iff_exists.1 (h4 j hj).1).choose_spec
  by_cases hroom : xs.length + ys.length ≤ c
  · have hf := run_firstCells_some (P := Tryz.prog) W 1 ys.length a ys.length c2 (nums8 ys) (by rw [nums8_len, Nat.mul_one]) hsrc
    have hst := run_storeCells_cells (P := Tryz.prog) g xs.length (nums8 ys) 0 W (fun j hj => by rw [Nat.add_zero]; rw [nums8_len] at hj; exact (h4 _ (by omega)).1) (fun j hj => by rw [Nat.add_zero]; rw [nums8_len] at hj; exact (h4 _ (by omega)).2) hone
    rw [Nat.add_zero] at hst
    refine ⟨.slice (some ⟨g, 0, none⟩) (xs.length + ys.length) c, W.setCells g xs.length (nums8 ys), ?_, ⟨g, c, by rw [List.length_append], h1, by rw [List.length_append]; exact hroom, fun j hj => ?_, fun j hj => ⟨World.isSome_setCells g _ _ _ _ (h4 j hj).1, by rw [World.frozen?_setCells]; exact (h4 j hj).2⟩⟩, Kd.below_setCells (Below.refl _ _) h1⟩
    · simp [Builtin.append_, run_underlying Tryz.underlying52, sizeOf, typeInfo, hi, hz1, Builtin.lenOf, hroom, hf, Addr.add_lit, hst]
    · by_cases hjl : j < xs.length
      · rw [World.cell?_setCells_out g _ _ _ _ (fun _ _ => .inl hjl), h3 j hjl, getD_left hjl]
      · obtain ⟨i, rfl⟩ : ∃ i, j = xs.length + i := ⟨j - xs.length, by omega⟩
        rw [List.length_append] at hj
        rw [World.cell?_setCells_in g (nums8 ys) xs.length W (fun i hi => (h4 _ (by rw [nums8_len] at hi; omega)).1) i (by rw [nums8_len]; omega), getD_app]
        have k5 := nums8_at (ys := ys) (j := i) (by omega)
        rw [List.getElem?_eq_getElem (by rw [nums8_len]; omega)] at k5
        exact k5
  · have hold : ∀ j u, (nums8 xs)[j]? = some u → W.cell? ((⟨g, 0, none⟩ : Addr).add j) = some u := fun j u hu => by
      have hj : j < xs.length := by
        have := (List.getElem?_eq_some_iff.1 hu).1
        rwa [nums8_len] at this
      rw [nums8_at hj] at hu
      rw [Kd.add_plain2, Nat.zero_add, h3 j hj, hu]
    have hr := run_append_grow (P := Tryz.prog) W 52 ty 5 i0 (.int .u8 0) Tryz.underlying52 hi hz0 ⟨g, 0, none⟩ xs.length c (nums8 xs) (by rw [nums8_len, hz1, Nat.mul_one]) hold a ys.length c2 (nums8 ys) (by rw [nums8_len, hz1, Nat.mul_one]) hsrc (by omega) (by omega) (by rw [hz2]; exact growslice_fits (by omega) (by omega))
    have hgc := grownCap_ge W (xs.length + ys.length) c 5
    have hnew := heap_alloc_new W.drew (.cells ((nums8 xs).toArray ++ (nums8 ys).toArray ++ Builtin.zeroCells (Value.int .u8 0).cells (grownCap W (xs.length + ys.length) c 5 - (xs.length + ys.length))) 5)
    have hzs : (Builtin.zeroCells (Value.int .u8 0).cells (grownCap W (xs.length + ys.length) c 5 - (xs.length + ys.length))).size = grownCap W (xs.length + ys.length) c 5 - (xs.length + ys.length) := by
      rw [size_zeroCells]
      exact Nat.mul_one _
    refine ⟨_, _, hr, ⟨W.heap.size, _, by rw [List.length_append], hb, by rw [List.length_append]; exact hgc, fun j hj => ?_, fun j hj => ⟨?_, ?_⟩⟩, (below_alloc (below_drew1 (Below.refl W.heap.size W)) _).mono hb⟩
    · rw [show W.heap.size = W.drew.heap.size from rfl, blk_cell hnew j]
      rw [List.length_append] at hj
      rw [Array.getElem?_append_left (by simp [nums8_len]; omega)]
      by_cases hjl : j < xs.length
      · rw [Array.getElem?_append_left (by simp [nums8_len]; omega), List.getElem?_toArray, nums8_at hjl, getD_left hjl]
      · obtain ⟨i, rfl⟩ : ∃ i, j = xs.length + i := ⟨j - xs.length, by omega⟩
        rw [Array.getElem?_append_right (by simp [nums8_len]), List.size_toArray, nums8_len, List.getElem?_toArray, Nat.add_sub_cancel_left, nums8_at (by omega), getD_app]
    · rw [show W.heap.size = W.drew.heap.size from rfl, blk_cell hnew j]
      have hsz : j < ((nums8 xs).toArray ++ (nums8 ys).toArray ++ Builtin.zeroCells (Value.int .u8 0).cells (grownCap W (xs.length + ys.length) c 5 - (xs.length + ys.length))).size := by
        rw [Array.size_append, Array.size_append, List.size_toArray, List.size_toArray, nums8_len, nums8_len, hzs]
        omega
      rw [Array.getElem?_eq_getElem hsz]
      rfl
    · rw [show W.heap.size = W.drew.heap.size from rfl]
      exact blk_frozen hnew j
section
variable {ops : Array Oper} {rest : List Oper} {o : Oper} {a : Act} {Q : Exit → Act → World → Prop}
theorem wpList_append_mn {W : World} (hgd : o.guard = none) (sl x : Operand) (ho : o.op = .call { callee := .builtin .append, args := #[sl, x], argTypes := #[52, 52] }) {base : Nat} {v : Value} {xs : List Int} (h : Mn W base v xs) (hb : base ≤ W.heap.size) {B : Option Addr} {c2 : Nat} {ys : List Int} (hC : (Kd.int .u8).C W B ys.length ys)
    (hs : a.eval sl = v) (hx : a.eval x = .slice B ys.length c2) (hl : xs.length + ys.length ≤ 140737488355328)
    (hK : ∀ v' w', Mn w' base v' (xs ++ ys) → Below base W w' → wpList Tryz.prog ops Q rest (a.put o.dst v') w') : wpList Tryz.prog ops Q (o :: rest) a W := by
  refine wpList_plain hgd fun K hK' => ?_
  obtain ⟨v', w', hr, h2, h3⟩ := append_mn (c2 := c2) h hb hC o.type hl
  unfold Oper.wp execOp
  simp only [ho, resolve, invoke, builtin, Sem.run_bind, Sem.run_pure, Result.andThen_ok, List.map_toArray, List.map_cons, List.map_nil, hs, hx, hr]
  exact hK' _ _ (hK v' w' h2 h3)
end
/-! A mark in plain words. -/
theorem tk_num {n : Int} (hn : NT.Rng n) (t : List Int) : tk (NT.num n ++ t) = (n, (NT.num n).length, true) := by
  unfold tk
  rw [NT.take_num hn]
def isM (gen n : Int) (done : Bool) (st : Int) (out : ByteArray) : Bool := decide (0 ≤ gen) && (decide (gen < 2147483647) && (decide (0 ≤ n) && (decide (n ≤ 2147483647) && (done || (st == 0 && (out.toList == ([] : List UInt8)))))))
theorem mark_is_f (gen n : Int) (done : Bool) (st : Int) (out : ByteArray) : mark_is.f gen n done st out = some (isM gen n done st out) := by
  unfold mark_is.f isM
  by_cases h1 : 0 ≤ gen
  · rw [if_pos h1, decide_eq_true h1]
    by_cases h2 : gen < 2147483647
    · rw [if_pos h2, decide_eq_true h2]
      by_cases h3 : 0 ≤ n
      · rw [if_pos h3, decide_eq_true h3]
        by_cases h4 : n ≤ 2147483647
        · rw [if_pos h4, decide_eq_true h4]
          cases done <;> rfl
        · rw [if_neg h4, decide_eq_false h4]; rfl
      · rw [if_neg h3, decide_eq_false h3]; rfl
    · rw [if_neg h2, decide_eq_false h2]; rfl
  · rw [if_neg h1, decide_eq_false h1]; rfl
theorem ref_is_f (gen n : Int) (done : Bool) (st : Int) (out : ByteArray) : lazarusref6_Is.f gen n done st out = some (isM gen n done st out) := by
  unfold lazarusref6_Is.f isM
  by_cases h1 : 0 ≤ gen
  · rw [if_pos h1, decide_eq_true h1]
    by_cases h2 : gen < 2147483647
    · rw [if_pos h2, decide_eq_true h2]
      by_cases h3 : 0 ≤ n
      · rw [if_pos h3, decide_eq_true h3]
        by_cases h4 : n < 2147483648
        · rw [if_pos h4, decide_eq_true (show n ≤ 2147483647 by omega)]
          cases done <;> rfl
        · rw [if_neg h4, decide_eq_false (show ¬ n ≤ 2147483647 by omega)]; rfl
      · rw [if_neg h3, decide_eq_false h3]; rfl
    · rw [if_neg h2, decide_eq_false h2]; rfl
  · rw [if_neg h1, decide_eq_false h1]; rfl
def bitM (done : Bool) : Int := if done = true then 1 else 0
def bytesM (gen n : Int) (done : Bool) (st : Int) (out : ByteArray) : List Int := if isM gen n done st out = true then NT.num n ++ (NT.num (bitM done) ++ (NT.num st ++ NT.text (strL out))) else []
theorem isM_n {gen n : Int} {done : Bool} {st : Int} {out : ByteArray} (h : isM gen n done st out = true) : 0 ≤ n ∧ n ≤ 2147483647 := by
  unfold isM at h
  rw [Bool.and_eq_true, Bool.and_eq_true, Bool.and_eq_true, Bool.and_eq_true] at h
  exact ⟨of_decide_eq_true h.2.2.1, of_decide_eq_true h.2.2.2.1⟩
theorem isM_gen {gen n : Int} {done : Bool} {st : Int} {out : ByteArray} (h : isM gen n done st out = true) : isM 0 n done st out = true := by
  unfold isM at h ⊢
  rw [Bool.and_eq_true, Bool.and_eq_true] at h
  rw [decide_eq_true (by decide : (0 : Int) ≤ 0), decide_eq_true (by decide : (0 : Int) < 2147483647), h.2.2]
  rfl
theorem bitM_rng (d : Bool) : NT.Rng (bitM d) := by cases d <;> exact ⟨by decide, by decide⟩
theorem bitM_one (d : Bool) : (bitM d == 1) = d := by cases d <;> rfl
theorem bytesM_bytes (gen n : Int) (done : Bool) (st : Int) (out : ByteArray) : NBytes (bytesM gen n done st out) := fun x hx => by
  unfold bytesM at hx
  split at hx
  · rcases List.mem_append.1 hx with h | h
    · exact NT.num_bytes _ x h
    rcases List.mem_append.1 h with h | h
    · exact NT.num_bytes _ x h
    rcases List.mem_append.1 h with h | h
    · exact NT.num_bytes _ x h
    · exact text_bytes out x h
  · cases hx
/-- What four calls of a Reader take. -/
structure Four where
  n : Int
  d : Int
  s : Int
  o : List Int
  p : Bool
  q : Bool
  r : Bool
  t : Bool
  k1 : Nat
  k2 : Nat
  k3 : Nat
  k4 : Nat
def four (b : List Int) : Four :=
  { n := (tk b).1, p := (tk b).2.2, k1 := (tk b).2.1
    d := (tk (b.drop (tk b).2.1)).1, q := (tk (b.drop (tk b).2.1)).2.2, k2 := (tk (b.drop (tk b).2.1)).2.1
    s := (tk ((b.drop (tk b).2.1).drop (tk (b.drop (tk b).2.1)).2.1)).1, r := (tk ((b.drop (tk b).2.1).drop (tk (b.drop (tk b).2.1)).2.1)).2.2, k3 := (tk ((b.drop (tk b).2.1).drop (tk (b.drop (tk b).2.1)).2.1)).2.1
    o := (tT (((b.drop (tk b).2.1).drop (tk (b.drop (tk b).2.1)).2.1).drop (tk ((b.drop (tk b).2.1).drop (tk (b.drop (tk b).2.1)).2.1)).2.1)).1, t := (tT (((b.drop (tk b).2.1).drop (tk (b.drop (tk b).2.1)).2.1).drop (tk ((b.drop (tk b).2.1).drop (tk (b.drop (tk b).2.1)).2.1)).2.1)).2.2, k4 := (tT (((b.drop (tk b).2.1).drop (tk (b.drop (tk b).2.1)).2.1).drop (tk ((b.drop (tk b).2.1).drop (tk (b.drop (tk b).2.1)).2.1)).2.1)).2.1 }
theorem four_of {n d s : Int} {o : List Int} (hn : NT.Rng n) (hd : NT.Rng d) (hs : NT.Rng s) (ho : o.length ≤ 1099511627776) : (four (NT.num n ++ (NT.num d ++ (NT.num s ++ NT.text o)))).n = n ∧ (four (NT.num n ++ (NT.num d ++ (NT.num s ++ NT.text o)))).d = d ∧ (four (NT.num n ++ (NT.num d ++ (NT.num s ++ NT.text o)))).s = s ∧ (four (NT.num n ++ (NT.num d ++ (NT.num s ++ NT.text o)))).o = o ∧
    (four (NT.num n ++ (NT.num d ++ (NT.num s ++ NT.text o)))).p = true ∧ (four (NT.num n ++ (NT.num d ++ (NT.num s ++ NT.text o)))).q = true ∧ (four (NT.num n ++ (NT.num d ++ (NT.num s ++ NT.text o)))).r = true ∧ (four (NT.num n ++ (NT.num d ++ (NT.num s ++ NT.text o)))).t = true := by
  have h4 := tT_text (s := o) (t := []) ho
  rw [List.append_nil] at h4
  unfold four
  dsimp only
  rw [tk_num hn]
  dsimp only
  rw [List.drop_left, tk_num hd]
  dsimp only
  rw [List.drop_left, tk_num hs]
  dsimp only
  rw [List.drop_left, h4]
  exact ⟨rfl, rfl, rfl, rfl, rfl, rfl, rfl, rfl⟩
theorem four_nil : (four []).t = false := rfl
/-- What is read of bytes. -/
def rdM (b : List Int) : Int × Bool × Int × ByteArray × Bool :=
  if (four b).t = true ∧ bytesM 0 (four b).n ((four b).d == 1) (four b).s (strOfNums (four b).o) = b then ((four b).n, (four b).d == 1, (four b).s, strOfNums (four b).o, true) else (0, false, 0, ⟨#[]⟩, false)
theorem tk_rng (b : List Int) : NT.Rng (tk b).1 := by
  rcases tk_cases b with h | ⟨n, k, h, _, hr, _⟩
  · rw [h]
    exact ⟨by decide, by decide⟩
  · rw [h]
    exact hr
theorem tT_bytes {b : List Int} (hb : NBytes b) : NBytes (tT b).1 ∧ (tT b).1.length ≤ b.length := by
  rcases tk_cases b with h | ⟨n, k, h, ht, hr, hk⟩
  · rw [tT_none h]
    exact ⟨(fun x hx => by cases hx), Nat.zero_le _⟩
  · rw [tT_some ht]
    split
    · exact ⟨fun x hx => hb x (List.mem_of_mem_drop (List.mem_of_mem_take hx)), by
        show ((b.drop k).take n.toNat).length ≤ _
        rw [List.length_take, List.length_drop]
        omega⟩
    · exact ⟨(fun x hx => by cases hx), Nat.zero_le _⟩
/-- The document asks for more, and gets it. -/
theorem rdM_all {b : List Int} (hb : NBytes b) (hl : b.length ≤ 1099511627776) (ht : (four b).t = true) (he : bytesM 0 (four b).n ((four b).d == 1) (four b).s (strOfNums (four b).o) = b) : (four b).p = true ∧ (four b).q = true ∧ (four b).r = true ∧ isM 0 (four b).n ((four b).d == 1) (four b).s (strOfNums (four b).o) = true := by
  have hob : NBytes (four b).o ∧ (four b).o.length ≤ 1099511627776 := by
    have h := tT_bytes (b := ((b.drop (tk b).2.1).drop (tk (b.drop (tk b).2.1)).2.1).drop (tk ((b.drop (tk b).2.1).drop (tk (b.drop (tk b).2.1)).2.1)).2.1) (fun x hx => hb x (List.mem_of_mem_drop (List.mem_of_mem_drop (List.mem_of_mem_drop hx))))
    refine ⟨h.1, Nat.le_trans h.2 ?_⟩
    rw [List.length_drop, List.length_drop, List.length_drop]
    omega
  by_cases hm : isM 0 (four b).n ((four b).d == 1) (four b).s (strOfNums (four b).o) = true
  · refine (fun h : _ ∧ _ ∧ _ => ⟨h.1, h.2.1, h.2.2, hm⟩) ?_
    have e : b = NT.num (four b).n ++ (NT.num (bitM ((four b).d == 1)) ++ (NT.num (four b).s ++ NT.text (four b).o)) := by
      unfold bytesM at he
      rw [if_pos hm, strL_strOf hob.1] at he
      exact he.symm
    have hn := isM_n hm
    have h := four_of (n := (four b).n) (d := bitM ((four b).d == 1)) (s := (four b).s) (o := (four b).o) ⟨by omega, by omega⟩ (bitM_rng _) (tk_rng _) hob.2
    rw [← e] at h
    exact ⟨h.2.2.2.2.1, h.2.2.2.2.2.1, h.2.2.2.2.2.2.1⟩
  · unfold bytesM at he
    rw [if_neg hm] at he
    rw [← he, four_nil] at ht
    cases ht
/-- What is written is read. -/
theorem rdM_bytes (gen n : Int) (done : Bool) (st : Int) (out : ByteArray) (hs : NT.Rng st) (ho : out.size ≤ 1099511627776) :
    rdM (bytesM gen n done st out) = if isM gen n done st out = true then (n, done, st, out, true) else (0, false, 0, ⟨#[]⟩, false) := by
  by_cases hm : isM gen n done st out = true
  · rw [if_pos hm]
    have hn := isM_n hm
    have h := four_of (n := n) (d := bitM done) (s := st) (o := strL out) ⟨by omega, by omega⟩ (bitM_rng _) hs (by rw [strL_len]; exact ho)
    have e : bytesM gen n done st out = NT.num n ++ (NT.num (bitM done) ++ (NT.num st ++ NT.text (strL out))) := by unfold bytesM; rw [if_pos hm]
    have e2 : bytesM 0 n done st out = NT.num n ++ (NT.num (bitM done) ++ (NT.num st ++ NT.text (strL out))) := by unfold bytesM; rw [if_pos (isM_gen hm)]
    rw [← e] at h
    obtain ⟨h1, h2, h3, h4, _, _, _, h8⟩ := h
    unfold rdM
    rw [h1, h2, h3, h4, h8, bitM_one, strOf_strL, e2, ← e, if_pos ⟨rfl, rfl⟩]
  · rw [if_neg hm]
    unfold bytesM
    rw [if_neg hm]
    unfold rdM
    rw [if_neg (fun h => by have := h.1; rw [four_nil] at this; cases this)]
attribute [local go_sem] Oper.semAt_some
/-! slices.Grow of nil, slices.Concat. -/
theorem R_none {W : World} {base : Nat} {v : Value} {xs : List Int} (h : (Kd.int .u8).R 5 W base (fun _ => True) v xs) : ∀ c g, v = .slice (some ⟨g, 0, none⟩) xs.length c → (Kd.int .u8).R 5 W base (fun _ => True) (.slice (some ⟨g, 0, none⟩) 0 c) [] := fun c g e => by
  subst e
  have ho := Kd.own_of_R h
  rcases ho.2 with ⟨e, _⟩ | ⟨g', cap, cur, e, h1, h2, h3, h4, h5, h6⟩
  · cases e
  · injection e with e1 e2 e3
    injection e1 with e1
    injection e1 with e1 _ _
    subst e1 e3
    exact Kd.R_of_own (enc := Value.int .u8) ⟨rfl, .inr ⟨g, c, cur, rfl, h1, h2, Nat.zero_le _, h4, h5, by simp [encs]⟩⟩ (fun _ _ => trivial)
set_option maxHeartbeats 2000000 in
set_option maxRecDepth 100000 in
theorem grow_c (n : Nat) (hn : n ≤ 1099511627776) (w : World) :
    Calls Tryz.prog 64 #[.slice none 0 0, .int .i64 (n : Int)] w fun e w' => ∃ v, e = .returned v ∧ (Kd.int .u8).R 5 w' w.heap.size (fun _ => True) v [] ∧ Below w.heap.size w w' := by
  have HN := Aside0.mk hn
  have a0 : decide ((n : Int) < 0) = false := decide_eq_false (by omega)
  by_cases h0 : n = 0
  · subst h0
    clear hn
    go_enter Tryz.func64, Tryz.ntmps64
    go_wp2
    go_ret
    exact ⟨_, rfl, Kd.R_nil _ _ _ _ _, Below.refl _ _⟩
  · have a1 : decide ((n : Int) > 0) = true := decide_eq_true (by omega)
    have a1' : decide ((0 : Int) < (n : Int)) = true := decide_eq_true (by omega)
    have a1'' : decide (0 < n) = true := decide_eq_true (by omega)
    have HP : Aside0 (0 < n) := ⟨by omega⟩
    have hwn : wrap64 (n : Int) = (n : Int) := by unfold wrap64; omega
    have hwn2 : IntKind.i64.wrap (n : Int) = (n : Int) := by rw [IntKind.wrap_i64]; omega
    clear hn h0
    go_enter Tryz.func64, Tryz.ntmps64
    go_wp2_with ((with_reducible refine gate_builtin (b := .append) (xs := #[.tmp 20, .tmp 21]) rfl ?_); at_builtin; refine Kd.R_append_zeros (Kd.int .u8) (w0 := w) w.heap.size rfl (.tmp 20) (.tmp 21) 52 3 5 (.int .u8 0) 1 rfl Tryz.underlying52 Tryz.underlying3 info5 rfl (by decide) (by decide) (.slice none 0 0) ([] : List Int) 0 (n : Int) (fun _ => True) rfl rfl rfl (fun _ _ => trivial) (Kd.R_nil _ _ _ _ _) (by omega) (Below.refl _ _) (Nat.le_refl _) (by have := HN.out; simp; omega) ?_; intro v1 w1 hR hB _ _; rw [Int.toNat_natCast, List.nil_append] at hR; (obtain ⟨g, c, e1, h1, h2, -⟩ := Kd.R_form hR (by rw [List.length_replicate]; exact HP.out)); have hN0 := R_none hR c g e1; rw [List.length_replicate] at e1; subst e1; have htk := run_take (some ⟨g, 0, none⟩) c n 0 (Nat.zero_le _); have R1 := Aside0.mk hN0; have B1 := Aside0.mk hB; clear hR hB h1 h2 hN0)
    go_ret
    exact ⟨_, rfl, R1.out, B1.out⟩
theorem row_at {w : World} {A : Option Addr} {n : Nat} {ls : List (List Int)} (h : Kd.C (Kd.slice 5 (Kd.int .u8)) w A n ls) (k : Nat) (hk : k < n) : ∃ ad Ak ck, A = some ad ∧ ad.block < w.heap.size ∧ w.cell? (ad.add k) = some (.slice Ak (ls.getD k []).length ck) ∧ (Kd.int .u8).C w Ak (ls.getD k []).length (ls.getD k []) := by
  have hlt : ∀ ad, A = some ad → ad.block < w.heap.size := fun ad e => by subst e; exact Kd.C_lt h (by omega) (by decide)
  obtain ⟨ad, e, hc⟩ := h.2.2 (by omega)
  have hl : k < ls.length := by rw [h.1]; exact hk
  obtain ⟨cs, h1, ⟨Ak, ck, h2, h5, h6⟩, h3⟩ := hc k _ (List.getElem?_eq_getElem hl)
  have e2 : ls.getD k [] = ls[k] := by rw [List.getD_eq_getElem?_getD, List.getElem?_eq_getElem hl]; rfl
  rw [e2]
  have h4 := h3 0 (.slice Ak ls[k].length ck) (by rw [show cs = [.slice Ak ls[k].length ck] from h2]; rfl)
  rw [Nat.add_zero, show (Kd.slice 5 (Kd.int .u8)).sz = 1 from rfl, Nat.mul_one] at h4
  exact ⟨ad, Ak, ck, e, hlt ad e, h4, h6⟩
theorem flat_at {ls : List (List Int)} {k : Nat} (hk : k < ls.length) : (ls.take (k + 1)).flatten = (ls.take k).flatten ++ ls.getD k [] := by
  rw [List.take_add_one, List.getElem?_eq_getElem hk, List.flatten_append, List.getD_eq_getElem?_getD, List.getElem?_eq_getElem hk]
  simp
theorem flat_le (ls : List (List Int)) (k : Nat) : (ls.take k).flatten.length ≤ ls.flatten.length := by
  conv => rhs; rw [← List.take_append_drop k ls, List.flatten_append, List.length_append]
  exact Nat.le_add_right _ _
def flen (ls : List (List Int)) : Nat := ls.flatten.length
set_option maxHeartbeats 4000000 in
set_option maxRecDepth 100000 in
theorem concat_c {w : World} {A : Option Addr} {c : Nat} {ls : List (List Int)} (hC : Kd.C (Kd.slice 5 (Kd.int .u8)) w A ls.length ls) (hn : ls.length ≤ 1000) (hs : flen ls ≤ 1099511627776) :
    Calls Tryz.prog 36 #[.slice A ls.length c] w fun e w' => ∃ v, e = .returned v ∧ (Kd.int .u8).R 5 w' w.heap.size (fun _ => True) v ls.flatten ∧ Below w.heap.size w w' := by
  have HC := Aside0.mk hC
  have HN := Aside0.mk hn
  have HS := Aside0.mk hs
  clear hC hn hs
  go_enter Tryz.func36, Tryz.ntmps36
  go_wp2
  go_loopw [3, 11] (fun u3 u11 wr => ∃ (k : Nat), u11 = .int .i64 (k : Int) ∧ u3 = .int .i64 (flen (ls.take k) : Int) ∧ w = wr ∧ Aside0 (k ≤ ls.length)) (fun u3 u11 _ => ls.length + 1 - (intOf u11).toNat)
  case atStart => exact ⟨0, rfl, rfl, rfl, ⟨Nat.zero_le _⟩⟩
  case round =>
    obtain ⟨k, rfl, rfl, rfl, HK⟩ := hrel
    by_cases hlt : k < ls.length
    · have hd : decide ((k : Int) < (ls.length : Int)) = true := decide_eq_true (by omega)
      have hd2 : decide (k < ls.length) = true := decide_eq_true hlt
      obtain ⟨ad, Ak, ck, e1, hlb, x0, hCk⟩ := row_at HC.out k hlt
      subst e1
      have hfa := flat_at hlt
      have hfl : flen (ls.take (k + 1)) ≤ flen ls := flat_le ls (k + 1)
      obtain ⟨x, hx⟩ : ∃ x, ls.getD k [] = x := ⟨_, rfl⟩
      rw [hx] at x0 hCk hfa
      obtain ⟨m, hm⟩ : ∃ m, flen (ls.take k) = m := ⟨_, rfl⟩
      have hnn : flen (ls.take (k + 1)) = m + x.length := by unfold flen at hm ⊢; rw [hfa, List.length_append, hm]
      have hml : m + x.length ≤ 1099511627776 := by rw [hnn] at hfl; have := HS.out; omega
      have hnx : (flen (ls.take (k + 1)) : Int) = (m : Int) + (x.length : Int) := by rw [hnn]; omega
      obtain ⟨hw1, hw2⟩ := wrap_two m x.length hml
      have hg0 : decide ((m : Int) + (x.length : Int) < 0) = false := decide_eq_false (by clear hw1 hw2; omega)
      have hp1 : (k : Int) < (ls.length : Int) := by clear hw1 hw2; omega
      have hp0 : (0 : Int) ≤ (k : Int) := by clear hw1 hw2; omega
      have hkk : (k : Int) + 1 ≤ 9223372036854775807 := by have := HN.out; clear hw1 hw2; omega
      have HLT := Aside0.mk hlt
      have HNX := Aside0.mk hnx
      rw [hm]
      clear hlt hlb hCk hfa hfl hx hm hml hnx hnn
      go_wp2
      all_goals exact ⟨⟨k + 1, by go_num, by rw [HNX.out], by first | rfl | trivial, ⟨by have := HLT.out; clear hw1 hw2; omega⟩⟩, by clear hw1 hw2; have := HLT.out; simp [intOf]; omega⟩
    · obtain rfl : k = ls.length := by have := HK.out; omega
      have hd : decide ((ls.length : Int) < (ls.length : Int)) = false := decide_eq_false (by omega)
      have hd2 : decide (ls.length < ls.length) = false := decide_eq_false (by omega)
      rw [List.take_length]
      clear hlt
      go_wp2_with (go_at_call 64; refine (grow_c (flen ls) HS.out w).mono ?_; rintro e w1 ⟨v1, rfl, hR, hB⟩; have R1 := Aside0.mk hR; have B1 := Aside0.mk hB; clear hR hB)
      go_loopw [6, 27] (fun u6 u27 wr => ∃ (k : Nat), u27 = .int .i64 (k : Int) ∧ Aside0 ((Kd.int .u8).R 5 wr w.heap.size (fun _ => True) u6 (ls.take k).flatten) ∧ Aside0 (Below w.heap.size w wr) ∧ Aside0 (k ≤ ls.length)) (fun u6 u27 _ => ls.length + 1 - (intOf u27).toNat)
      case atStart => exact ⟨0, rfl, R1, B1, ⟨Nat.zero_le _⟩⟩
      case round =>
        obtain ⟨k, rfl, HR, HB, HK'⟩ := hrel
        by_cases hlt : k < ls.length
        · have hd : decide ((k : Int) < (ls.length : Int)) = true := decide_eq_true (by omega)
          have hd2 : decide (k < ls.length) = true := decide_eq_true hlt
          obtain ⟨ad, Ak, ck, e1, hlb, x0, hCk⟩ := row_at HC.out k hlt
          subst e1
          have x0 := (HB.out.cell (p := ad.add k) (by rw [add_block]; exact hlb)).trans x0
          have hCk := Kd.C_below hCk HB.out
          have hfa := flat_at hlt
          have hfl : flen (ls.take (k + 1)) ≤ flen ls := flat_le ls (k + 1)
          obtain ⟨x, hx⟩ : ∃ x, ls.getD k [] = x := ⟨_, rfl⟩
          rw [hx] at x0 hCk hfa
          obtain ⟨ys, hys⟩ : ∃ ys, (ls.take k).flatten = ys := ⟨_, rfl⟩
          rw [hys] at hfa HR
          have hml : ys.length + x.length ≤ 1099511627776 := by unfold flen at hfl; rw [hfa, List.length_append] at hfl; have := HS.out; unfold flen at this; omega
          have hp1 : (k : Int) < (ls.length : Int) := by omega
          have hp0 : (0 : Int) ≤ (k : Int) := by omega
          have hkk : (k : Int) + 1 ≤ 9223372036854775807 := by have := HN.out; omega
          have HLT := Aside0.mk hlt
          have HFA := Aside0.mk hfa
          have HML := Aside0.mk hml
          have CK := Aside0.mk hCk
          clear hlt hlb hCk hfa hfl hx hys hml
          go_wp2_with ((with_reducible refine gate_builtin (b := .append) (xs := #[.tmp 31, .tmp 32]) rfl ?_); at_builtin; refine Kd.R_append_rows (Kd.int .u8) (w0 := w) w.heap.size rfl (.tmp 31) (.tmp 32) 52 5 (.int .u8 0) 1 rfl Tryz.underlying52 info5 rfl (by decide) (by omega) u6 ys x _ _ _ (fun _ => True) (fun _ => False) rfl rfl ?aO ?aR (fun _ _ h => h) (fun _ h => h.elim) (fun _ _ => trivial) HB.out HB.out.size ?aL ?_; (case aR => exact CK.out); (case aO => exact HR.out); (case aL => have := HML.out; omega); intro v5 w5 ho hb hg hat; have R5 := Aside0.mk ho; have B5 := Aside0.mk hb; clear ho hb hg hat)
          all_goals exact ⟨⟨k + 1, by go_num, ⟨by rw [HFA.out]; exact R5.out⟩, B5, ⟨by have := HLT.out; omega⟩⟩, by have := HLT.out; simp [intOf]; omega⟩
        · obtain rfl : k = ls.length := by have := HK'.out; omega
          have hd : decide ((ls.length : Int) < (ls.length : Int)) = false := decide_eq_false (by omega)
          have hd2 : decide (ls.length < ls.length) = false := decide_eq_false (by omega)
          have hr := HR.out
          rw [List.take_length] at hr
          have HR2 := Aside0.mk hr
          clear hlt hr
          go_wp2
          go_ret
          exact ⟨_, rfl, HR2.out, HB.out⟩
attribute [local go_sem] Oper.semAt_some
/-! A mark's bytes. -/
theorem C_four {W : World} {g : Nat} {A1 A2 A3 A4 : Option Addr} {c1 c2 c3 c4 : Nat} {l1 l2 l3 l4 : List Int} {T : TypeId} {fr : Nat × Nat} (h : W.heap[g]? = some (.cells #[.slice A1 l1.length c1, .slice A2 l2.length c2, .slice A3 l3.length c3, .slice A4 l4.length c4] T fr))
    (h1 : l1.length ≤ c1 ∧ (Kd.int .u8).C W A1 l1.length l1) (h2 : l2.length ≤ c2 ∧ (Kd.int .u8).C W A2 l2.length l2) (h3 : l3.length ≤ c3 ∧ (Kd.int .u8).C W A3 l3.length l3) (h4 : l4.length ≤ c4 ∧ (Kd.int .u8).C W A4 l4.length l4) :
    Kd.C (Kd.slice 5 (Kd.int .u8)) W (some ⟨g, 0, none⟩) [l1, l2, l3, l4].length [l1, l2, l3, l4] :=
  Kd.C_cells1 (xs := [l1, l2, l3, l4]) h rfl (by simp) (fun j p hj => by
    rcases j with _ | _ | _ | _ | j
    · obtain rfl : l1 = p := by simpa using hj
      exact ⟨_, rfl, A1, c1, rfl, h1.1, h1.2⟩
    · obtain rfl : l2 = p := by simpa using hj
      exact ⟨_, rfl, A2, c2, rfl, h2.1, h2.2⟩
    · obtain rfl : l3 = p := by simpa using hj
      exact ⟨_, rfl, A3, c3, rfl, h3.1, h3.2⟩
    · obtain rfl : l4 = p := by simpa using hj
      exact ⟨_, rfl, A4, c4, rfl, h4.1, h4.2⟩
    · simp at hj)
theorem concat4_c {W : World} {A1 A2 A3 A4 : Option Addr} {c1 c2 c3 c4 : Nat} {l1 l2 l3 l4 : List Int} (h1 : l1.length ≤ c1 ∧ (Kd.int .u8).C W A1 l1.length l1) (h2 : l2.length ≤ c2 ∧ (Kd.int .u8).C W A2 l2.length l2) (h3 : l3.length ≤ c3 ∧ (Kd.int .u8).C W A3 l3.length l3) (h4 : l4.length ≤ c4 ∧ (Kd.int .u8).C W A4 l4.length l4) (hl : flen [l1, l2, l3, l4] ≤ 1099511627776) :
    Calls Tryz.prog 36 #[.slice (some ⟨W.heap.size, 0, none⟩) 4 4] (W.alloc (.cells #[.slice A1 l1.length c1, .slice A2 l2.length c2, .slice A3 l3.length c3, .slice A4 l4.length c4] 52)) fun e w' => ∃ v, e = .returned v ∧ (Kd.int .u8).R 5 w' W.heap.size (fun _ => True) v [l1, l2, l3, l4].flatten ∧ Below W.heap.size W w' := by
  have hb := below_alloc (Below.refl W.heap.size W) (.cells #[.slice A1 l1.length c1, .slice A2 l2.length c2, .slice A3 l3.length c3, .slice A4 l4.length c4] 52)
  have hC := C_four (blk_new W (.cells #[.slice A1 l1.length c1, .slice A2 l2.length c2, .slice A3 l3.length c3, .slice A4 l4.length c4] 52)) ⟨h1.1, Kd.C_below h1.2 hb⟩ ⟨h2.1, Kd.C_below h2.2 hb⟩ ⟨h3.1, Kd.C_below h3.2 hb⟩ ⟨h4.1, Kd.C_below h4.2 hb⟩
  exact (concat_c (c := 4) hC (by show 4 ≤ 1000; decide) hl).mono fun e w' ⟨v, e1, hR, hB⟩ => ⟨v, e1, Kd.R_lower hR hb.size, hb.trans (hB.mono hb.size)⟩
def MCells (W : World) (q : Nat) (n : Int) (done : Bool) (st : Int) (out : ByteArray) : Prop := W.cell? ⟨q, 1, none⟩ = some (.int .i64 n) ∧ W.cell? ⟨q, 2, none⟩ = some (.bool done) ∧ W.cell? ⟨q, 3, none⟩ = some (.int .i64 st) ∧ W.cell? ⟨q, 4, none⟩ = some (.string out)
theorem MCells.on {W W' : World} {q : Nat} {n : Int} {done : Bool} {st : Int} {out : ByteArray} (h : MCells W q n done st out) (hb : Below W.heap.size W W') : MCells W' q n done st out := by
  have hlt : q < W.heap.size := World.block_lt_of_cell? W ⟨q, 1, none⟩ h.1
  have e : ∀ i, W'.cell? ⟨q, i, none⟩ = W.cell? ⟨q, i, none⟩ := fun i => hb.cell (p := ⟨q, i, none⟩) hlt
  exact ⟨(e 1).trans h.1, (e 2).trans h.2.1, (e 3).trans h.2.2.1, (e 4).trans h.2.2.2⟩
theorem mark_bit_f (d : Bool) : mark_bit.f d = some (bitM d) := by cases d <;> rfl
set_option maxHeartbeats 8000000 in
set_option maxRecDepth 100000 in
theorem mbytes_c (gen n : Int) (done : Bool) (st : Int) (out : ByteArray) (hst : NT.Rng st) (ho : out.size ≤ 1000000) (w : World) (hT : NTabs w) :
    Calls Tryz.prog 22 #[.agg #[.int .i64 gen, .int .i64 n, .bool done, .int .i64 st, .string out]] w fun e w' => ∃ v, e = .returned v ∧ (Kd.int .u8).R 5 w' w.heap.size (fun _ => True) v (bytesM gen n done st out) ∧ Below w.heap.size w w' := by
  have HT := Aside0.mk hT
  have HIS := Aside0.mk (mark_is_f gen n done st out)
  have hb0 := below_alloc (Below.refl w.heap.size w) (.cells #[.int .i64 gen, .int .i64 n, .bool done, .int .i64 st, .string out] 35)
  have HB0 := Aside0.mk hb0
  have hn0 := blk_new w (.cells #[.int .i64 gen, .int .i64 n, .bool done, .int .i64 st, .string out] 35)
  have HZ0 : Aside0 (MCells (w.alloc (.cells #[.int .i64 gen, .int .i64 n, .bool done, .int .i64 st, .string out] 35)) w.heap.size n done st out) := ⟨⟨(blk_cell hn0 1).trans rfl, (blk_cell hn0 2).trans rfl, (blk_cell hn0 3).trans rfl, (blk_cell hn0 4).trans rfl⟩⟩
  have HST := Aside0.mk hst
  have HO := Aside0.mk ho
  cases hm : isM gen n done st out with
  | false =>
    have e : bytesM gen n done st out = [] := by unfold bytesM; rw [if_neg (by rw [hm]; simp)]
    rw [e]
    rw [hm] at HIS
    clear hT hb0 hn0 hst ho hm e
    go_enter Tryz.func22, Tryz.ntmps22
    go_wp2_with (go_at_call 19; refine (mark_is.calls gen n done st out false _ HIS.out).mono ?_; rintro e w1 ⟨rfl, hB⟩; have B1 := Aside0.mk (HB0.out.trans (hB.mono HB0.out.size)); clear hB)
    go_ret
    exact ⟨_, rfl, Kd.R_nil _ _ _ _ _, B1.out⟩
  | true =>
    have hn := isM_n hm
    have hrn : NT.Rng n := ⟨by omega, by omega⟩
    have e : bytesM gen n done st out = [NT.num n, NT.num (bitM done), NT.num st, NT.text (strL out)].flatten := by
      unfold bytesM
      rw [if_pos hm]
      simp
    rw [e]
    rw [hm] at HIS
    have HRN := Aside0.mk hrn
    have HBR := Aside0.mk (bitM_rng done)
    have HBF := Aside0.mk (mark_bit_f done)
    have l1 := num_len_le hrn
    have l2 := num_len_le (bitM_rng done)
    have l3 := num_len_le hst
    have l4 := text_len_le (s := out) (by omega)
    have hfl : flen [NT.num n, NT.num (bitM done), NT.num st, NT.text (strL out)] ≤ 1099511627776 := by
      unfold flen
      simp only [List.flatten_cons, List.flatten_nil, List.append_nil, List.length_append]
      omega
    obtain ⟨x1, hx1⟩ : ∃ x, NT.num n = x := ⟨_, rfl⟩
    obtain ⟨bt, hbt⟩ : ∃ x, bitM done = x := ⟨_, rfl⟩
    rw [hbt] at HBR HBF hfl ⊢
    obtain ⟨x2, hx2⟩ : ∃ x, NT.num bt = x := ⟨_, rfl⟩
    obtain ⟨x3, hx3⟩ : ∃ x, NT.num st = x := ⟨_, rfl⟩
    obtain ⟨x4, hx4⟩ : ∃ x, NT.text (strL out) = x := ⟨_, rfl⟩
    rw [hx1, hx2, hx3, hx4] at hfl ⊢
    have HX1 := Aside0.mk hx1
    have HX2 := Aside0.mk hx2
    have HX3 := Aside0.mk hx3
    have HX4 := Aside0.mk hx4
    have HFL := Aside0.mk hfl
    clear hT hb0 hn0 hst ho hm e hn hrn l1 l2 l3 l4 hfl hx1 hbt hx2 hx3 hx4
    go_enter Tryz.func22, Tryz.ntmps22
    go_upto_region 3 with (go_at_call 19; refine (mark_is.calls gen n done st out true _ HIS.out).mono ?_; rintro e w1 ⟨rfl, hB⟩; have B1 := Aside0.mk (HB0.out.trans (hB.mono HB0.out.size)); have Z1 := Aside0.mk (HZ0.out.on hB); clear hB)
    have BD := Aside0.mk (B1.out.trans ((below_drew1 (Below.refl w1.heap.size w1)).mono B1.out.size))
    have ZD := Aside0.mk (Z1.out.on (below_drew1 (Below.refl w1.heap.size w1)))
    go_region_held (fun w' => w'.cell? ⟨w.heap.size, 1, none⟩ = some (.int .i64 n) ∧ w'.cell? ⟨w.heap.size, 2, none⟩ = some (.bool done) ∧ w'.cell? ⟨w.heap.size, 3, none⟩ = some (.int .i64 st) ∧ w'.cell? ⟨w.heap.size, 4, none⟩ = some (.string out))
      (first | exact Z8.out | exact Z6.out.on (below_alloc (Below.refl _ _) _) | exact Z6.out | exact Z5.out | exact Z4.out | exact Z3.out | exact Z2.out | exact ZD.out)
      (first
        | (go_at_call 36; refine (concat4_c ⟨L1.out, D6.out.1⟩ ⟨L2.out, D6.out.2.1⟩ ⟨L3.out, D6.out.2.2.1⟩ ⟨L4.out, D6.out.2.2.2⟩ HFL.out).mono ?_; rintro e w8 ⟨v8, rfl, hR, hB⟩; have R8 := Aside0.mk (Kd.R_lower hR B6.out.size); have Z8 := Aside0.mk (Z6.out.on hB); have B8 := Aside0.mk (B6.out.trans (hB.mono B6.out.size)); clear hR hB)
        | (go_at_call 39; refine (text_c out (by have := HO.out; omega) w5 (HT.out.on B5.out)).mono ?_; rw [HX4.out]; rintro e w6 ⟨v6, rfl, hR, hB⟩; (obtain ⟨A4, c4, rfl, hl4, hC4, -, -⟩ := R_plain hR); have L4 := Aside0.mk hl4; have D6 : Aside0 (_ ∧ _ ∧ _ ∧ _) := ⟨Kd.C_below D5.out.1 hB, Kd.C_below D5.out.2.1 hB, Kd.C_below D5.out.2.2 hB, hC4⟩; have Z6 := Aside0.mk (Z5.out.on hB); have B6 := Aside0.mk (B5.out.trans (hB.mono B5.out.size)); clear hR hB hl4 hC4)
        | (go_at_call 37; refine (num_c st HST.out w4 (HT.out.on B4.out)).mono ?_; rw [HX3.out]; rintro e w5 ⟨v5, rfl, hR, hB⟩; (obtain ⟨A3, c3, rfl, hl3, hC3, -, -⟩ := R_plain hR); have L3 := Aside0.mk hl3; have D5 : Aside0 (_ ∧ _ ∧ _) := ⟨Kd.C_below D4.out.1 hB, Kd.C_below D4.out.2 hB, hC3⟩; have Z5 := Aside0.mk (Z4.out.on hB); have B5 := Aside0.mk (B4.out.trans (hB.mono B4.out.size)); clear hR hB hl3 hC3)
        | (go_at_call 37; refine (num_c bt HBR.out w3 (HT.out.on B3.out)).mono ?_; rw [HX2.out]; rintro e w4 ⟨v4, rfl, hR, hB⟩; (obtain ⟨A2, c2, rfl, hl2, hC2, -, -⟩ := R_plain hR); have L2 := Aside0.mk hl2; have D4 : Aside0 (_ ∧ _) := ⟨Kd.C_below D3.out hB, hC2⟩; have Z4 := Aside0.mk (Z3.out.on hB); have B4 := Aside0.mk (B3.out.trans (hB.mono B3.out.size)); clear hR hB hl2 hC2)
        | (go_at_call 38; refine (mark_bit.calls done bt w2 HBF.out).mono ?_; rintro e w3 ⟨rfl, hD⟩; have hB := hD.below; have D3 := Aside0.mk (Kd.C_below D2.out hB); have Z3 := Aside0.mk (Z2.out.on hB); have B3 := Aside0.mk (B2.out.trans (hB.mono B2.out.size)); clear hD hB)
        | (go_at_call 37; refine (num_c n HRN.out _ (HT.out.on BD.out)).mono ?_; rw [HX1.out]; rintro e w2 ⟨v2, rfl, hR, hB⟩; (obtain ⟨A1, c1, rfl, hl1, hC1, -, -⟩ := R_plain hR); have L1 := Aside0.mk hl1; have D2 := Aside0.mk hC1; have Z2 := Aside0.mk (ZD.out.on hB); have B2 := Aside0.mk (BD.out.trans (hB.mono BD.out.size)); clear hR hB hl1 hC1))
    go_wp2
    go_ret
    exact ⟨_, rfl, R8.out, B8.out⟩
attribute [local go_sem] Oper.semAt_some
/-! A mark is read. -/
def RdPost (w : World) (b : List Int) (e : Ending) (w' : World) : Prop :=
  e = .returned (.tuple #[.agg #[.int .i64 0, .int .i64 (rdM b).1, .bool (rdM b).2.1, .int .i64 (rdM b).2.2.1, .string (rdM b).2.2.2.1], .bool (rdM b).2.2.2.2]) ∧ Below w.heap.size w w'
theorem rdM_of {b b1 b2 b3 : List Int} {n d s : Int} {k1 k2 k3 k4 : Nat} {p q r t : Bool} {o : List Int} (h1 : tk b = (n, k1, p)) (e1 : b.drop k1 = b1) (h2 : tk b1 = (d, k2, q)) (e2 : b1.drop k2 = b2) (h3 : tk b2 = (s, k3, r)) (e3 : b2.drop k3 = b3) (h4 : tT b3 = (o, k4, t)) :
    rdM b = if t = true ∧ bytesM 0 n (d == 1) s (strOfNums o) = b then (n, d == 1, s, strOfNums o, true) else (0, false, 0, ⟨#[]⟩, false) := by
  unfold rdM four
  dsimp only
  rw [h1]
  dsimp only
  rw [e1, h2]
  dsimp only
  rw [e2, h3]
  dsimp only
  rw [e3, h4]
def zM : Array Value := #[.int .i64 0, .int .i64 0, .bool false, .int .i64 0, .string ⟨#[]⟩]
theorem five_put {W : World} {g : Nat} {T : Nat} {x0 x1 x2 x3 x4 y0 y1 y2 y3 y4 : Value} (h : W.heap[g]? = some (.cells #[x0, x1, x2, x3, x4] T (0, 0))) :
    (((((W.setCell ⟨g, 0, none⟩ y0).setCell ⟨g, 1, none⟩ y1).setCell ⟨g, 2, none⟩ y2).setCell ⟨g, 3, none⟩ y3).setCell ⟨g, 4, none⟩ y4).heap[g]? = some (.cells #[y0, y1, y2, y3, y4] T (0, 0)) :=
  blk_put (blk_put (blk_put (blk_put (blk_put h 0 _ rfl) 1 _ rfl) 2 _ rfl) 3 _ rfl) 4 _ rfl
set_option maxHeartbeats 8000000 in
set_option maxRecDepth 100000 in
theorem mread_c {w : World} {A : Option Addr} {c : Nat} {b : List Int} (hC : (Kd.int .u8).C w A b.length b) (hc : b.length ≤ c) (hb : NBytes b) (hl : b.length ≤ 100000) (hT : NTabs w) :
    Calls Tryz.prog 32 #[.slice A b.length c] w (RdPost w b) := by
  obtain ⟨n, k1, p, h1⟩ : ∃ n k p, tk b = (n, k, p) := ⟨_, _, _, rfl⟩
  obtain ⟨b1, e1⟩ : ∃ b1, b.drop k1 = b1 := ⟨_, rfl⟩
  obtain ⟨d, k2, q, h2⟩ : ∃ n k p, tk b1 = (n, k, p) := ⟨_, _, _, rfl⟩
  obtain ⟨b2, e2⟩ : ∃ b2, b1.drop k2 = b2 := ⟨_, rfl⟩
  obtain ⟨s, k3, r, h3⟩ : ∃ n k p, tk b2 = (n, k, p) := ⟨_, _, _, rfl⟩
  obtain ⟨b3, e3⟩ : ∃ b3, b2.drop k3 = b3 := ⟨_, rfl⟩
  obtain ⟨o, k4, t, h4⟩ : ∃ n k p, tT b3 = (n, k, p) := ⟨_, _, _, rfl⟩
  have hrd := rdM_of h1 e1 h2 e2 h3 e3 h4
  have l1 : b1.length ≤ 100000 := by rw [← e1, List.length_drop]; omega
  have l2 : b2.length ≤ 100000 := by rw [← e2, List.length_drop]; omega
  have l3 : b3.length ≤ 100000 := by rw [← e3, List.length_drop]; omega
  have nb3 : NBytes b3 := fun x hx => hb x (by rw [← e3, ← e2, ← e1] at hx; exact List.mem_of_mem_drop (List.mem_of_mem_drop (List.mem_of_mem_drop hx)))
  have hto := tT_bytes nb3
  rw [h4] at hto
  have hsr := tk_rng b2
  rw [h3] at hsr
  obtain ⟨os, hos⟩ : ∃ os, strOfNums o = os := ⟨_, rfl⟩
  have hol : os.size ≤ 1000000 := by rw [← hos, str_size]; have := hto.2; dsimp only at this; omega
  obtain ⟨dn, hdn⟩ : ∃ dn, (d == 1) = dn := ⟨_, rfl⟩
  rw [hos, hdn] at hrd
  have hd2 : decide (d = 1) = dn := by rw [← hdn]; rfl
  have hAl : ∀ ad, A = some ad → 0 < b.length → ad.block < w.heap.size := fun ad e hp => by subst e; exact Kd.C_lt hC hp (by decide)
  have hb0 := below_alloc (Below.refl w.heap.size w) (.cells #[.int .i64 0, .int .i64 0, .bool false, .int .i64 0, .string ⟨#[]⟩] 35)
  have hn0 := blk_new w (.cells #[.int .i64 0, .int .i64 0, .bool false, .int .i64 0, .string ⟨#[]⟩] 35)
  obtain ⟨W0, hW0⟩ : ∃ W0, W0 = w.alloc (.cells #[.int .i64 0, .int .i64 0, .bool false, .int .i64 0, .string ⟨#[]⟩] 35) := ⟨_, rfl⟩
  have HW0 := Aside0.mk hW0
  rw [← hW0] at hb0 hn0
  have HB0 := Aside0.mk hb0
  have HN0 := Aside0.mk hn0
  have HC := Aside0.mk hC
  have HCC := Aside0.mk hc
  have HBY := Aside0.mk hb
  have HL := Aside0.mk hl
  have HT := Aside0.mk hT
  have HAL := Aside0.mk hAl
  have H1 := Aside0.mk h1
  have H2 := Aside0.mk h2
  have H3 := Aside0.mk h3
  have H4 := Aside0.mk h4
  have E1 := Aside0.mk e1
  have E2 := Aside0.mk e2
  have E3 := Aside0.mk e3
  have L1 := Aside0.mk l1
  have L2 := Aside0.mk l2
  have L3 := Aside0.mk l3
  have HRD := Aside0.mk hrd
  have HSR := Aside0.mk hsr
  have HOS := Aside0.mk hos
  have HOL := Aside0.mk hol
  have HD1 := Aside0.mk hdn
  clear hC hc hb hl hT hAl h1 h2 h3 h4 e1 e2 e3 l1 l2 l3 hrd hsr hos hol nb3 hto hb0 hn0 hW0
  go_enter Tryz.func32, Tryz.ntmps32
  go_upto_region 1 with (fail)
  rw [← HW0.out]
  go_upto_region 6 with (first
    | (go_at_call 57; refine (rtext_c N4.out (HT.out.on B4.out) (by have := L3.out; omega)).mono ?_; rw [H4.out]; unfold TextPost; dsimp only; rw [HOS.out]; rintro e w5 ⟨rfl, hN, hK⟩; have B5 := Aside0.mk (hK.below B4.out B4.out.size (fun j hj => by rw [hj]; exact G1.out)); have K5 := Aside0.mk (K4.out.trans hK); clear hN hK)
    | (go_at_call 56; refine (rnum_c N3.out (HT.out.on B3.out) (by have := L2.out; omega)).mono ?_; rw [H3.out]; dsimp only; rw [E3.out]; rintro e w4 ⟨rfl, hN, hK⟩; have N4 := Aside0.mk hN; have B4 := Aside0.mk (hK.below B3.out B3.out.size (fun j hj => by rw [hj]; exact G1.out)); have K4 := Aside0.mk (K3.out.trans hK); clear hN hK)
    | (go_at_call 56; refine (rnum_c N2.out (HT.out.on B2.out) (by have := L1.out; omega)).mono ?_; rw [H2.out]; dsimp only; rw [E2.out]; rintro e w3 ⟨rfl, hN, hK⟩; have N3 := Aside0.mk hN; have B3 := Aside0.mk (hK.below B2.out B2.out.size (fun j hj => by rw [hj]; exact G1.out)); have K3 := Aside0.mk (K2.out.trans hK); clear hN hK)
    | (go_at_call 56; refine (rnum_c N1.out (HT.out.on B1.out) (by have := HL.out; omega)).mono ?_; rw [H1.out]; dsimp only; rw [E1.out]; rintro e w2 ⟨rfl, hN, hK⟩; have N2 := Aside0.mk hN; have B2 := Aside0.mk (hK.below B1.out B1.out.size (fun j hj => by rw [hj]; exact G1.out)); have K2 := Aside0.mk hK; clear hN hK)
    | (go_at_call 55; refine (new_c (Kd.C_below HC.out HB0.out) HCC.out HBY.out (by have := HL.out; omega)).mono ?_; rintro e w1 ⟨g, rfl, hg, hN, hB⟩; have N1 := Aside0.mk hN; have GG := Aside0.mk hg; have G1 := Aside0.mk (Nat.le_trans HB0.out.size hg); have B1 := Aside0.mk (HB0.out.trans (hB.mono HB0.out.size)); have O1 := Aside0.mk hB; clear hg hN hB))
  go_upto_region 7 with (fail)
  have hb6 := below_alloc (Below.refl w5.heap.size w5) (.cells #[.int .i64 0, .int .i64 n, .bool dn, .int .i64 s, .string os] 35)
  have hn6 := blk_new w5 (.cells #[.int .i64 0, .int .i64 n, .bool dn, .int .i64 s, .string os] 35)
  obtain ⟨W6, hW6⟩ : ∃ W6, W6 = w5.alloc (.cells #[.int .i64 0, .int .i64 n, .bool dn, .int .i64 s, .string os] 35) := ⟨_, rfl⟩
  rw [← hW6] at hb6 hn6 ⊢
  have hq0 : w.heap.size < W0.heap.size := (Array.getElem?_eq_some_iff.1 HN0.out).1
  have HQ0 : Aside0 (W6.heap[w.heap.size]? = some (.cells #[.int .i64 0, .int .i64 0, .bool false, .int .i64 0, .string ⟨#[]⟩] 35 (0, 0))) := ⟨(hb6.block _ (Nat.lt_of_lt_of_le hq0 (Nat.le_trans O1.out.size K5.out.size))).trans ((K5.out.block _ (Nat.lt_of_lt_of_le hq0 O1.out.size) (fun e => by have h5 : w.heap.size = g := e; have := GG.out; omega)).trans ((O1.out.block _ hq0).trans HN0.out))⟩
  obtain ⟨q6, hq6⟩ : ∃ q6, w5.heap.size = q6 := ⟨_, rfl⟩
  have HLE : Aside0 (W0.heap.size ≤ q6) := ⟨by rw [← hq6]; exact Nat.le_trans O1.out.size K5.out.size⟩
  rw [hq6] at hb6 hn6 ⊢
  have HN6 := Aside0.mk hn6
  have B6 : Aside0 (Below w.heap.size w W6) := ⟨B5.out.trans (Below.mono (by rw [hq6]; exact hb6) B5.out.size)⟩
  have C6 : Aside0 ((Kd.int .u8).C W6 A b.length b) := ⟨Kd.C_below (C_blk (Kd.C_below HC.out (HB0.out.trans (O1.out.mono HB0.out.size))) (fun ad e hp => K5.out.block _ (Nat.lt_of_lt_of_le (HAL.out ad e hp) (Nat.le_trans HB0.out.size O1.out.size)) (fun e2 => by have h5 : ad.block = g := e2; have := HAL.out ad e hp; have := G1.out; omega))) (by rw [hq6]; exact hb6)⟩
  have z0 := (blk_cell HQ0.out 0).trans rfl
  have z1 := (blk_cell HQ0.out 1).trans rfl
  have z2 := (blk_cell HQ0.out 2).trans rfl
  have z3 := (blk_cell HQ0.out 3).trans rfl
  have z4 := (blk_cell HQ0.out 4).trans rfl
  have f0 := blk_frozen HQ0.out 0
  have f1 := blk_frozen HQ0.out 1
  have f2 := blk_frozen HQ0.out 2
  have f3 := blk_frozen HQ0.out 3
  have f4 := blk_frozen HQ0.out 4
  clear hb6 hn6 hW6 hq0 hq6
  cases t with
  | false =>
    have HR : Aside0 (rdM b = (0, false, 0, ⟨#[]⟩, false)) := ⟨by rw [HRD.out, if_neg (fun h => by cases h.1)]⟩
    go_wp2
    have hfp := five_put (y0 := .int .i64 0) (y1 := .int .i64 0) (y2 := .bool false) (y3 := .int .i64 0) (y4 := .string ⟨#[]⟩) HQ0.out
    have hB9 := ((((B6.out.setCell (p := ⟨w.heap.size, 0, none⟩) (Nat.le_refl _) (.int .i64 0)).setCell (p := ⟨w.heap.size, 1, none⟩) (Nat.le_refl _) (.int .i64 0)).setCell (p := ⟨w.heap.size, 2, none⟩) (Nat.le_refl _) (.bool false)).setCell (p := ⟨w.heap.size, 3, none⟩) (Nat.le_refl _) (.int .i64 0)).setCell (p := ⟨w.heap.size, 4, none⟩) (Nat.le_refl _) (.string ⟨#[]⟩)
    generalize (((((W6.setCell ⟨w.heap.size, 0, none⟩ (.int .i64 0)).setCell ⟨w.heap.size, 1, none⟩ (.int .i64 0)).setCell ⟨w.heap.size, 2, none⟩ (.bool false)).setCell ⟨w.heap.size, 3, none⟩ (.int .i64 0)).setCell ⟨w.heap.size, 4, none⟩ (.string ⟨#[]⟩)) = W9 at hfp hB9 ⊢
    have c0 : W9.cell? ⟨w.heap.size, 0, none⟩ = some (.int .i64 0) := (blk_cell hfp 0).trans rfl
    have c1 : W9.cell? ⟨w.heap.size, 1, none⟩ = some (.int .i64 0) := (blk_cell hfp 1).trans rfl
    have c2 : W9.cell? ⟨w.heap.size, 2, none⟩ = some (.bool false) := (blk_cell hfp 2).trans rfl
    have c3 : W9.cell? ⟨w.heap.size, 3, none⟩ = some (.int .i64 0) := (blk_cell hfp 3).trans rfl
    have c4 : W9.cell? ⟨w.heap.size, 4, none⟩ = some (.string ⟨#[]⟩) := (blk_cell hfp 4).trans rfl
    exact bodyPost_ret (v := .tuple #[.agg #[.int .i64 0, .int .i64 0, .bool false, .int .i64 0, .string ⟨#[]⟩], .bool false]) (by simp [results, Tryz.results32, go_sem, c0, c1, c2, c3, c4]) rfl (by show RdPost w b _ _; unfold RdPost; rw [HR.out]; exact ⟨rfl, hB9⟩)
  | true =>
    have hbb := bytesM_bytes 0 n dn s os
    obtain ⟨bm, hbm⟩ : ∃ bm, bytesM 0 n dn s os = bm := ⟨_, rfl⟩
    rw [hbm] at hbb
    have HBM := Aside0.mk hbm
    have HBB := Aside0.mk hbb
    have hrd := HRD.out
    rw [hbm] at hrd
    have y0 := (blk_cell HN6.out 0).trans rfl
    have y1 := (blk_cell HN6.out 1).trans rfl
    have y2 := (blk_cell HN6.out 2).trans rfl
    have y3 := (blk_cell HN6.out 3).trans rfl
    have y4 := (blk_cell HN6.out 4).trans rfl
    have L6 : Aside0 (w.heap.size < W6.heap.size ∧ q6 < W6.heap.size) := ⟨(Array.getElem?_eq_some_iff.1 HQ0.out).1, (Array.getElem?_eq_some_iff.1 HN6.out).1⟩
    clear hbb hbm z0 z1 z2 z3 z4 f0 f1 f2 f3 f4
    by_cases hq : bm = b
    · have HR : Aside0 (rdM b = (n, dn, s, os, true)) := ⟨by rw [hrd, if_pos ⟨rfl, hq⟩]⟩
      have DQ : Aside0 (decide (bm = b) = true) := ⟨decide_eq_true hq⟩
      clear hrd hq
      go_wp2_with (first
        | (go_at_call 58; refine (equal_c C7.out L7.out (Kd.C_below C6.out O7.out) HCC.out HBB.out HBY.out).mono ?_; rw [DQ.out]; rintro e w8 ⟨rfl, hB⟩; (have hB68 := O7.out.trans (hB.mono O7.out.size)); (have hh0 := (hB68.block _ L6.out.1).trans HQ0.out); (have hh6 := (hB68.block _ L6.out.2).trans HN6.out); have HQ8 := Aside0.mk hh0; have B8 := Aside0.mk (B6.out.trans (hB68.mono B6.out.size)); have z0 := (blk_cell hh0 0).trans rfl; have z1 := (blk_cell hh0 1).trans rfl; have z2 := (blk_cell hh0 2).trans rfl; have z3 := (blk_cell hh0 3).trans rfl; have z4 := (blk_cell hh0 4).trans rfl; have f0 := blk_frozen hh0 0; have f1 := blk_frozen hh0 1; have f2 := blk_frozen hh0 2; have f3 := blk_frozen hh0 3; have f4 := blk_frozen hh0 4; have x0 := (blk_cell hh6 0).trans rfl; have x1 := (blk_cell hh6 1).trans rfl; have x2 := (blk_cell hh6 2).trans rfl; have x3 := (blk_cell hh6 3).trans rfl; have x4 := (blk_cell hh6 4).trans rfl; clear hB hB68 hh0 hh6)
        | (go_at_call 22; refine (mbytes_c 0 n dn s os HSR.out HOL.out W6 (HT.out.on B6.out)).mono ?_; rw [HBM.out]; rintro e w7 ⟨v7, rfl, hR, hB⟩; (obtain ⟨A7, c7, rfl, hl7, hC7, -, -⟩ := R_plain hR); have C7 := Aside0.mk hC7; have L7 := Aside0.mk hl7; have O7 := Aside0.mk hB; clear hR hB hl7 hC7))
      have hfp := five_put (y0 := .int .i64 0) (y1 := .int .i64 n) (y2 := .bool dn) (y3 := .int .i64 s) (y4 := .string os) HQ8.out
      have hB9 := ((((B8.out.setCell (p := ⟨w.heap.size, 0, none⟩) (Nat.le_refl _) (.int .i64 0)).setCell (p := ⟨w.heap.size, 1, none⟩) (Nat.le_refl _) (.int .i64 n)).setCell (p := ⟨w.heap.size, 2, none⟩) (Nat.le_refl _) (.bool dn)).setCell (p := ⟨w.heap.size, 3, none⟩) (Nat.le_refl _) (.int .i64 s)).setCell (p := ⟨w.heap.size, 4, none⟩) (Nat.le_refl _) (.string os)
      generalize (((((w8.setCell ⟨w.heap.size, 0, none⟩ (.int .i64 0)).setCell ⟨w.heap.size, 1, none⟩ (.int .i64 n)).setCell ⟨w.heap.size, 2, none⟩ (.bool dn)).setCell ⟨w.heap.size, 3, none⟩ (.int .i64 s)).setCell ⟨w.heap.size, 4, none⟩ (.string os)) = W9 at hfp hB9 ⊢
      have c0 : W9.cell? ⟨w.heap.size, 0, none⟩ = some (.int .i64 0) := (blk_cell hfp 0).trans rfl
      have c1 : W9.cell? ⟨w.heap.size, 1, none⟩ = some (.int .i64 n) := (blk_cell hfp 1).trans rfl
      have c2 : W9.cell? ⟨w.heap.size, 2, none⟩ = some (.bool dn) := (blk_cell hfp 2).trans rfl
      have c3 : W9.cell? ⟨w.heap.size, 3, none⟩ = some (.int .i64 s) := (blk_cell hfp 3).trans rfl
      have c4 : W9.cell? ⟨w.heap.size, 4, none⟩ = some (.string os) := (blk_cell hfp 4).trans rfl
      exact bodyPost_ret (v := .tuple #[.agg #[.int .i64 0, .int .i64 n, .bool dn, .int .i64 s, .string os], .bool true]) (by simp [results, Tryz.results32, go_sem, c0, c1, c2, c3, c4]) rfl (by show RdPost w b _ _; unfold RdPost; rw [HR.out]; exact ⟨rfl, hB9⟩)
    · have HR : Aside0 (rdM b = (0, false, 0, ⟨#[]⟩, false)) := ⟨by rw [hrd, if_neg (fun h => hq h.2)]⟩
      have DQ : Aside0 (decide (bm = b) = false) := ⟨decide_eq_false hq⟩
      clear hrd hq
      go_wp2_with (first
        | (go_at_call 58; refine (equal_c C7.out L7.out (Kd.C_below C6.out O7.out) HCC.out HBB.out HBY.out).mono ?_; rw [DQ.out]; rintro e w8 ⟨rfl, hB⟩; (have hB68 := O7.out.trans (hB.mono O7.out.size)); (have hh0 := (hB68.block _ L6.out.1).trans HQ0.out); (have hh6 := (hB68.block _ L6.out.2).trans HN6.out); have HQ8 := Aside0.mk hh0; have B8 := Aside0.mk (B6.out.trans (hB68.mono B6.out.size)); have z0 := (blk_cell hh0 0).trans rfl; have z1 := (blk_cell hh0 1).trans rfl; have z2 := (blk_cell hh0 2).trans rfl; have z3 := (blk_cell hh0 3).trans rfl; have z4 := (blk_cell hh0 4).trans rfl; have f0 := blk_frozen hh0 0; have f1 := blk_frozen hh0 1; have f2 := blk_frozen hh0 2; have f3 := blk_frozen hh0 3; have f4 := blk_frozen hh0 4; have x0 := (blk_cell hh6 0).trans rfl; have x1 := (blk_cell hh6 1).trans rfl; have x2 := (blk_cell hh6 2).trans rfl; have x3 := (blk_cell hh6 3).trans rfl; have x4 := (blk_cell hh6 4).trans rfl; clear hB hB68 hh0 hh6)
        | (go_at_call 22; refine (mbytes_c 0 n dn s os HSR.out HOL.out W6 (HT.out.on B6.out)).mono ?_; rw [HBM.out]; rintro e w7 ⟨v7, rfl, hR, hB⟩; (obtain ⟨A7, c7, rfl, hl7, hC7, -, -⟩ := R_plain hR); have C7 := Aside0.mk hC7; have L7 := Aside0.mk hl7; have O7 := Aside0.mk hB; clear hR hB hl7 hC7))
      have hfp := five_put (y0 := .int .i64 0) (y1 := .int .i64 0) (y2 := .bool false) (y3 := .int .i64 0) (y4 := .string ⟨#[]⟩) HQ8.out
      have hB9 := ((((B8.out.setCell (p := ⟨w.heap.size, 0, none⟩) (Nat.le_refl _) (.int .i64 0)).setCell (p := ⟨w.heap.size, 1, none⟩) (Nat.le_refl _) (.int .i64 0)).setCell (p := ⟨w.heap.size, 2, none⟩) (Nat.le_refl _) (.bool false)).setCell (p := ⟨w.heap.size, 3, none⟩) (Nat.le_refl _) (.int .i64 0)).setCell (p := ⟨w.heap.size, 4, none⟩) (Nat.le_refl _) (.string ⟨#[]⟩)
      generalize (((((w8.setCell ⟨w.heap.size, 0, none⟩ (.int .i64 0)).setCell ⟨w.heap.size, 1, none⟩ (.int .i64 0)).setCell ⟨w.heap.size, 2, none⟩ (.bool false)).setCell ⟨w.heap.size, 3, none⟩ (.int .i64 0)).setCell ⟨w.heap.size, 4, none⟩ (.string ⟨#[]⟩)) = W9 at hfp hB9 ⊢
      have c0 : W9.cell? ⟨w.heap.size, 0, none⟩ = some (.int .i64 0) := (blk_cell hfp 0).trans rfl
      have c1 : W9.cell? ⟨w.heap.size, 1, none⟩ = some (.int .i64 0) := (blk_cell hfp 1).trans rfl
      have c2 : W9.cell? ⟨w.heap.size, 2, none⟩ = some (.bool false) := (blk_cell hfp 2).trans rfl
      have c3 : W9.cell? ⟨w.heap.size, 3, none⟩ = some (.int .i64 0) := (blk_cell hfp 3).trans rfl
      have c4 : W9.cell? ⟨w.heap.size, 4, none⟩ = some (.string ⟨#[]⟩) := (blk_cell hfp 4).trans rfl
      exact bodyPost_ret (v := .tuple #[.agg #[.int .i64 0, .int .i64 0, .bool false, .int .i64 0, .string ⟨#[]⟩], .bool false]) (by simp [results, Tryz.results32, go_sem, c0, c1, c2, c3, c4]) rfl (by show RdPost w b _ _; unfold RdPost; rw [HR.out]; exact ⟨rfl, hB9⟩)
attribute [local go_sem] Oper.semAt_some
/-! The document's bytes of a mark. -/
theorem refnum_mn {w w' : World} {n : Int} {e : Ending} (h : RefNum w n e w') : ∃ v W1, e = .returned v ∧ Below w.heap.size w W1 ∧ Mn w' W1.heap.size v (NT.num n) ∧ Below w.heap.size w w' := by
  obtain ⟨W1, hB, rfl, rfl⟩ := h
  have hm := mn_conv W1 (strOfNums (NT.num n))
  rw [strL_strOf (NT.num_bytes n)] at hm
  exact ⟨_, W1, rfl, hB, hm, hB.trans ((Lib.bytesWorld_below W1 _ _).mono hB.size)⟩
theorem MCells.on1 {W W' : World} {base q : Nat} {n : Int} {done : Bool} {st : Int} {out : ByteArray} (h : MCells W q n done st out) (hb : Below base W W') (hq : q < base) : MCells W' q n done st out := by
  have e : ∀ i, W'.cell? ⟨q, i, none⟩ = W.cell? ⟨q, i, none⟩ := fun i => cell_of_heap (p := ⟨q, i, none⟩) (hb.block q hq)
  exact ⟨(e 1).trans h.1, (e 2).trans h.2.1, (e 3).trans h.2.2.1, (e 4).trans h.2.2.2⟩
/-- .. and that they are new. -/
def RefBytesO (w : World) (b : List Int) (e : Ending) (w' : World) : Prop := ∃ A c, e = .returned (.slice A b.length c) ∧ b.length ≤ c ∧ (Kd.int .u8).C w' A b.length b ∧ Below w.heap.size w w' ∧ ∀ ad, A = some ad → w.heap.size ≤ ad.block
def RefBytes (w : World) (b : List Int) (e : Ending) (w' : World) : Prop := ∃ A c, e = .returned (.slice A b.length c) ∧ b.length ≤ c ∧ (Kd.int .u8).C w' A b.length b ∧ Below w.heap.size w w'
set_option maxHeartbeats 8000000 in
set_option maxRecDepth 100000 in
theorem refbytes_o (gen n : Int) (done : Bool) (st : Int) (out : ByteArray) (hst : NT.Rng st) (ho : out.size ≤ 1000000) (w : World) :
    Calls Tryz.prog 27 #[.agg #[.int .i64 gen, .int .i64 n, .bool done, .int .i64 st, .string out]] w (RefBytesO w (bytesM gen n done st out)) := by
  have HIS := Aside0.mk (ref_is_f gen n done st out)
  have hb0 := below_alloc (Below.refl w.heap.size w) (.cells #[.int .i64 gen, .int .i64 n, .bool done, .int .i64 st, .string out] 35)
  have HB0 := Aside0.mk hb0
  have hn0 := blk_new w (.cells #[.int .i64 gen, .int .i64 n, .bool done, .int .i64 st, .string out] 35)
  have HZ0 : Aside0 (MCells (w.alloc (.cells #[.int .i64 gen, .int .i64 n, .bool done, .int .i64 st, .string out] 35)) w.heap.size n done st out) := ⟨⟨(blk_cell hn0 1).trans rfl, (blk_cell hn0 2).trans rfl, (blk_cell hn0 3).trans rfl, (blk_cell hn0 4).trans rfl⟩⟩
  have HST := Aside0.mk hst
  have HO := Aside0.mk ho
  unfold RefBytesO
  cases hm : isM gen n done st out with
  | false =>
    have e : bytesM gen n done st out = [] := by unfold bytesM; rw [if_neg (by rw [hm]; simp)]
    rw [e]
    rw [hm] at HIS
    clear hb0 hn0 hst ho hm e
    go_enter Tryz.func27, Tryz.ntmps27
    go_wp2_with (go_at_call 26; refine (lazarusref6_Is.calls gen n done st out false _ HIS.out).mono ?_; rintro e w1 ⟨rfl, hB⟩; have B1 := Aside0.mk (HB0.out.trans (hB.mono HB0.out.size)); clear hB)
    go_ret
    exact ⟨none, 0, rfl, Nat.le_refl _, Kd.C_nil _ _, B1.out, fun ad e => by cases e⟩
  | true =>
    have hn := isM_n hm
    have hrn : NT.Rng n := ⟨by omega, by omega⟩
    have e : bytesM gen n done st out = ((NT.num n ++ NT.num (bitM done)) ++ NT.num st) ++ NT.text (strL out) := by
      unfold bytesM
      rw [if_pos hm, List.append_assoc, List.append_assoc]
    rw [e]
    rw [hm] at HIS
    have HRN := Aside0.mk hrn
    have HBR := Aside0.mk (bitM_rng done)
    have l1 := num_len_le hrn
    have l2 := num_len_le (bitM_rng done)
    have l3 := num_len_le hst
    have l4 := text_len_le (s := out) (by omega)
    obtain ⟨x1, hx1⟩ : ∃ x, NT.num n = x := ⟨_, rfl⟩
    have hbt : (done = true ∧ bitM done = 1) ∨ (done = false ∧ bitM done = 0) := by cases done <;> simp [bitM]
    obtain ⟨x2, hx2⟩ : ∃ x, NT.num (bitM done) = x := ⟨_, rfl⟩
    obtain ⟨x3, hx3⟩ : ∃ x, NT.num st = x := ⟨_, rfl⟩
    obtain ⟨x4, hx4⟩ : ∃ x, NT.text (strL out) = x := ⟨_, rfl⟩
    rw [hx1] at l1
    rw [hx2] at l2
    rw [hx3] at l3
    rw [hx4] at l4
    rw [hx1, hx2, hx3, hx4]
    have HX1 := Aside0.mk hx1
    have HX2 := Aside0.mk hx2
    have HX3 := Aside0.mk hx3
    have HX4 := Aside0.mk hx4
    have LL : Aside0 (x1.length ≤ 22 ∧ x2.length ≤ 22 ∧ x3.length ≤ 22 ∧ x4.length ≤ 1000022) := ⟨l1, l2, l3, by omega⟩
    clear hb0 hn0 hst ho hm e hn hrn l1 l2 l3 l4 hx1 hx2 hx3 hx4
    rcases hbt with ⟨rfl, hb⟩ | ⟨rfl, hb⟩
    all_goals
      rw [hb] at HBR HX2
      clear hb
      go_enter Tryz.func27, Tryz.ntmps27
      go_upto_region 3 with (go_at_call 26; refine (lazarusref6_Is.calls gen n _ st out true _ HIS.out).mono ?_; rintro e w1 ⟨rfl, hB⟩; have B1 := Aside0.mk (HB0.out.trans (hB.mono HB0.out.size)); have Z1 := Aside0.mk (HZ0.out.on hB); obtain ⟨k1, k2, k3, k4⟩ := HZ0.out.on hB; clear hB)
      go_wp2_with (first
        | ((with_reducible refine gate_builtin (b := .append) (xs := #[.tmp 22, .tmp 26]) rfl ?_); at_builtin; refine wpList_append_mn rfl (.tmp 22) (.tmp 26) rfl M8.out B8.out.size C8.out rfl rfl (by have := LL.out; simp only [List.length_append]; omega) ?_; intro v9 w9 hM hB; have M9 := Aside0.mk hM; have B9 := Aside0.mk (B8.out.trans hB); clear hM hB)
        | (go_at_call 46; refine (reftext_c out (by have := HO.out; omega) w7).mono ?_; unfold RefText; rw [HX4.out]; rintro e w8 ⟨A8, c8, rfl, hlc, hC, hB⟩; have C8 := Aside0.mk hC; have M8 := Aside0.mk (M7.out.below hB); have B8 := Aside0.mk (B7.out.trans (hB.mono B7.out.size)); clear hlc hC hB)
        | ((with_reducible refine gate_builtin (b := .append) (xs := #[.tmp 16, .tmp 20]) rfl ?_); at_builtin; refine wpList_append_mn rfl (.tmp 16) (.tmp 20) rfl M6.out B6.out.size C6.out rfl rfl (by have := LL.out; simp only [List.length_append]; omega) ?_; intro v7 w7 hM hB; have M7 := Aside0.mk hM; have B7 := Aside0.mk (B6.out.trans hB); (obtain ⟨k1, k2, k3, k4⟩ := Z6.out.on1 hB ZL.out); clear hM hB)
        | (go_at_call 45; refine (refnum_c st HST.out w5).mono ?_; rintro e w6 hN; (obtain ⟨q6, c6, he, hq, hlc, hC, hB⟩ := refnum_row HST.out hN); rw [HX3.out] at he hlc hC; subst he; have C6 := Aside0.mk hC; have M6 := Aside0.mk (M5.out.below hB); have B6 := Aside0.mk (B5.out.trans (hB.mono B5.out.size)); have Z6 := Aside0.mk (Z5.out.on hB); clear hN hq hlc hC hB)
        | ((with_reducible refine gate_builtin (b := .append) (xs := #[.tmp 12, .tmp 14]) rfl ?_); at_builtin; refine wpList_append_mn rfl (.tmp 12) (.tmp 14) rfl M4.out B4.out.size C4.out rfl rfl (by have := LL.out; omega) ?_; intro v5 w5 hM hB; have M5 := Aside0.mk hM; have B5 := Aside0.mk (B4.out.trans hB); have Z5 := Aside0.mk (Z4.out.on1 hB ZL.out); (obtain ⟨k1, k2, k3, k4⟩ := Z4.out.on1 hB ZL.out); clear hM hB)
        | (go_at_call 45; refine (refnum_c _ HBR.out w3).mono ?_; rintro e w4 hN; (obtain ⟨q4, c4, he, hq, hlc, hC, hB⟩ := refnum_row HBR.out hN); rw [HX2.out] at he hlc hC; subst he; have C4 := Aside0.mk hC; have M4 := Aside0.mk (M3.out.below hB); have B4 := Aside0.mk (B3.out.trans (hB.mono B3.out.size)); have Z4 := Aside0.mk (Z3.out.on hB); clear hN hq hlc hC hB)
        | (go_at_call 45; refine (refnum_c n HRN.out w1).mono ?_; rintro e w3 hN; (obtain ⟨v3, W3, rfl, hBW, hM, hB⟩ := refnum_mn hN); rw [HX1.out] at hM; have M3 := Aside0.mk (hM.lower hBW.size); have B3 := Aside0.mk hB; have ZL := Aside0.mk (World.block_lt_of_cell? w1 ⟨w.heap.size, 1, none⟩ Z1.out.1); have Z3 := Aside0.mk (Z1.out.on hB); clear hN hBW hM hB))
      have hlx : (x1 ++ x2 ++ x3 ++ x4).length ≤ 9223372036854775807 := by have := LL.out; simp only [List.length_append]; omega
      obtain ⟨g, c, e9, h1, h2, h3⟩ := M9.out.reads hlx
      subst e9
      clear hlx
      go_ret
      exact ⟨some ⟨g, 0, none⟩, c, rfl, h2, h3, B1.out.trans (B9.out.mono B1.out.size), fun ad e => by cases e; exact Nat.le_trans B1.out.size h1⟩
theorem refbytes_c (gen n : Int) (done : Bool) (st : Int) (out : ByteArray) (hst : NT.Rng st) (ho : out.size ≤ 1000000) (w : World) :
    Calls Tryz.prog 27 #[.agg #[.int .i64 gen, .int .i64 n, .bool done, .int .i64 st, .string out]] w (RefBytes w (bytesM gen n done st out)) :=
  (refbytes_o gen n done st out hst ho w).mono fun _ _ ⟨A, c, h1, h2, h3, h4, _⟩ => ⟨A, c, h1, h2, h3, h4⟩
attribute [local go_sem] Oper.semAt_some
/-- An operation of a region that draws is taken first: its place alone is named. -/
theorem rg_take {P : Program} {ops : Array Oper} {Q : Exit → Act → World → Prop} {md : Region.Mode} {S : World → Prop} {i : Nat} {dst : Option Nat} {v : Value} {fuel : Nat} {listed : Array Bool} {a : Act} {w : World} (hd : (ops[i]?).map Oper.dst = some dst)
    (hs : Region.noSelect ops = true) (hf : Region.free md ops listed i = true) (hr : (Region.ready md ops listed).contains i = true)
    (hQ : ∀ c a w, Q (.panic c) (a.put dst v) w → Q (.panic c) a w) (hw : (ops[i]?).map (fun o => Region.wanted o (yielded ops a.tmps)) = some true)
    (hy : ∀ o, ops[i]? = some o → ∀ w, S w → (execOp a.eval o).run P w = .ok (.value v) w) (hS : S w)
    (h : wpAnyH P md ops Q S fuel (listed.setIfInBounds i true) (a.put dst v) w) : wpAnyH P md ops Q S (fuel + 1) listed a w := by
  obtain ⟨o, ho⟩ : ∃ o, ops[i]? = some o := by
    cases hh : ops[i]? with
    | none => rw [hh] at hd; cases hd
    | some o => exact ⟨o, rfl⟩
  rw [ho] at hd hw
  cases hd
  exact wpAnyH_take ho hs hf hr hQ (Or.inl ⟨Option.some.inj hw, hy o ho⟩) hS h
/-- .. one that its guard leaves out. -/
theorem rg_out {P : Program} {ops : Array Oper} {Q : Exit → Act → World → Prop} {md : Region.Mode} {S : World → Prop} {i : Nat} {dst : Option Nat} {fuel : Nat} {listed : Array Bool} {a : Act} {w : World} (hd : (ops[i]?).map Oper.dst = some dst)
    (hs : Region.noSelect ops = true) (hf : Region.free md ops listed i = true) (hr : (Region.ready md ops listed).contains i = true)
    (hQ : ∀ c a w, Q (.panic c) (a.put dst undef) w → Q (.panic c) a w) (hw : (ops[i]?).map (fun o => Region.wanted o (yielded ops a.tmps)) = some false) (hS : S w)
    (h : wpAnyH P md ops Q S fuel (listed.setIfInBounds i true) (a.put dst undef) w) : wpAnyH P md ops Q S (fuel + 1) listed a w := by
  obtain ⟨o, ho⟩ : ∃ o, ops[i]? = some o := by
    cases hh : ops[i]? with
    | none => rw [hh] at hd; cases hd
    | some o => exact ⟨o, rfl⟩
  rw [ho] at hd hw
  cases hd
  exact wpAnyH_take ho hs hf hr hQ (Or.inr ⟨Option.some.inj hw, rfl⟩) hS h
/-! A mark is read, the document's way. -/
set_option maxHeartbeats 8000000 in
set_option maxRecDepth 100000 in
theorem refread_c {w : World} {A : Option Addr} {c : Nat} {b : List Int} (hC : (Kd.int .u8).C w A b.length b) (hc : b.length ≤ c) (hb : NBytes b) (hl : b.length ≤ 100000) :
    Calls Tryz.prog 34 #[.slice A b.length c] w (RdPost w b) := by
  obtain ⟨n, k1, p, h1⟩ : ∃ n k p, tk b = (n, k, p) := ⟨_, _, _, rfl⟩
  obtain ⟨b1, e1⟩ : ∃ b1, b.drop k1 = b1 := ⟨_, rfl⟩
  obtain ⟨d, k2, q, h2⟩ : ∃ n k p, tk b1 = (n, k, p) := ⟨_, _, _, rfl⟩
  obtain ⟨b2, e2⟩ : ∃ b2, b1.drop k2 = b2 := ⟨_, rfl⟩
  obtain ⟨s, k3, r, h3⟩ : ∃ n k p, tk b2 = (n, k, p) := ⟨_, _, _, rfl⟩
  obtain ⟨b3, e3⟩ : ∃ b3, b2.drop k3 = b3 := ⟨_, rfl⟩
  obtain ⟨o, k4, t, h4⟩ : ∃ n k p, tT b3 = (n, k, p) := ⟨_, _, _, rfl⟩
  have hrd := rdM_of h1 e1 h2 e2 h3 e3 h4
  have l1 : b1.length ≤ 100000 := by rw [← e1, List.length_drop]; omega
  have l2 : b2.length ≤ 100000 := by rw [← e2, List.length_drop]; omega
  have l3 : b3.length ≤ 100000 := by rw [← e3, List.length_drop]; omega
  have nb3 : NBytes b3 := fun x hx => hb x (by rw [← e3, ← e2, ← e1] at hx; exact List.mem_of_mem_drop (List.mem_of_mem_drop (List.mem_of_mem_drop hx)))
  have hto := tT_bytes nb3
  rw [h4] at hto
  have hsr := tk_rng b2
  rw [h3] at hsr
  -- what the document asks for besides
  have hall : t = true → bytesM 0 n (d == 1) s (strOfNums o) = b → p = true ∧ q = true ∧ r = true ∧ isM 0 n (d == 1) s (strOfNums o) = true := fun ht he => by
    have f1 : (four b).n = n ∧ (four b).d = d ∧ (four b).s = s ∧ (four b).o = o ∧ (four b).p = p ∧ (four b).q = q ∧ (four b).r = r ∧ (four b).t = t := by
      unfold four
      dsimp only
      rw [h1]
      dsimp only
      rw [e1, h2]
      dsimp only
      rw [e2, h3]
      dsimp only
      rw [e3, h4]
      exact ⟨rfl, rfl, rfl, rfl, rfl, rfl, rfl, rfl⟩
    obtain ⟨g1, g2, g3, g4, g5, g6, g7, g8⟩ := f1
    have h := rdM_all hb (by omega) (by rw [g8]; exact ht) (by rw [g1, g2, g3, g4]; exact he)
    rw [g1, g2, g3, g4, g5, g6, g7] at h
    exact h
  obtain ⟨os, hos⟩ : ∃ os, strOfNums o = os := ⟨_, rfl⟩
  have hol : os.size ≤ 1000000 := by rw [← hos, str_size]; have := hto.2; dsimp only at this; omega
  obtain ⟨dn, hdn⟩ : ∃ dn, (d == 1) = dn := ⟨_, rfl⟩
  rw [hos, hdn] at hrd hall
  have hd2 : decide (d = 1) = dn := by rw [← hdn]; rfl
  have hb0 := below_alloc (Below.refl w.heap.size w) (.cells #[.int .i64 0, .int .i64 0, .bool false, .int .i64 0, .string ⟨#[]⟩] 35)
  have hn0 := blk_new w (.cells #[.int .i64 0, .int .i64 0, .bool false, .int .i64 0, .string ⟨#[]⟩] 35)
  obtain ⟨W0, hW0⟩ : ∃ W0, W0 = w.alloc (.cells #[.int .i64 0, .int .i64 0, .bool false, .int .i64 0, .string ⟨#[]⟩] 35) := ⟨_, rfl⟩
  have HW0 := Aside0.mk hW0
  rw [← hW0] at hb0 hn0
  have hx0 := below_alloc (Below.refl W0.heap.size W0) (.cells #[.slice A b.length c] 100)
  have hxn := blk_new W0 (.cells #[.slice A b.length c] 100)
  obtain ⟨W1, hW1⟩ : ∃ W1, W1 = W0.alloc (.cells #[.slice A b.length c] 100) := ⟨_, rfl⟩
  have HW1 := Aside0.mk hW1
  rw [← hW1] at hx0 hxn
  have hAl : ∀ ad, A = some ad → 0 < b.length → ad.block < w.heap.size := fun ad e hp => by subst e; exact Kd.C_lt hC hp (by decide)
  obtain ⟨g, hg⟩ : ∃ g, W0.heap.size = g := ⟨_, rfl⟩
  have HG : Aside0 (w.heap.size + 1 = g) := ⟨by rw [← hg, hW0]; simp⟩
  have hN1 : NR 100 False W1 [g] g b := ⟨A, c, hg ▸ hxn, List.mem_singleton.2 rfl, hc, Kd.C_below hC (hb0.trans (hx0.mono hb0.size)), hb, fun h => h.elim, fun ad e hp => ⟨fun hm => by have h5 := List.mem_singleton.1 hm; have := hAl ad e hp; have := hb0.size; omega, Nat.lt_of_lt_of_le (hAl ad e hp) (Nat.le_trans hb0.size hx0.size)⟩⟩
  have N1 := Aside0.mk hN1
  have HB0 := Aside0.mk hb0
  have B1 := Aside0.mk (hb0.trans (hx0.mono hb0.size))
  have G1 : Aside0 (w.heap.size ≤ g) := ⟨by rw [← hg]; exact hb0.size⟩
  have hq0 : w.heap.size < W0.heap.size := (Array.getElem?_eq_some_iff.1 hn0).1
  have Q1 : Aside0 (W1.heap[w.heap.size]? = some (.cells #[.int .i64 0, .int .i64 0, .bool false, .int .i64 0, .string ⟨#[]⟩] 35 (0, 0))) := ⟨(hx0.block _ hq0).trans hn0⟩
  have QG : Aside0 (w.heap.size ≠ g) := ⟨by omega⟩
  have HC := Aside0.mk (Kd.C_below hC (hb0.trans (hx0.mono hb0.size)))
  have HAL := Aside0.mk hAl
  have HBY := Aside0.mk hb
  have HL := Aside0.mk hl
  have H1 := Aside0.mk h1
  have H2 := Aside0.mk h2
  have H3 := Aside0.mk h3
  have H4 := Aside0.mk h4
  have E1 := Aside0.mk e1
  have E2 := Aside0.mk e2
  have E3 := Aside0.mk e3
  have L3 := Aside0.mk l3
  have HRD := Aside0.mk hrd
  have HALL := Aside0.mk hall
  have HSR := Aside0.mk hsr
  have HOS := Aside0.mk hos
  have HOL := Aside0.mk hol
  clear hC hc hb hl hAl h1 h2 h3 h4 e1 e2 e3 l1 l2 l3 hrd hsr hos hol nb3 hto hb0 hn0 hW0 hx0 hxn hW1 hg hN1 hq0 hall
  go_enter Tryz.func34, Tryz.ntmps34
  go_upto_region 2 with (fail)
  rw [← HW0.out, ← HW1.out, HG.out]
  go_upto_region 6 with (first
    | (go_at_call 63; refine (refrtext_c N4.out (by have := L3.out; omega)).mono ?_; rw [H4.out]; unfold RTPost; dsimp only; rw [HOS.out]; rintro e w5 ⟨rfl, hN, hK⟩; have B5 := Aside0.mk (hK.below B4.out B4.out.size (fun j hj => by rw [hj]; exact G1.out)); have K5 := Aside0.mk (K4.out.trans hK); clear hN hK)
    | (go_at_call 62; refine (refrnum_c N3.out).mono ?_; rw [H3.out]; unfold RNPost; dsimp only; rw [E3.out]; rintro e w4 ⟨rfl, hN, hK⟩; have N4 := Aside0.mk hN; have B4 := Aside0.mk (hK.below B3.out B3.out.size (fun j hj => by rw [hj]; exact G1.out)); have K4 := Aside0.mk (K3.out.trans hK); clear hN hK)
    | (go_at_call 62; refine (refrnum_c N2.out).mono ?_; rw [H2.out]; unfold RNPost; dsimp only; rw [E2.out]; rintro e w3 ⟨rfl, hN, hK⟩; have N3 := Aside0.mk hN; have B3 := Aside0.mk (hK.below B2.out B2.out.size (fun j hj => by rw [hj]; exact G1.out)); have K3 := Aside0.mk (K2.out.trans hK); clear hN hK)
    | (go_at_call 62; refine (refrnum_c N1.out).mono ?_; rw [H1.out]; unfold RNPost; dsimp only; rw [E1.out]; rintro e w2 ⟨rfl, hN, hK⟩; have N2 := Aside0.mk hN; have B2 := Aside0.mk (hK.below B1.out B1.out.size (fun j hj => by rw [hj]; exact G1.out)); have K2 := Aside0.mk hK; clear hN hK))
  go_upto_region 7 with (fail)
  have hb6 := below_alloc (Below.refl w5.heap.size w5) (.cells #[.int .i64 0, .int .i64 n, .bool dn, .int .i64 s, .string os] 35)
  have hn6 := blk_new w5 (.cells #[.int .i64 0, .int .i64 n, .bool dn, .int .i64 s, .string os] 35)
  obtain ⟨W6, hW6⟩ : ∃ W6, W6 = w5.alloc (.cells #[.int .i64 0, .int .i64 n, .bool dn, .int .i64 s, .string os] 35) := ⟨_, rfl⟩
  rw [← hW6] at hb6 hn6 ⊢
  have hq1 : w.heap.size < W1.heap.size := (Array.getElem?_eq_some_iff.1 Q1.out).1
  have HQ0 : Aside0 (W6.heap[w.heap.size]? = some (.cells #[.int .i64 0, .int .i64 0, .bool false, .int .i64 0, .string ⟨#[]⟩] 35 (0, 0))) := ⟨(hb6.block _ (Nat.lt_of_lt_of_le hq1 K5.out.size)).trans ((K5.out.block _ hq1 QG.out).trans Q1.out)⟩
  obtain ⟨q6, hq6⟩ : ∃ q6, w5.heap.size = q6 := ⟨_, rfl⟩
  rw [hq6] at hb6 hn6 ⊢
  have HN6 := Aside0.mk hn6
  have B6 : Aside0 (Below w.heap.size w W6) := ⟨B5.out.trans (Below.mono (by rw [hq6]; exact hb6) B5.out.size)⟩
  have C6 : Aside0 ((Kd.int .u8).C W6 A b.length b) := ⟨Kd.C_below (C_blk HC.out (fun ad e hp => K5.out.block _ (Nat.lt_of_lt_of_le (HAL.out ad e hp) B1.out.size) (fun e2 => by have h5 : ad.block = g := e2; have := HAL.out ad e hp; have := G1.out; omega))) (by rw [hq6]; exact hb6)⟩
  have L6 : Aside0 (w.heap.size < W6.heap.size ∧ q6 < W6.heap.size) := ⟨(Array.getElem?_eq_some_iff.1 HQ0.out).1, (Array.getElem?_eq_some_iff.1 HN6.out).1⟩
  clear hb6 hn6 hW6 hq1 hq6
  by_cases hok : p = true ∧ q = true ∧ r = true ∧ t = true
  · obtain ⟨rfl, rfl, rfl, rfl⟩ := hok
    obtain ⟨sb, hsb⟩ : ∃ sb, strOfNums b = sb := ⟨_, rfl⟩
    have HSB := Aside0.mk hsb
    have HSS : Aside0 (∀ W', Below W6.heap.size W6 W' → W'.cell? ⟨q6, 0, none⟩ = some (.int .i64 0) ∧ W'.cell? ⟨q6, 1, none⟩ = some (.int .i64 n) ∧ W'.cell? ⟨q6, 2, none⟩ = some (.bool dn) ∧ W'.cell? ⟨q6, 3, none⟩ = some (.int .i64 s) ∧ W'.cell? ⟨q6, 4, none⟩ = some (.string os) ∧ (convert 52 9 (.slice A b.length c)).run Tryz.prog W' = .ok (.string sb) W') := ⟨fun W' hB => by
      have hh := (hB.block _ L6.out.2).trans HN6.out
      refine ⟨(blk_cell hh 0).trans rfl, (blk_cell hh 1).trans rfl, (blk_cell hh 2).trans rfl, (blk_cell hh 3).trans rfl, (blk_cell hh 4).trans rfl, ?_⟩
      rw [conv_str (Kd.C_below C6.out hB), HSB.out]⟩
    have OD := Aside0.mk (below_drew1 (Below.refl W6.heap.size W6))
    clear hsb
    cases hm : isM 0 n dn s os with
    | false =>
      have HR : Aside0 (rdM b = (0, false, 0, ⟨#[]⟩, false)) := ⟨by rw [HRD.out, if_neg (fun h => by have h2 := (HALL.out h.1 h.2).2.2.2; rw [hm] at h2; cases h2)]⟩
      have HIS : Aside0 (lazarusref6_Is.f 0 n dn s os = some false) := ⟨by rw [ref_is_f, hm]⟩
      clear hm
      have y0 := (blk_cell HN6.out 0).trans rfl
      have y1 := (blk_cell HN6.out 1).trans rfl
      have y2 := (blk_cell HN6.out 2).trans rfl
      have y3 := (blk_cell HN6.out 3).trans rfl
      have y4 := (blk_cell HN6.out 4).trans rfl
      refine wp_region_held_drew (S := (fun w' => w'.cell? ⟨q6, 0, none⟩ = some (.int .i64 0) ∧ w'.cell? ⟨q6, 1, none⟩ = some (.int .i64 n) ∧ w'.cell? ⟨q6, 2, none⟩ = some (.bool dn) ∧ w'.cell? ⟨q6, 3, none⟩ = some (.int .i64 s) ∧ w'.cell? ⟨q6, 4, none⟩ = some (.string os) ∧ (convert 52 9 (.slice A b.length c)).run Tryz.prog w' = .ok (.string sb) w')) (by kernel_rfl) (HSS.out _ OD.out) (fun hHeld => ?_)
      refine rg_take (i := 0) (dst := some 44) (v := ?_) (by kernel_rfl) (by kernel_rfl) (by kernel_rfl) (by kernel_rfl) (fun _ _ _ h => h) (by rfl) ?_ (by assumption) ?_
      rotate_left
      · intro o ho w' hSw
        cases ho
        (try dsimp only at hSw)
        go_simp
        first | done | with_reducible rfl
      simp only [Act.put, List.setIfInBounds_toArray, List.set_cons_zero, List.set_cons_succ]
      refine rg_take (i := 1) (dst := some 45) (v := ?_) (by kernel_rfl) (by kernel_rfl) (by kernel_rfl) (by kernel_rfl) (fun _ _ _ h => h) (by rfl) ?_ (by assumption) ?_
      rotate_left
      · intro o ho w' hSw
        cases ho
        (try dsimp only at hSw)
        go_simp
        first | done | with_reducible rfl
      simp only [Act.put, List.setIfInBounds_toArray, List.set_cons_zero, List.set_cons_succ]
      refine rg_take (i := 2) (dst := some 46) (v := ?_) (by kernel_rfl) (by kernel_rfl) (by kernel_rfl) (by kernel_rfl) (fun _ _ _ h => h) (by rfl) ?_ (by assumption) ?_
      rotate_left
      · intro o ho w' hSw
        cases ho
        (try dsimp only at hSw)
        go_simp
        first | done | with_reducible rfl
      simp only [Act.put, List.setIfInBounds_toArray, List.set_cons_zero, List.set_cons_succ]
      refine rg_take (i := 3) (dst := some 47) (v := ?_) (by kernel_rfl) (by kernel_rfl) (by kernel_rfl) (by kernel_rfl) (fun _ _ _ h => h) (by rfl) ?_ (by assumption) ?_
      rotate_left
      · intro o ho w' hSw
        cases ho
        (try dsimp only at hSw)
        go_simp
        first | done | with_reducible rfl
      simp only [Act.put, List.setIfInBounds_toArray, List.set_cons_zero, List.set_cons_succ]
      refine rg_take (i := 4) (dst := some 48) (v := ?_) (by kernel_rfl) (by kernel_rfl) (by kernel_rfl) (by kernel_rfl) (fun _ _ _ h => h) (by rfl) ?_ (by assumption) ?_
      rotate_left
      · intro o ho w' hSw
        cases ho
        (try dsimp only at hSw)
        go_simp
        first | done | with_reducible rfl
      simp only [Act.put, List.setIfInBounds_toArray, List.set_cons_zero, List.set_cons_succ]
      refine rg_take (i := 5) (dst := some 49) (v := ?_) (by kernel_rfl) (by kernel_rfl) (by kernel_rfl) (by kernel_rfl) (fun _ _ _ h => h) (by rfl) ?_ (by assumption) ?_
      rotate_left
      · intro o ho w' hSw
        cases ho
        (try dsimp only at hSw)
        go_simp
        first | done | with_reducible rfl
      simp only [Act.put, List.setIfInBounds_toArray, List.set_cons_zero, List.set_cons_succ]
      refine rg_take (i := 6) (dst := some 50) (v := ?_) (by kernel_rfl) (by kernel_rfl) (by kernel_rfl) (by kernel_rfl) (fun _ _ _ h => h) (by rfl) ?_ (by assumption) ?_
      rotate_left
      · intro o ho w' hSw
        cases ho
        (try dsimp only at hSw)
        go_simp
        first | done | with_reducible rfl
      simp only [Act.put, List.setIfInBounds_toArray, List.set_cons_zero, List.set_cons_succ]
      refine rg_take (i := 7) (dst := some 51) (v := ?_) (by kernel_rfl) (by kernel_rfl) (by kernel_rfl) (by kernel_rfl) (fun _ _ _ h => h) (by rfl) ?_ (by assumption) ?_
      rotate_left
      · intro o ho w' hSw
        cases ho
        (try dsimp only at hSw)
        go_simp
        first | done | with_reducible rfl
      simp only [Act.put, List.setIfInBounds_toArray, List.set_cons_zero, List.set_cons_succ]
      refine rg_take (i := 8) (dst := some 52) (v := ?_) (by kernel_rfl) (by kernel_rfl) (by kernel_rfl) (by kernel_rfl) (fun _ _ _ h => h) (by rfl) ?_ (by assumption) ?_
      rotate_left
      · intro o ho w' hSw
        cases ho
        (try dsimp only at hSw)
        go_simp
        first | done | with_reducible rfl
      simp only [Act.put, List.setIfInBounds_toArray, List.set_cons_zero, List.set_cons_succ]
      refine rg_take (i := 9) (dst := some 53) (v := ?_) (by kernel_rfl) (by kernel_rfl) (by kernel_rfl) (by kernel_rfl) (fun _ _ _ h => h) (by rfl) ?_ (by assumption) ?_
      rotate_left
      · intro o ho w' hSw
        cases ho
        (try dsimp only at hSw)
        go_simp
        first | done | with_reducible rfl
      simp only [Act.put, List.setIfInBounds_toArray, List.set_cons_zero, List.set_cons_succ]
      refine rg_take (i := 10) (dst := some 54) (v := ?_) (by kernel_rfl) (by kernel_rfl) (by kernel_rfl) (by kernel_rfl) (fun _ _ _ h => h) (by rfl) ?_ (by assumption) ?_
      rotate_left
      · intro o ho w' hSw
        cases ho
        (try dsimp only at hSw)
        go_simp
        first | done | with_reducible rfl
      simp only [Act.put, List.setIfInBounds_toArray, List.set_cons_zero, List.set_cons_succ]
      refine rg_take (i := 11) (dst := some 55) (v := ?_) (by kernel_rfl) (by kernel_rfl) (by kernel_rfl) (by kernel_rfl) (fun _ _ _ h => h) (by rfl) ?_ (by assumption) ?_
      rotate_left
      · intro o ho w' hSw
        cases ho
        (try dsimp only at hSw)
        go_simp
        first | done | with_reducible rfl
      simp only [Act.put, List.setIfInBounds_toArray, List.set_cons_zero, List.set_cons_succ]
      refine rg_take (i := 12) (dst := some 56) (v := ?_) (by kernel_rfl) (by kernel_rfl) (by kernel_rfl) (by kernel_rfl) (fun _ _ _ h => h) (by rfl) ?_ (by assumption) ?_
      rotate_left
      · intro o ho w' hSw
        cases ho
        (try dsimp only at hSw)
        go_simp
        first | done | with_reducible rfl
      simp only [Act.put, List.setIfInBounds_toArray, List.set_cons_zero, List.set_cons_succ]
      refine rg_take (i := 13) (dst := some 57) (v := ?_) (by kernel_rfl) (by kernel_rfl) (by kernel_rfl) (by kernel_rfl) (fun _ _ _ h => h) (by rfl) ?_ (by assumption) ?_
      rotate_left
      · intro o ho w' hSw
        cases ho
        (try dsimp only at hSw)
        go_simp
        first | done | with_reducible rfl
      simp only [Act.put, List.setIfInBounds_toArray, List.set_cons_zero, List.set_cons_succ]
      refine rg_take (i := 14) (dst := some 58) (v := ?_) (by kernel_rfl) (by kernel_rfl) (by kernel_rfl) (by kernel_rfl) (fun _ _ _ h => h) (by rfl) ?_ (by assumption) ?_
      rotate_left
      · intro o ho w' hSw
        cases ho
        (try dsimp only at hSw)
        go_simp
        first | done | with_reducible rfl
      simp only [Act.put, List.setIfInBounds_toArray, List.set_cons_zero, List.set_cons_succ]
      refine rg_take (i := 15) (dst := some 59) (v := ?_) (by kernel_rfl) (by kernel_rfl) (by kernel_rfl) (by kernel_rfl) (fun _ _ _ h => h) (by rfl) ?_ (by assumption) ?_
      rotate_left
      · intro o ho w' hSw
        cases ho
        (try dsimp only at hSw)
        go_simp
        first | done | with_reducible rfl
      simp only [Act.put, List.setIfInBounds_toArray, List.set_cons_zero, List.set_cons_succ]
      refine wpAnyH_ready (rs := [16]) (by kernel_rfl) (by simp) ?_
      refine AllReadyH.cons rfl (fun K hK => ?_) AllReadyH.nil
      go_simp
      go_wp2_with (first | (go_at_call 26; refine (lazarusref6_Is.calls 0 n dn s os false _ HIS.out).mono ?_; rintro e w7 ⟨rfl, hB⟩; have O7 := Aside0.mk (OD.out.trans (hB.mono OD.out.size)); clear hB))
      refine hK.out _ _ (HSS.out _ O7.out) (fun hHeld => ?_)
      clear hK K
      refine rg_take (i := 17) (dst := some 61) (v := ?_) (by kernel_rfl) (by kernel_rfl) (by kernel_rfl) (by kernel_rfl) (fun _ _ _ h => h) (by rfl) ?_ (by assumption) ?_
      rotate_left
      · intro o ho w' hSw
        cases ho
        (try dsimp only at hSw)
        go_simp
        first | done | with_reducible rfl
      simp only [Act.put, List.setIfInBounds_toArray, List.set_cons_zero, List.set_cons_succ]
      refine rg_take (i := 18) (dst := some 62) (v := ?_) (by kernel_rfl) (by kernel_rfl) (by kernel_rfl) (by kernel_rfl) (fun _ _ _ h => h) (by rfl) ?_ (by assumption) ?_
      rotate_left
      · intro o ho w' hSw
        cases ho
        (try dsimp only at hSw)
        go_simp
        first | done | with_reducible rfl
      simp only [Act.put, List.setIfInBounds_toArray, List.set_cons_zero, List.set_cons_succ]
      refine rg_take (i := 19) (dst := some 63) (v := ?_) (by kernel_rfl) (by kernel_rfl) (by kernel_rfl) (by kernel_rfl) (fun _ _ _ h => h) (by rfl) ?_ (by assumption) ?_
      rotate_left
      · intro o ho w' hSw
        cases ho
        (try dsimp only at hSw)
        go_simp
        first | done | with_reducible rfl
      simp only [Act.put, List.setIfInBounds_toArray, List.set_cons_zero, List.set_cons_succ]
      refine rg_out (i := 20) (dst := some 64) (by kernel_rfl) (by kernel_rfl) (by kernel_rfl) (by kernel_rfl) (fun _ _ _ h => h) (by rfl) (by assumption) ?_
      simp only [Act.put, List.setIfInBounds_toArray, List.set_cons_zero, List.set_cons_succ]
      refine rg_out (i := 21) (dst := some 65) (by kernel_rfl) (by kernel_rfl) (by kernel_rfl) (by kernel_rfl) (fun _ _ _ h => h) (by rfl) (by assumption) ?_
      simp only [Act.put, List.setIfInBounds_toArray, List.set_cons_zero, List.set_cons_succ]
      refine rg_out (i := 22) (dst := some 66) (by kernel_rfl) (by kernel_rfl) (by kernel_rfl) (by kernel_rfl) (fun _ _ _ h => h) (by rfl) (by assumption) ?_
      simp only [Act.put, List.setIfInBounds_toArray, List.set_cons_zero, List.set_cons_succ]
      refine rg_out (i := 23) (dst := some 67) (by kernel_rfl) (by kernel_rfl) (by kernel_rfl) (by kernel_rfl) (fun _ _ _ h => h) (by rfl) (by assumption) ?_
      simp only [Act.put, List.setIfInBounds_toArray, List.set_cons_zero, List.set_cons_succ]
      refine rg_out (i := 24) (dst := some 68) (by kernel_rfl) (by kernel_rfl) (by kernel_rfl) (by kernel_rfl) (fun _ _ _ h => h) (by rfl) (by assumption) ?_
      simp only [Act.put, List.setIfInBounds_toArray, List.set_cons_zero, List.set_cons_succ]
      refine rg_out (i := 25) (dst := some 69) (by kernel_rfl) (by kernel_rfl) (by kernel_rfl) (by kernel_rfl) (fun _ _ _ h => h) (by rfl) (by assumption) ?_
      simp only [Act.put, List.setIfInBounds_toArray, List.set_cons_zero, List.set_cons_succ]
      refine rg_take (i := 26) (dst := some 70) (v := ?_) (by kernel_rfl) (by kernel_rfl) (by kernel_rfl) (by kernel_rfl) (fun _ _ _ h => h) (by rfl) ?_ (by assumption) ?_
      rotate_left
      · intro o ho w' hSw
        cases ho
        (try dsimp only at hSw)
        go_simp
        first | done | with_reducible rfl
      simp only [Act.put, List.setIfInBounds_toArray, List.set_cons_zero, List.set_cons_succ]
      refine wpAnyH_done (by kernel_rfl) ?_ _
      all_goals
        have hB68 := O7.out
        have HQ8 := Aside0.mk ((hB68.block _ L6.out.1).trans HQ0.out)
        have hh6 := (hB68.block _ L6.out.2).trans HN6.out
        have B8 := Aside0.mk (B6.out.trans (hB68.mono B6.out.size))
        have z0 := (blk_cell HQ8.out 0).trans rfl
        have z1 := (blk_cell HQ8.out 1).trans rfl
        have z2 := (blk_cell HQ8.out 2).trans rfl
        have z3 := (blk_cell HQ8.out 3).trans rfl
        have z4 := (blk_cell HQ8.out 4).trans rfl
        have f0 := blk_frozen HQ8.out 0
        have f1 := blk_frozen HQ8.out 1
        have f2 := blk_frozen HQ8.out 2
        have f3 := blk_frozen HQ8.out 3
        have f4 := blk_frozen HQ8.out 4
        have x0 := (blk_cell hh6 0).trans rfl
        have x1 := (blk_cell hh6 1).trans rfl
        have x2 := (blk_cell hh6 2).trans rfl
        have x3 := (blk_cell hh6 3).trans rfl
        have x4 := (blk_cell hh6 4).trans rfl
        clear hB68 hh6
        go_wp2
        have hfp := five_put (y0 := .int .i64 0) (y1 := .int .i64 0) (y2 := .bool false) (y3 := .int .i64 0) (y4 := .string ⟨#[]⟩) HQ8.out
        have hB9 := ((((B8.out.setCell (p := ⟨w.heap.size, 0, none⟩) (Nat.le_refl _) (.int .i64 0)).setCell (p := ⟨w.heap.size, 1, none⟩) (Nat.le_refl _) (.int .i64 0)).setCell (p := ⟨w.heap.size, 2, none⟩) (Nat.le_refl _) (.bool false)).setCell (p := ⟨w.heap.size, 3, none⟩) (Nat.le_refl _) (.int .i64 0)).setCell (p := ⟨w.heap.size, 4, none⟩) (Nat.le_refl _) (.string ⟨#[]⟩)
        generalize (((((w7.setCell ⟨w.heap.size, 0, none⟩ (.int .i64 0)).setCell ⟨w.heap.size, 1, none⟩ (.int .i64 0)).setCell ⟨w.heap.size, 2, none⟩ (.bool false)).setCell ⟨w.heap.size, 3, none⟩ (.int .i64 0)).setCell ⟨w.heap.size, 4, none⟩ (.string ⟨#[]⟩)) = W9 at hfp hB9 ⊢
        have c0 : W9.cell? ⟨w.heap.size, 0, none⟩ = some (.int .i64 0) := (blk_cell hfp 0).trans rfl
        have c1 : W9.cell? ⟨w.heap.size, 1, none⟩ = some (.int .i64 0) := (blk_cell hfp 1).trans rfl
        have c2 : W9.cell? ⟨w.heap.size, 2, none⟩ = some (.bool false) := (blk_cell hfp 2).trans rfl
        have c3 : W9.cell? ⟨w.heap.size, 3, none⟩ = some (.int .i64 0) := (blk_cell hfp 3).trans rfl
        have c4 : W9.cell? ⟨w.heap.size, 4, none⟩ = some (.string ⟨#[]⟩) := (blk_cell hfp 4).trans rfl
        exact bodyPost_ret (v := .tuple #[.agg #[.int .i64 0, .int .i64 0, .bool false, .int .i64 0, .string ⟨#[]⟩], .bool false]) (by simp [results, Tryz.results34, go_sem, c0, c1, c2, c3, c4]) rfl (by show RdPost w b _ _; unfold RdPost; rw [HR.out]; exact ⟨rfl, hB9⟩)
    | true =>
      have HIS : Aside0 (lazarusref6_Is.f 0 n dn s os = some true) := ⟨by rw [ref_is_f, hm]⟩
      have hbb := bytesM_bytes 0 n dn s os
      obtain ⟨bm, hbm⟩ : ∃ bm, bytesM 0 n dn s os = bm := ⟨_, rfl⟩
      rw [hbm] at hbb
      have HBM := Aside0.mk hbm
      have hrd := HRD.out
      rw [hbm] at hrd
      clear hm hbm
      by_cases hq : bm = b
      · have HR : Aside0 (rdM b = (n, dn, s, os, true)) := ⟨by rw [hrd, if_pos ⟨rfl, hq⟩]⟩
        have HSM : Aside0 (strOfNums bm = sb) := ⟨by rw [hq, HSB.out]⟩
        have hse1 : (sb.toList == sb.toList) = true := beq_self_eq_true _
        have hse3 : ¬ (sb.toList == sb.toList) = false := by rw [hse1]; simp
        clear hrd hq hbb
        go_region_held (fun w' => w'.cell? ⟨q6, 0, none⟩ = some (.int .i64 0) ∧ w'.cell? ⟨q6, 1, none⟩ = some (.int .i64 n) ∧ w'.cell? ⟨q6, 2, none⟩ = some (.bool dn) ∧ w'.cell? ⟨q6, 3, none⟩ = some (.int .i64 s) ∧ w'.cell? ⟨q6, 4, none⟩ = some (.string os) ∧ (convert 52 9 (.slice A b.length c)).run Tryz.prog w' = .ok (.string sb) w') (first | exact HSS.out _ O8.out | exact HSS.out _ O7.out | exact HSS.out _ OD.out) (first
          | (go_at_call 27; refine (refbytes_c 0 n dn s os HSR.out HOL.out w7).mono ?_; unfold RefBytes; rw [HBM.out]; rintro e w8 ⟨A8, c8, rfl, hlc, hC, hB⟩; have O8 := Aside0.mk (O7.out.trans (hB.mono O7.out.size)); (have hcv8 := conv_str (c := c8) hC); rw [HSM.out] at hcv8; clear hlc hC hB)
          | (go_at_call 26; refine (lazarusref6_Is.calls 0 n dn s os true _ HIS.out).mono ?_; rintro e w7 ⟨rfl, hB⟩; have O7 := Aside0.mk (OD.out.trans (hB.mono OD.out.size)); clear hB))
        all_goals
          have hB68 := O8.out
          have HQ8 := Aside0.mk ((hB68.block _ L6.out.1).trans HQ0.out)
          have hh6 := (hB68.block _ L6.out.2).trans HN6.out
          have B8 := Aside0.mk (B6.out.trans (hB68.mono B6.out.size))
          have z0 := (blk_cell HQ8.out 0).trans rfl
          have z1 := (blk_cell HQ8.out 1).trans rfl
          have z2 := (blk_cell HQ8.out 2).trans rfl
          have z3 := (blk_cell HQ8.out 3).trans rfl
          have z4 := (blk_cell HQ8.out 4).trans rfl
          have f0 := blk_frozen HQ8.out 0
          have f1 := blk_frozen HQ8.out 1
          have f2 := blk_frozen HQ8.out 2
          have f3 := blk_frozen HQ8.out 3
          have f4 := blk_frozen HQ8.out 4
          have x0 := (blk_cell hh6 0).trans rfl
          have x1 := (blk_cell hh6 1).trans rfl
          have x2 := (blk_cell hh6 2).trans rfl
          have x3 := (blk_cell hh6 3).trans rfl
          have x4 := (blk_cell hh6 4).trans rfl
          clear hB68 hh6
          go_wp2
          all_goals first | (exfalso; rename_i hx; first | (rw [hse1] at hx; cases hx; done) | (simp at hx; done) | (simp at hx; exact hse3 hx)) | skip
          have hfp := five_put (y0 := .int .i64 0) (y1 := .int .i64 n) (y2 := .bool dn) (y3 := .int .i64 s) (y4 := .string os) HQ8.out
          have hB9 := ((((B8.out.setCell (p := ⟨w.heap.size, 0, none⟩) (Nat.le_refl _) (.int .i64 0)).setCell (p := ⟨w.heap.size, 1, none⟩) (Nat.le_refl _) (.int .i64 n)).setCell (p := ⟨w.heap.size, 2, none⟩) (Nat.le_refl _) (.bool dn)).setCell (p := ⟨w.heap.size, 3, none⟩) (Nat.le_refl _) (.int .i64 s)).setCell (p := ⟨w.heap.size, 4, none⟩) (Nat.le_refl _) (.string os)
          generalize (((((w8.setCell ⟨w.heap.size, 0, none⟩ (.int .i64 0)).setCell ⟨w.heap.size, 1, none⟩ (.int .i64 n)).setCell ⟨w.heap.size, 2, none⟩ (.bool dn)).setCell ⟨w.heap.size, 3, none⟩ (.int .i64 s)).setCell ⟨w.heap.size, 4, none⟩ (.string os)) = W9 at hfp hB9 ⊢
          have c0 : W9.cell? ⟨w.heap.size, 0, none⟩ = some (.int .i64 0) := (blk_cell hfp 0).trans rfl
          have c1 : W9.cell? ⟨w.heap.size, 1, none⟩ = some (.int .i64 n) := (blk_cell hfp 1).trans rfl
          have c2 : W9.cell? ⟨w.heap.size, 2, none⟩ = some (.bool dn) := (blk_cell hfp 2).trans rfl
          have c3 : W9.cell? ⟨w.heap.size, 3, none⟩ = some (.int .i64 s) := (blk_cell hfp 3).trans rfl
          have c4 : W9.cell? ⟨w.heap.size, 4, none⟩ = some (.string os) := (blk_cell hfp 4).trans rfl
          exact bodyPost_ret (v := .tuple #[.agg #[.int .i64 0, .int .i64 n, .bool dn, .int .i64 s, .string os], .bool true]) (by simp [results, Tryz.results34, go_sem, c0, c1, c2, c3, c4]) rfl (by show RdPost w b _ _; unfold RdPost; rw [HR.out]; exact ⟨rfl, hB9⟩)
      · have HR : Aside0 (rdM b = (0, false, 0, ⟨#[]⟩, false)) := ⟨by rw [hrd, if_neg (fun h => hq h.2)]⟩
        have hse0 := list_ne hbb HBY.out hq
        rw [HSB.out] at hse0
        obtain ⟨sm, hsm⟩ : ∃ sm, strOfNums bm = sm := ⟨_, rfl⟩
        rw [hsm] at hse0
        have HSM := Aside0.mk hsm
        have hse1 := hse0
        have hse3 : ¬ sm.toList = sb.toList := beq_eq_false_iff_ne.1 hse1
        clear hrd hq hbb hsm hse0
        go_region_held (fun w' => w'.cell? ⟨q6, 0, none⟩ = some (.int .i64 0) ∧ w'.cell? ⟨q6, 1, none⟩ = some (.int .i64 n) ∧ w'.cell? ⟨q6, 2, none⟩ = some (.bool dn) ∧ w'.cell? ⟨q6, 3, none⟩ = some (.int .i64 s) ∧ w'.cell? ⟨q6, 4, none⟩ = some (.string os) ∧ (convert 52 9 (.slice A b.length c)).run Tryz.prog w' = .ok (.string sb) w') (first | exact HSS.out _ O8.out | exact HSS.out _ O7.out | exact HSS.out _ OD.out) (first
          | (go_at_call 27; refine (refbytes_c 0 n dn s os HSR.out HOL.out w7).mono ?_; unfold RefBytes; rw [HBM.out]; rintro e w8 ⟨A8, c8, rfl, hlc, hC, hB⟩; have O8 := Aside0.mk (O7.out.trans (hB.mono O7.out.size)); (have hcv8 := conv_str (c := c8) hC); rw [HSM.out] at hcv8; clear hlc hC hB)
          | (go_at_call 26; refine (lazarusref6_Is.calls 0 n dn s os true _ HIS.out).mono ?_; rintro e w7 ⟨rfl, hB⟩; have O7 := Aside0.mk (OD.out.trans (hB.mono OD.out.size)); clear hB))
        all_goals
          have hB68 := O8.out
          have HQ8 := Aside0.mk ((hB68.block _ L6.out.1).trans HQ0.out)
          have hh6 := (hB68.block _ L6.out.2).trans HN6.out
          have B8 := Aside0.mk (B6.out.trans (hB68.mono B6.out.size))
          have z0 := (blk_cell HQ8.out 0).trans rfl
          have z1 := (blk_cell HQ8.out 1).trans rfl
          have z2 := (blk_cell HQ8.out 2).trans rfl
          have z3 := (blk_cell HQ8.out 3).trans rfl
          have z4 := (blk_cell HQ8.out 4).trans rfl
          have f0 := blk_frozen HQ8.out 0
          have f1 := blk_frozen HQ8.out 1
          have f2 := blk_frozen HQ8.out 2
          have f3 := blk_frozen HQ8.out 3
          have f4 := blk_frozen HQ8.out 4
          have x0 := (blk_cell hh6 0).trans rfl
          have x1 := (blk_cell hh6 1).trans rfl
          have x2 := (blk_cell hh6 2).trans rfl
          have x3 := (blk_cell hh6 3).trans rfl
          have x4 := (blk_cell hh6 4).trans rfl
          clear hB68 hh6
          go_wp2
          all_goals first | (exfalso; rename_i hx; first | (rw [hse1] at hx; cases hx; done) | (simp at hx; done) | (simp at hx; exact hse3 hx)) | skip
          have hfp := five_put (y0 := .int .i64 0) (y1 := .int .i64 0) (y2 := .bool false) (y3 := .int .i64 0) (y4 := .string ⟨#[]⟩) HQ8.out
          have hB9 := ((((B8.out.setCell (p := ⟨w.heap.size, 0, none⟩) (Nat.le_refl _) (.int .i64 0)).setCell (p := ⟨w.heap.size, 1, none⟩) (Nat.le_refl _) (.int .i64 0)).setCell (p := ⟨w.heap.size, 2, none⟩) (Nat.le_refl _) (.bool false)).setCell (p := ⟨w.heap.size, 3, none⟩) (Nat.le_refl _) (.int .i64 0)).setCell (p := ⟨w.heap.size, 4, none⟩) (Nat.le_refl _) (.string ⟨#[]⟩)
          generalize (((((w8.setCell ⟨w.heap.size, 0, none⟩ (.int .i64 0)).setCell ⟨w.heap.size, 1, none⟩ (.int .i64 0)).setCell ⟨w.heap.size, 2, none⟩ (.bool false)).setCell ⟨w.heap.size, 3, none⟩ (.int .i64 0)).setCell ⟨w.heap.size, 4, none⟩ (.string ⟨#[]⟩)) = W9 at hfp hB9 ⊢
          have c0 : W9.cell? ⟨w.heap.size, 0, none⟩ = some (.int .i64 0) := (blk_cell hfp 0).trans rfl
          have c1 : W9.cell? ⟨w.heap.size, 1, none⟩ = some (.int .i64 0) := (blk_cell hfp 1).trans rfl
          have c2 : W9.cell? ⟨w.heap.size, 2, none⟩ = some (.bool false) := (blk_cell hfp 2).trans rfl
          have c3 : W9.cell? ⟨w.heap.size, 3, none⟩ = some (.int .i64 0) := (blk_cell hfp 3).trans rfl
          have c4 : W9.cell? ⟨w.heap.size, 4, none⟩ = some (.string ⟨#[]⟩) := (blk_cell hfp 4).trans rfl
          exact bodyPost_ret (v := .tuple #[.agg #[.int .i64 0, .int .i64 0, .bool false, .int .i64 0, .string ⟨#[]⟩], .bool false]) (by simp [results, Tryz.results34, go_sem, c0, c1, c2, c3, c4]) rfl (by show RdPost w b _ _; unfold RdPost; rw [HR.out]; exact ⟨rfl, hB9⟩)
  · have HR : Aside0 (rdM b = (0, false, 0, ⟨#[]⟩, false)) := ⟨by rw [HRD.out, if_neg (fun h => hok (by have h2 := HALL.out h.1 h.2; exact ⟨h2.1, h2.2.1, h2.2.2.1, h.1⟩))]⟩
    cases p with
    | false =>
      go_quiet (first | fail)
      have hB68 := pw_below_drewN (Below.refl W6.heap.size W6) nq
      generalize W6.drewN nq = w8 at hB68 ⊢
      have HQ8 := Aside0.mk ((hB68.block _ L6.out.1).trans HQ0.out)
      have hh6 := (hB68.block _ L6.out.2).trans HN6.out
      have B8 := Aside0.mk (B6.out.trans (hB68.mono B6.out.size))
      have z0 := (blk_cell HQ8.out 0).trans rfl
      have z1 := (blk_cell HQ8.out 1).trans rfl
      have z2 := (blk_cell HQ8.out 2).trans rfl
      have z3 := (blk_cell HQ8.out 3).trans rfl
      have z4 := (blk_cell HQ8.out 4).trans rfl
      have f0 := blk_frozen HQ8.out 0
      have f1 := blk_frozen HQ8.out 1
      have f2 := blk_frozen HQ8.out 2
      have f3 := blk_frozen HQ8.out 3
      have f4 := blk_frozen HQ8.out 4
      have x0 := (blk_cell hh6 0).trans rfl
      have x1 := (blk_cell hh6 1).trans rfl
      have x2 := (blk_cell hh6 2).trans rfl
      have x3 := (blk_cell hh6 3).trans rfl
      have x4 := (blk_cell hh6 4).trans rfl
      clear hB68 hh6
      go_wp2
      have hfp := five_put (y0 := .int .i64 0) (y1 := .int .i64 0) (y2 := .bool false) (y3 := .int .i64 0) (y4 := .string ⟨#[]⟩) HQ8.out
      have hB9 := ((((B8.out.setCell (p := ⟨w.heap.size, 0, none⟩) (Nat.le_refl _) (.int .i64 0)).setCell (p := ⟨w.heap.size, 1, none⟩) (Nat.le_refl _) (.int .i64 0)).setCell (p := ⟨w.heap.size, 2, none⟩) (Nat.le_refl _) (.bool false)).setCell (p := ⟨w.heap.size, 3, none⟩) (Nat.le_refl _) (.int .i64 0)).setCell (p := ⟨w.heap.size, 4, none⟩) (Nat.le_refl _) (.string ⟨#[]⟩)
      generalize (((((w8.setCell ⟨w.heap.size, 0, none⟩ (.int .i64 0)).setCell ⟨w.heap.size, 1, none⟩ (.int .i64 0)).setCell ⟨w.heap.size, 2, none⟩ (.bool false)).setCell ⟨w.heap.size, 3, none⟩ (.int .i64 0)).setCell ⟨w.heap.size, 4, none⟩ (.string ⟨#[]⟩)) = W9 at hfp hB9 ⊢
      have c0 : W9.cell? ⟨w.heap.size, 0, none⟩ = some (.int .i64 0) := (blk_cell hfp 0).trans rfl
      have c1 : W9.cell? ⟨w.heap.size, 1, none⟩ = some (.int .i64 0) := (blk_cell hfp 1).trans rfl
      have c2 : W9.cell? ⟨w.heap.size, 2, none⟩ = some (.bool false) := (blk_cell hfp 2).trans rfl
      have c3 : W9.cell? ⟨w.heap.size, 3, none⟩ = some (.int .i64 0) := (blk_cell hfp 3).trans rfl
      have c4 : W9.cell? ⟨w.heap.size, 4, none⟩ = some (.string ⟨#[]⟩) := (blk_cell hfp 4).trans rfl
      exact bodyPost_ret (v := .tuple #[.agg #[.int .i64 0, .int .i64 0, .bool false, .int .i64 0, .string ⟨#[]⟩], .bool false]) (by simp [results, Tryz.results34, go_sem, c0, c1, c2, c3, c4]) rfl (by show RdPost w b _ _; unfold RdPost; rw [HR.out]; exact ⟨rfl, hB9⟩)
    | true =>
      cases q with
      | false =>
        go_quiet (first | fail)
        have hB68 := pw_below_drewN (Below.refl W6.heap.size W6) nq
        generalize W6.drewN nq = w8 at hB68 ⊢
        have HQ8 := Aside0.mk ((hB68.block _ L6.out.1).trans HQ0.out)
        have hh6 := (hB68.block _ L6.out.2).trans HN6.out
        have B8 := Aside0.mk (B6.out.trans (hB68.mono B6.out.size))
        have z0 := (blk_cell HQ8.out 0).trans rfl
        have z1 := (blk_cell HQ8.out 1).trans rfl
        have z2 := (blk_cell HQ8.out 2).trans rfl
        have z3 := (blk_cell HQ8.out 3).trans rfl
        have z4 := (blk_cell HQ8.out 4).trans rfl
        have f0 := blk_frozen HQ8.out 0
        have f1 := blk_frozen HQ8.out 1
        have f2 := blk_frozen HQ8.out 2
        have f3 := blk_frozen HQ8.out 3
        have f4 := blk_frozen HQ8.out 4
        have x0 := (blk_cell hh6 0).trans rfl
        have x1 := (blk_cell hh6 1).trans rfl
        have x2 := (blk_cell hh6 2).trans rfl
        have x3 := (blk_cell hh6 3).trans rfl
        have x4 := (blk_cell hh6 4).trans rfl
        clear hB68 hh6
        go_wp2
        have hfp := five_put (y0 := .int .i64 0) (y1 := .int .i64 0) (y2 := .bool false) (y3 := .int .i64 0) (y4 := .string ⟨#[]⟩) HQ8.out
        have hB9 := ((((B8.out.setCell (p := ⟨w.heap.size, 0, none⟩) (Nat.le_refl _) (.int .i64 0)).setCell (p := ⟨w.heap.size, 1, none⟩) (Nat.le_refl _) (.int .i64 0)).setCell (p := ⟨w.heap.size, 2, none⟩) (Nat.le_refl _) (.bool false)).setCell (p := ⟨w.heap.size, 3, none⟩) (Nat.le_refl _) (.int .i64 0)).setCell (p := ⟨w.heap.size, 4, none⟩) (Nat.le_refl _) (.string ⟨#[]⟩)
        generalize (((((w8.setCell ⟨w.heap.size, 0, none⟩ (.int .i64 0)).setCell ⟨w.heap.size, 1, none⟩ (.int .i64 0)).setCell ⟨w.heap.size, 2, none⟩ (.bool false)).setCell ⟨w.heap.size, 3, none⟩ (.int .i64 0)).setCell ⟨w.heap.size, 4, none⟩ (.string ⟨#[]⟩)) = W9 at hfp hB9 ⊢
        have c0 : W9.cell? ⟨w.heap.size, 0, none⟩ = some (.int .i64 0) := (blk_cell hfp 0).trans rfl
        have c1 : W9.cell? ⟨w.heap.size, 1, none⟩ = some (.int .i64 0) := (blk_cell hfp 1).trans rfl
        have c2 : W9.cell? ⟨w.heap.size, 2, none⟩ = some (.bool false) := (blk_cell hfp 2).trans rfl
        have c3 : W9.cell? ⟨w.heap.size, 3, none⟩ = some (.int .i64 0) := (blk_cell hfp 3).trans rfl
        have c4 : W9.cell? ⟨w.heap.size, 4, none⟩ = some (.string ⟨#[]⟩) := (blk_cell hfp 4).trans rfl
        exact bodyPost_ret (v := .tuple #[.agg #[.int .i64 0, .int .i64 0, .bool false, .int .i64 0, .string ⟨#[]⟩], .bool false]) (by simp [results, Tryz.results34, go_sem, c0, c1, c2, c3, c4]) rfl (by show RdPost w b _ _; unfold RdPost; rw [HR.out]; exact ⟨rfl, hB9⟩)
      | true =>
        cases r with
        | false =>
          go_quiet (first | fail)
          have hB68 := pw_below_drewN (Below.refl W6.heap.size W6) nq
          generalize W6.drewN nq = w8 at hB68 ⊢
          have HQ8 := Aside0.mk ((hB68.block _ L6.out.1).trans HQ0.out)
          have hh6 := (hB68.block _ L6.out.2).trans HN6.out
          have B8 := Aside0.mk (B6.out.trans (hB68.mono B6.out.size))
          have z0 := (blk_cell HQ8.out 0).trans rfl
          have z1 := (blk_cell HQ8.out 1).trans rfl
          have z2 := (blk_cell HQ8.out 2).trans rfl
          have z3 := (blk_cell HQ8.out 3).trans rfl
          have z4 := (blk_cell HQ8.out 4).trans rfl
          have f0 := blk_frozen HQ8.out 0
          have f1 := blk_frozen HQ8.out 1
          have f2 := blk_frozen HQ8.out 2
          have f3 := blk_frozen HQ8.out 3
          have f4 := blk_frozen HQ8.out 4
          have x0 := (blk_cell hh6 0).trans rfl
          have x1 := (blk_cell hh6 1).trans rfl
          have x2 := (blk_cell hh6 2).trans rfl
          have x3 := (blk_cell hh6 3).trans rfl
          have x4 := (blk_cell hh6 4).trans rfl
          clear hB68 hh6
          go_wp2
          have hfp := five_put (y0 := .int .i64 0) (y1 := .int .i64 0) (y2 := .bool false) (y3 := .int .i64 0) (y4 := .string ⟨#[]⟩) HQ8.out
          have hB9 := ((((B8.out.setCell (p := ⟨w.heap.size, 0, none⟩) (Nat.le_refl _) (.int .i64 0)).setCell (p := ⟨w.heap.size, 1, none⟩) (Nat.le_refl _) (.int .i64 0)).setCell (p := ⟨w.heap.size, 2, none⟩) (Nat.le_refl _) (.bool false)).setCell (p := ⟨w.heap.size, 3, none⟩) (Nat.le_refl _) (.int .i64 0)).setCell (p := ⟨w.heap.size, 4, none⟩) (Nat.le_refl _) (.string ⟨#[]⟩)
          generalize (((((w8.setCell ⟨w.heap.size, 0, none⟩ (.int .i64 0)).setCell ⟨w.heap.size, 1, none⟩ (.int .i64 0)).setCell ⟨w.heap.size, 2, none⟩ (.bool false)).setCell ⟨w.heap.size, 3, none⟩ (.int .i64 0)).setCell ⟨w.heap.size, 4, none⟩ (.string ⟨#[]⟩)) = W9 at hfp hB9 ⊢
          have c0 : W9.cell? ⟨w.heap.size, 0, none⟩ = some (.int .i64 0) := (blk_cell hfp 0).trans rfl
          have c1 : W9.cell? ⟨w.heap.size, 1, none⟩ = some (.int .i64 0) := (blk_cell hfp 1).trans rfl
          have c2 : W9.cell? ⟨w.heap.size, 2, none⟩ = some (.bool false) := (blk_cell hfp 2).trans rfl
          have c3 : W9.cell? ⟨w.heap.size, 3, none⟩ = some (.int .i64 0) := (blk_cell hfp 3).trans rfl
          have c4 : W9.cell? ⟨w.heap.size, 4, none⟩ = some (.string ⟨#[]⟩) := (blk_cell hfp 4).trans rfl
          exact bodyPost_ret (v := .tuple #[.agg #[.int .i64 0, .int .i64 0, .bool false, .int .i64 0, .string ⟨#[]⟩], .bool false]) (by simp [results, Tryz.results34, go_sem, c0, c1, c2, c3, c4]) rfl (by show RdPost w b _ _; unfold RdPost; rw [HR.out]; exact ⟨rfl, hB9⟩)
        | true =>
          cases t with
          | false =>
            go_quiet (first | fail)
            have hB68 := pw_below_drewN (Below.refl W6.heap.size W6) nq
            generalize W6.drewN nq = w8 at hB68 ⊢
            have HQ8 := Aside0.mk ((hB68.block _ L6.out.1).trans HQ0.out)
            have hh6 := (hB68.block _ L6.out.2).trans HN6.out
            have B8 := Aside0.mk (B6.out.trans (hB68.mono B6.out.size))
            have z0 := (blk_cell HQ8.out 0).trans rfl
            have z1 := (blk_cell HQ8.out 1).trans rfl
            have z2 := (blk_cell HQ8.out 2).trans rfl
            have z3 := (blk_cell HQ8.out 3).trans rfl
            have z4 := (blk_cell HQ8.out 4).trans rfl
            have f0 := blk_frozen HQ8.out 0
            have f1 := blk_frozen HQ8.out 1
            have f2 := blk_frozen HQ8.out 2
            have f3 := blk_frozen HQ8.out 3
            have f4 := blk_frozen HQ8.out 4
            have x0 := (blk_cell hh6 0).trans rfl
            have x1 := (blk_cell hh6 1).trans rfl
            have x2 := (blk_cell hh6 2).trans rfl
            have x3 := (blk_cell hh6 3).trans rfl
            have x4 := (blk_cell hh6 4).trans rfl
            clear hB68 hh6
            go_wp2
            have hfp := five_put (y0 := .int .i64 0) (y1 := .int .i64 0) (y2 := .bool false) (y3 := .int .i64 0) (y4 := .string ⟨#[]⟩) HQ8.out
            have hB9 := ((((B8.out.setCell (p := ⟨w.heap.size, 0, none⟩) (Nat.le_refl _) (.int .i64 0)).setCell (p := ⟨w.heap.size, 1, none⟩) (Nat.le_refl _) (.int .i64 0)).setCell (p := ⟨w.heap.size, 2, none⟩) (Nat.le_refl _) (.bool false)).setCell (p := ⟨w.heap.size, 3, none⟩) (Nat.le_refl _) (.int .i64 0)).setCell (p := ⟨w.heap.size, 4, none⟩) (Nat.le_refl _) (.string ⟨#[]⟩)
            generalize (((((w8.setCell ⟨w.heap.size, 0, none⟩ (.int .i64 0)).setCell ⟨w.heap.size, 1, none⟩ (.int .i64 0)).setCell ⟨w.heap.size, 2, none⟩ (.bool false)).setCell ⟨w.heap.size, 3, none⟩ (.int .i64 0)).setCell ⟨w.heap.size, 4, none⟩ (.string ⟨#[]⟩)) = W9 at hfp hB9 ⊢
            have c0 : W9.cell? ⟨w.heap.size, 0, none⟩ = some (.int .i64 0) := (blk_cell hfp 0).trans rfl
            have c1 : W9.cell? ⟨w.heap.size, 1, none⟩ = some (.int .i64 0) := (blk_cell hfp 1).trans rfl
            have c2 : W9.cell? ⟨w.heap.size, 2, none⟩ = some (.bool false) := (blk_cell hfp 2).trans rfl
            have c3 : W9.cell? ⟨w.heap.size, 3, none⟩ = some (.int .i64 0) := (blk_cell hfp 3).trans rfl
            have c4 : W9.cell? ⟨w.heap.size, 4, none⟩ = some (.string ⟨#[]⟩) := (blk_cell hfp 4).trans rfl
            exact bodyPost_ret (v := .tuple #[.agg #[.int .i64 0, .int .i64 0, .bool false, .int .i64 0, .string ⟨#[]⟩], .bool false]) (by simp [results, Tryz.results34, go_sem, c0, c1, c2, c3, c4]) rfl (by show RdPost w b _ _; unfold RdPost; rw [HR.out]; exact ⟨rfl, hB9⟩)
          | true => exact absurd ⟨rfl, rfl, rfl, rfl⟩ hok
attribute [local go_sem] Oper.semAt_some
/-! The law's own look at a mark that is not done. -/
def lit8 : List Int := [51, 59, 48, 59, 48, 59, 48, 59]
theorem lit8_isM : isM 0 3 false 0 ⟨#[]⟩ = true := by decide +kernel
theorem lit8_bytes : bytesM 0 3 false 0 ⟨#[]⟩ = lit8 := by
  unfold bytesM
  rw [if_pos lit8_isM]
  show NT.num ((3 : Nat) : Int) ++ (NT.num ((0 : Nat) : Int) ++ (NT.num ((0 : Nat) : Int) ++ NT.text [])) = _
  rw [num_small (by decide), num_small (by decide)]
  unfold NT.text
  show _ ++ (_ ++ (_ ++ (NT.num ((0 : Nat) : Int) ++ []))) = _
  rw [num_small (by decide)]
  rfl
theorem lit8_rd : rdM lit8 = (3, false, 0, ⟨#[]⟩, true) := by
  have h := rdM_bytes 0 3 false 0 ⟨#[]⟩ ⟨by decide, by decide⟩ (by decide)
  rw [lit8_bytes, if_pos lit8_isM] at h
  exact h
theorem lit8_str : strOfNums lit8 = ⟨#[51, 59, 48, 59, 48, 59, 48, 59]⟩ := rfl
theorem lit8_nb : NBytes lit8 := by intro x hx; simp [lit8] at hx; omega
set_option maxHeartbeats 4000000 in
set_option maxRecDepth 100000 in
theorem known6_any (w : World) (hT : NTabs w) : Calls Tryz.prog 16 #[] w fun e w' => e = .returned (.bool true) ∧ Below w.heap.size w w' := by
  have kc := kcv
  have hb1 := below_alloc (Below.refl w.heap.size w) (.cells #[.int .u8 51, .int .u8 59, .int .u8 48, .int .u8 59, .int .u8 48, .int .u8 59, .int .u8 48, .int .u8 59] 5 (8, 9))
  have HC1 : Aside0 ((Kd.int .u8).C (w.alloc (.cells #[.int .u8 51, .int .u8 59, .int .u8 48, .int .u8 59, .int .u8 48, .int .u8 59, .int .u8 48, .int .u8 59] 5 (8, 9))) (some ⟨w.heap.size, 0, none⟩) lit8.length lit8) := ⟨Kd.C_int_cells (T := 5) (fr := (8, 9)) (heap_alloc_new w _) rfl (by decide)⟩
  have RD : Aside0 (Calls Tryz.prog 32 #[.slice (some ⟨w.heap.size, 0, none⟩) 8 8] (w.alloc (.cells #[.int .u8 51, .int .u8 59, .int .u8 48, .int .u8 59, .int .u8 48, .int .u8 59, .int .u8 48, .int .u8 59] 5 (8, 9))) fun e w' => e = .returned (.tuple #[.agg #[.int .i64 0, .int .i64 3, .bool false, .int .i64 0, .string ⟨#[]⟩], .bool true]) ∧ Below w.heap.size w w') := ⟨(mread_c (c := 8) HC1.out (by decide) lit8_nb (by decide) (hT.on hb1)).mono fun e w' h => by
    unfold RdPost at h
    rw [lit8_rd] at h
    exact ⟨h.1, hb1.trans (h.2.mono hb1.size)⟩⟩
  have HT := Aside0.mk hT
  clear hT hb1 HC1
  go_enter Tryz.func16, Tryz.ntmps16
  go_upto_region 2 with (go_at_call 32; refine RD.out.mono ?_; rintro e w2 ⟨rfl, hB⟩; have B2 := Aside0.mk hB; clear hB)
  have hb3 := below_alloc (Below.refl w2.heap.size w2) (.cells #[.int .i64 0, .int .i64 3, .bool false, .int .i64 0, .string ⟨#[]⟩] 35)
  have hn3 := blk_new w2 (.cells #[.int .i64 0, .int .i64 3, .bool false, .int .i64 0, .string ⟨#[]⟩] 35)
  obtain ⟨W3, hW3⟩ : ∃ W3, W3 = w2.alloc (.cells #[.int .i64 0, .int .i64 3, .bool false, .int .i64 0, .string ⟨#[]⟩] 35) := ⟨_, rfl⟩
  rw [← hW3] at hb3 hn3 ⊢
  obtain ⟨q3, hq3⟩ : ∃ q3, w2.heap.size = q3 := ⟨_, rfl⟩
  rw [hq3] at hn3 ⊢
  have HN3 := Aside0.mk hn3
  have B3 : Aside0 (Below w.heap.size w W3) := ⟨B2.out.trans (hb3.mono B2.out.size)⟩
  clear hb3 hn3 hW3 hq3
  go_wp2_with (go_at_call 22; refine (mbytes_c 0 3 false 0 ⟨#[]⟩ ⟨by decide, by decide⟩ (by decide) W3 (HT.out.on B3.out)).mono ?_; rw [lit8_bytes]; rintro e w4 ⟨v4, rfl, hR, hB⟩; have B4 := Aside0.mk (B3.out.trans (hB.mono B3.out.size)); (obtain ⟨A4, c4, rfl, hl4, hC4, -, -⟩ := R_plain hR); (have hcv := conv_str (c := c4) hC4); rw [lit8_str] at hcv; (have hh := (hB.block _ (Array.getElem?_eq_some_iff.1 HN3.out).1).trans HN3.out); have x0 := (blk_cell hh 0).trans rfl; have x1 := (blk_cell hh 1).trans rfl; have x2 := (blk_cell hh 2).trans rfl; have x3 := (blk_cell hh 3).trans rfl; have x4 := (blk_cell hh 4).trans rfl; clear hR hB hl4 hC4 hh)
  go_ret
  exact ⟨rfl, B4.out⟩
end Go.Proofs.YtkicekddkgehoaaGreatDoor.Hnd
