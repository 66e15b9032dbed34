/- Contracts of the calls, by hand. -/
import Derived.Test.YtkicekddkgehoaaDoorQMarkBytesx2
import Derived.Test.YtkicekddkgehoaaDoorNet9
import Derived.RangeFuncNested
import Derived.RangeFuncBound
import Derived.RangeFuncCalls
import Derived.RangeFuncLeaves
import Derived.RangeFuncBox
import Derived.Shelf.Abstract
import Derived.Shelf.RegionOpen
import Derived.OwnWalkIn
import Derived.TacticsInMore
import Derived.LoopNIn
import Derived.LoopIn
import Derived.Sort.QuietIn
import Derived.Sort.CutIn
import Derived.Stop.RegionWithIn
import Derived.StillTailTactics
import Derived.Shelf.Strconv.AppendIntPublic10
import Derived.Shelf.Strconv.ErrVarParseInt
import Derived.Shelf.Bytes.IndexByte
import Derived.Lib.ItoaLen
import Derived.Lib.ParseIntBTie
import Derived.Lib.AtoiBound
namespace Go.Proofs.YtkicekddkgehoaaDoor.Hnd
open Go.RowKit Go.Proofs.YtkicekddkgehoaaDoor.QMarkBytes Go.Proofs.YtkicekddkgehoaaDoorW.PrintWords Go.Proofs.YtkicekddkgehoaaDoorW.PrintLast  Go.Shelf
set_option linter.unusedVariables false
set_option linter.unusedSimpArgs false
attribute [local go_sem] Oper.semAt_some
/-! append onto bytes that were converted. -/
theorem strCells_at (s : ByteArray) (j : Nat) (hj : j < s.size) : (Lib.strCells s)[j]? = some (.int .u8 ((strL s).getD j 0)) := by
  have hl : j < s.data.toList.length := by rw [Array.length_toList]; exact hj
  unfold Lib.strCells strL NT.ints
  rw [List.getElem?_map, List.getD_eq_getElem?_getD, List.getElem?_map, List.getElem?_eq_getElem hl]
  rfl
theorem C_join {W : World} {g n : Nat} {xs ys : List Int} (hn : xs.length = n) (hl : (xs ++ ys).length ≤ 9223372036854775807) (h1 : ∀ j, j < n → W.cell? ⟨g, j, none⟩ = some (.int .u8 (xs.getD j 0))) (h2 : ∀ j, j < ys.length → W.cell? ⟨g, n + j, none⟩ = some (.int .u8 (ys.getD j 0))) :
    (Kd.int .u8).C W (some ⟨g, 0, none⟩) (xs ++ ys).length (xs ++ ys) :=
  ⟨rfl, hl, fun _ => ⟨_, rfl, fun j p hj => by
    refine ⟨[.int .u8 p], rfl, rfl, fun i u hu => ?_⟩
    have hi : i = 0 := by have := (List.getElem?_eq_some_iff.1 hu).1; simpa using this
    subst hi
    obtain rfl : Value.int .u8 p = u := by simpa using hu
    rw [show (Kd.int .u8).sz = 1 from rfl, Nat.mul_one, Nat.add_zero, Kd.add_plain2, Nat.zero_add]
    by_cases hlt : j < xs.length
    · rw [List.getElem?_append_left hlt] at hj
      rw [h1 j (by omega), List.getD_eq_getElem?_getD, hj]
      rfl
    · rw [List.getElem?_append_right (by omega)] at hj
      have h3 := h2 (j - xs.length) (List.getElem?_eq_some_iff.1 hj).1
      rw [List.getD_eq_getElem?_getD, hj, show n + (j - xs.length) = j by omega] at h3
      exact h3⟩⟩

theorem append_conv (W1 : World) (t s : ByteArray) (ty : TypeId) (hl : t.size + s.size ≤ 140737488355328) :
    ∃ v w', (Builtin.append_ #[26, 9] ty #[.slice (some ⟨W1.heap.size, 0, none⟩) t.size (grownCap W1 t.size 0 5), .string s]).run Tryd.prog (Lib.bytesWorld W1 5 t) = .ok v w' ∧
      (∃ A c, v = .slice A (strL t ++ strL s).length c ∧ (strL t ++ strL s).length ≤ c ∧ (Kd.int .u8).C w' A (strL t ++ strL s).length (strL t ++ strL s)) ∧ Below W1.heap.size W1 w' := by
  obtain ⟨i0, hi, hz0, hz1, hz2⟩ := info_parts info5
  have hlen : (strL t ++ strL s).length = t.size + s.size := by rw [List.length_append, strL_len, strL_len]
  have hlenx : (strL t ++ strL s).length ≤ 9223372036854775807 := by omega
  obtain ⟨c, hc⟩ : ∃ c, grownCap W1 t.size 0 5 = c := ⟨_, rfl⟩
  have hge := grownCap_ge W1 t.size 0 5
  rw [hc] at hge ⊢
  have hbs : (Lib.bytesCells W1 5 t).size = c := by
    unfold Lib.bytesCells
    rw [Array.size_append, Array.size_map, Array.size_replicate, hc]
    show t.size + _ = _
    omega
  have hbl := Lib.bytesWorld_at_new W1 5 t
  rw [hbs] at hbl
  have hbw := Lib.bytesWorld_below W1 5 t
  have hxs : ∀ j, j < t.size → (Lib.bytesWorld W1 5 t).cell? ⟨W1.heap.size, j, none⟩ = some (.int .u8 ((strL t).getD j 0)) := fun j hj => by
    rw [Lib.bytesWorld_cell W1 5 t j hj]
    have h3 : j < t.data.toList.length := by rw [Array.length_toList]; exact hj
    unfold strL NT.ints
    rw [List.getD_eq_getElem?_getD, List.getD_eq_getElem?_getD, List.getElem?_map, List.getElem?_eq_getElem h3]
    rfl
  obtain ⟨W, hW⟩ : ∃ W, W = Lib.bytesWorld W1 5 t := ⟨_, rfl⟩
  rw [← hW] at hbl hbw hxs ⊢
  obtain ⟨cells, hcells⟩ : ∃ cells, Lib.bytesCells W1 5 t = cells := ⟨_, rfl⟩
  rw [hcells] at hbl hbs
  have hsome : ∀ j, j < c → (W.cell? ⟨W1.heap.size, j, none⟩).isSome = true := fun j hj => by
    rw [World.cell?, hbl]
    simp [hbs, hj]
  have hfro : ∀ j, j < c → W.frozen? ⟨W1.heap.size, j, none⟩ = false := fun j hj => by
    simp only [World.frozen?, hbl, Bool.and_eq_false_iff, decide_eq_false_iff_not]
    left
    omega
  have hf := Lib.run_firstCells_string (P := Tryd.prog) W 1 s
  have hsl := Lib.strCells_length s
  by_cases hroom : t.size + s.size ≤ c
  · have hst := run_storeCells_cells (P := Tryd.prog) W1.heap.size t.size (Lib.strCells s) 0 W (fun j hj => by rw [Nat.add_zero]; exact hsome _ (by omega)) (fun j hj => by rw [Nat.add_zero]; exact hfro _ (by omega)) (Lib.strCells_oneCell s)
    rw [Nat.add_zero] at hst
    refine ⟨_, W.setCells W1.heap.size t.size (Lib.strCells s), ?_, ⟨some ⟨W1.heap.size, 0, none⟩, c, rfl, by omega, ?_⟩, Kd.below_setCells hbw (Nat.le_refl _)⟩
    · rw [hlen]
      simp [Builtin.append_, run_underlying Tryd.underlying26, run_underlying Tryd.underlying9, sizeOf, typeInfo, hi, hz1, Builtin.lenOf, hroom, hf, Addr.add_lit, hst]
    · refine C_join (strL_len t) hlenx (fun j hj => ?_) (fun j hj => ?_)
      · rw [World.cell?_setCells_out W1.heap.size _ _ _ _ (fun _ _ => .inl hj)]
        exact hxs j hj
      · rw [strL_len] at hj
        rw [World.cell?_setCells_in W1.heap.size (Lib.strCells s) t.size W (fun i hi => hsome _ (by omega)) j (by omega)]
        have h4 := strCells_at s j hj
        rw [List.getElem?_eq_getElem (by omega)] at h4
        exact h4
  · have hr := Lib.run_append_grow_string (P := Tryd.prog) W 26 9 ty 5 i0 (.int .u8 0) Tryd.underlying26 Tryd.underlying9 hi hz0 ⟨W1.heap.size, 0, none⟩ t.size c (Lib.strCells t) (by rw [Lib.strCells_length, hz1, Nat.mul_one]) (fun j v hj => by
      have hjl : j < t.size := by
        have := (List.getElem?_eq_some_iff.1 hj).1
        rwa [Lib.strCells_length] at this
      rw [strCells_at t j hjl] at hj
      rw [Kd.add_plain2, Nat.zero_add, hxs j hjl, hj]) s (by omega) (by omega) (by rw [hz2]; exact growslice_fits (by omega) (by omega))
    have hgc := grownCap_ge W (t.size + s.size) c 5
    refine ⟨_, _, hr, ⟨some ⟨W.heap.size, 0, none⟩, _, by rw [hlen], by rw [hlen]; exact hgc, ?_⟩, hbw.trans ((below_alloc (below_drew1 (Below.refl W.heap.size W)) _).mono hbw.size)⟩
    have hnew := heap_alloc_new W.drew (.cells ((Lib.strCells t).toArray ++ (Lib.strCells s).toArray ++ Builtin.zeroCells (Value.int .u8 0).cells (grownCap W (t.size + s.size) c 5 - (t.size + s.size))) 5)
    refine C_join (strL_len t) hlenx (fun j hj => ?_) (fun j hj => ?_)
    · rw [show W.heap.size = W.drew.heap.size from rfl, blk_cell hnew j, Array.getElem?_append_left (by simp [Lib.strCells_length]; omega), Array.getElem?_append_left (by simp [Lib.strCells_length]; omega), List.getElem?_toArray]
      exact strCells_at t j hj
    · rw [strL_len] at hj
      rw [show W.heap.size = W.drew.heap.size from rfl, blk_cell hnew _, Array.getElem?_append_left (by simp [Lib.strCells_length]; omega), Array.getElem?_append_right (by simp [Lib.strCells_length]), List.size_toArray, Lib.strCells_length, List.getElem?_toArray, Nat.add_sub_cancel_left]
      exact strCells_at s j hj
section
variable {ops : Array Oper} {rest : List Oper} {o : Oper} {a : Act} {Q : Exit → Act → World → Prop}
theorem wpList_append_conv (hgd : o.guard = none) (sl x : Operand) (ho : o.op = .call { callee := .builtin .append, args := #[sl, x], argTypes := #[26, 9] }) (W1 : World) (t s : ByteArray)
    (hs : a.eval sl = .slice (some ⟨W1.heap.size, 0, none⟩) t.size (grownCap W1 t.size 0 5)) (hx : a.eval x = .string s) (hl : t.size + s.size ≤ 140737488355328)
    (h : ∀ A c w', (strL t ++ strL s).length ≤ c → (Kd.int .u8).C w' A (strL t ++ strL s).length (strL t ++ strL s) → Below W1.heap.size W1 w' → wpList Tryd.prog ops Q rest (a.put o.dst (.slice A (strL t ++ strL s).length c)) w') :
    wpList Tryd.prog ops Q (o :: rest) a (Lib.bytesWorld W1 5 t) := by
  refine wpList_plain hgd fun K hK => ?_
  obtain ⟨v, w', hr, ⟨A, c, rfl, h2, h3⟩, h4⟩ := append_conv W1 t s o.type hl
  unfold Oper.wp execOp
  simp only [ho, resolve, invoke, builtin, Sem.run_bind, Sem.run_pure, Result.andThen_ok, List.map_toArray, List.map_cons, List.map_nil, hs, hx, hr]
  exact hK _ _ (h A c w' h2 h3 h4)
end
def RefText (w : World) (s : ByteArray) (e : Ending) (w' : World) : Prop :=
  ∃ A c, e = .returned (.slice A (NT.text (strL s)).length c) ∧ (NT.text (strL s)).length ≤ c ∧ (Kd.int .u8).C w' A (NT.text (strL s)).length (NT.text (strL s)) ∧ Below w.heap.size w w'
set_option maxHeartbeats 2000000 in
theorem reftext_c (s : ByteArray) (hs : s.size ≤ 140737488351232) (w : World) : Calls Tryd.prog 31 #[.string s] w (RefText w s) := by
  have hr : NT.Rng (s.size : Int) := ⟨by omega, by omega⟩
  have HN := Aside0.mk hr
  have hnl := num_len_le hr
  have e : NT.text (strL s) = NT.num (s.size : Int) ++ strL s := by unfold NT.text; rw [strL_len]
  obtain ⟨t, ht⟩ : ∃ t, strOfNums (NT.num (s.size : Int)) = t := ⟨_, rfl⟩
  have htl : strL t = NT.num (s.size : Int) := by rw [← ht]; exact strL_strOf (NT.num_bytes _)
  have hts : t.size + s.size ≤ 140737488355328 := by rw [← ht, str_size]; omega
  have HT := Aside0.mk ht
  have HTS := Aside0.mk hts
  unfold RefText
  rw [e, ← htl]
  clear hr hs hnl e ht htl hts
  go_enter Tryd.func31, Tryd.ntmps31
  go_wp2_with (first
    | ((with_reducible refine gate_builtin (b := .append) (xs := #[.tmp 5, .tmp 6]) rfl ?_); at_builtin; refine wpList_append_conv rfl (.tmp 5) (.tmp 6) rfl W1 t s rfl rfl HTS.out ?_; intro A c w2 hlc hC hB; have L2 := Aside0.mk hlc; have C2 := Aside0.mk hC; have B2 := Aside0.mk (B1.out.trans (hB.mono B1.out.size)); clear hlc hC hB)
    | (go_at_call 30; refine (refnum_c _ HN.out w).mono ?_; unfold RefNum; rw [HT.out]; rintro e w1 ⟨W1, hB, rfl, rfl⟩; have B1 := Aside0.mk hB; clear hB))
  go_ret
  exact ⟨A, c, by rw [List.length_append]; rfl, L2.out, C2.out, B2.out⟩
/-! A text that is cut short. -/
theorem stop_free : ∀ (l : List Int), (∀ x ∈ l, x ≠ 59) → NT.stop l = l.length
  | [], _ => rfl
  | c :: l, h => by
    rw [NT.stop, if_neg (h c List.mem_cons_self), stop_free l (fun x hx => h x (List.mem_cons_of_mem _ hx))]
    rfl
theorem cut_none {b : List Int} (hb : b.length ≤ 1000000) (k : Nat) (hk : k < (NT.text b).length) : tT ((NT.text b).take k) = ([], 0, false) := by
  have hnl : (NT.num (b.length : Int)).length = (NT.ints (Lib.itoa (b.length : Int))).length + 1 := NT.num_len _
  by_cases h : k < (NT.num (b.length : Int)).length
  · refine tT_none (tk_of_none (NT.take_none ?_))
    have e : (NT.text b).take k = (NT.ints (Lib.itoa (b.length : Int))).take k := by
      unfold NT.text NT.num
      rw [List.append_assoc, List.take_append_of_le_length (by omega)]
    rw [e, stop_free _ (fun x hx => by rcases NT.itoa_chars _ x (List.mem_of_mem_take hx) with h | h <;> omega)]
    exact Nat.lt_irrefl _
  · have e : (NT.text b).take k = NT.num (b.length : Int) ++ b.take (k - (NT.num (b.length : Int)).length) := by
      unfold NT.text
      rw [List.take_append, List.take_of_length_le (by omega)]
    have hlt : k - (NT.num (b.length : Int)).length < b.length := by
      unfold NT.text at hk
      rw [List.length_append] at hk
      omega
    rw [e]
    have h2 := tT_some (NT.take_num (n := (b.length : Int)) ⟨by omega, by omega⟩ (b.take (k - (NT.num (b.length : Int)).length)))
    rw [h2, if_neg]
    intro hc
    have h3 := hc.2
    rw [List.length_append, List.length_take] at h3
    omega
end Go.Proofs.YtkicekddkgehoaaDoor.Hnd
