/- Contracts of the calls, by hand. -/
import Derived.Test.YtkicekddkgehoaaDoorQMarkBytesx2
import Derived.Test.YtkicekddkgehoaaDoorMk5
import Derived.RangeFuncNested
import Derived.RangeFuncBound
import Derived.RangeFuncCalls
import Derived.RangeFuncLeaves
import Derived.RangeFuncBox
import Derived.Shelf.Abstract
import Derived.Shelf.RegionOpen
import Derived.OwnWalkIn
import Derived.TacticsInMore
import Derived.LoopNIn
import Derived.LoopIn
import Derived.Sort.QuietIn
import Derived.Sort.CutIn
import Derived.Stop.RegionWithIn
import Derived.StillTailTactics
import Derived.Shelf.Strconv.AppendIntPublic10
import Derived.Shelf.Strconv.ErrVarParseInt
import Derived.Shelf.Bytes.IndexByte
import Derived.Lib.ItoaLen
import Derived.Lib.ParseIntBTie
import Derived.Lib.AtoiBound
import Derived.Deep.Upon
namespace Go.Proofs.YtkicekddkgehoaaDoor.Hnd
open Go.RowKit Go.Proofs.YtkicekddkgehoaaDoor.QMarkBytes Go.Proofs.YtkicekddkgehoaaDoorW.PrintWords Go.Proofs.YtkicekddkgehoaaDoorW.PrintLast  Go.Shelf
set_option linter.unusedVariables false
set_option linter.unusedSimpArgs false
attribute [local go_sem] Oper.semAt_some
/-! The document's bytes of a mark. -/
theorem refnum_mn {w w' : World} {n : Int} {e : Ending} (h : RefNum w n e w') : ∃ v W1, e = .returned v ∧ Below w.heap.size w W1 ∧ Mn w' W1.heap.size v (NT.num n) ∧ Below w.heap.size w w' := by
  obtain ⟨W1, hB, rfl, rfl⟩ := h
  have hm := mn_conv W1 (strOfNums (NT.num n))
  rw [strL_strOf (NT.num_bytes n)] at hm
  exact ⟨_, W1, rfl, hB, hm, hB.trans ((Lib.bytesWorld_below W1 _ _).mono hB.size)⟩
theorem MCells.on1 {W W' : World} {base q : Nat} {n : Int} {done : Bool} {st : Int} {out : ByteArray} (h : MCells W q n done st out) (hb : Below base W W') (hq : q < base) : MCells W' q n done st out := by
  have e : ∀ i, W'.cell? ⟨q, i, none⟩ = W.cell? ⟨q, i, none⟩ := fun i => cell_of_heap (p := ⟨q, i, none⟩) (hb.block q hq)
  exact ⟨(e 1).trans h.1, (e 2).trans h.2.1, (e 3).trans h.2.2.1, (e 4).trans h.2.2.2⟩
def RefBytes (w : World) (b : List Int) (e : Ending) (w' : World) : Prop := ∃ A c, e = .returned (.slice A b.length c) ∧ b.length ≤ c ∧ (Kd.int .u8).C w' A b.length b ∧ Below w.heap.size w w'
set_option maxHeartbeats 8000000 in
set_option maxRecDepth 100000 in
theorem refbytes_c (gen n : Int) (done : Bool) (st : Int) (out : ByteArray) (hst : NT.Rng st) (ho : out.size ≤ 1000000) (w : World) :
    Calls Tryd.prog 10 #[.agg #[.int .i64 gen, .int .i64 n, .bool done, .int .i64 st, .string out]] w (RefBytes w (bytesM gen n done st out)) := by
  have HIS := Aside0.mk (ref_is_f gen n done st out)
  have hb0 := below_alloc (Below.refl w.heap.size w) (.cells #[.int .i64 gen, .int .i64 n, .bool done, .int .i64 st, .string out] 25)
  have HB0 := Aside0.mk hb0
  have hn0 := blk_new w (.cells #[.int .i64 gen, .int .i64 n, .bool done, .int .i64 st, .string out] 25)
  have HZ0 : Aside0 (MCells (w.alloc (.cells #[.int .i64 gen, .int .i64 n, .bool done, .int .i64 st, .string out] 25)) w.heap.size n done st out) := ⟨⟨(blk_cell hn0 1).trans rfl, (blk_cell hn0 2).trans rfl, (blk_cell hn0 3).trans rfl, (blk_cell hn0 4).trans rfl⟩⟩
  have HST := Aside0.mk hst
  have HO := Aside0.mk ho
  unfold RefBytes
  cases hm : isM gen n done st out with
  | false =>
    have e : bytesM gen n done st out = [] := by unfold bytesM; rw [if_neg (by rw [hm]; simp)]
    rw [e]
    rw [hm] at HIS
    clear hb0 hn0 hst ho hm e
    go_enter Tryd.func10, Tryd.ntmps10
    go_wp2_with (go_at_call 11; refine (lazarusref6_Is.calls gen n done st out false _ HIS.out).mono ?_; rintro e w1 ⟨rfl, hB⟩; have B1 := Aside0.mk (HB0.out.trans (hB.mono HB0.out.size)); clear hB)
    go_ret
    exact ⟨none, 0, rfl, Nat.le_refl _, Kd.C_nil _ _, B1.out⟩
  | true =>
    have hn := isM_n hm
    have hrn : NT.Rng n := ⟨by omega, by omega⟩
    have e : bytesM gen n done st out = ((NT.num n ++ NT.num (bitM done)) ++ NT.num st) ++ NT.text (strL out) := by
      unfold bytesM
      rw [if_pos hm, List.append_assoc, List.append_assoc]
    rw [e]
    rw [hm] at HIS
    have HRN := Aside0.mk hrn
    have HBR := Aside0.mk (bitM_rng done)
    have l1 := num_len_le hrn
    have l2 := num_len_le (bitM_rng done)
    have l3 := num_len_le hst
    have l4 := text_len_le (s := out) (by omega)
    obtain ⟨x1, hx1⟩ : ∃ x, NT.num n = x := ⟨_, rfl⟩
    have hbt : (done = true ∧ bitM done = 1) ∨ (done = false ∧ bitM done = 0) := by cases done <;> simp [bitM]
    obtain ⟨x2, hx2⟩ : ∃ x, NT.num (bitM done) = x := ⟨_, rfl⟩
    obtain ⟨x3, hx3⟩ : ∃ x, NT.num st = x := ⟨_, rfl⟩
    obtain ⟨x4, hx4⟩ : ∃ x, NT.text (strL out) = x := ⟨_, rfl⟩
    rw [hx1] at l1
    rw [hx2] at l2
    rw [hx3] at l3
    rw [hx4] at l4
    rw [hx1, hx2, hx3, hx4]
    have HX1 := Aside0.mk hx1
    have HX2 := Aside0.mk hx2
    have HX3 := Aside0.mk hx3
    have HX4 := Aside0.mk hx4
    have LL : Aside0 (x1.length ≤ 22 ∧ x2.length ≤ 22 ∧ x3.length ≤ 22 ∧ x4.length ≤ 1000022) := ⟨l1, l2, l3, by omega⟩
    clear hb0 hn0 hst ho hm e hn hrn l1 l2 l3 l4 hx1 hx2 hx3 hx4
    rcases hbt with ⟨rfl, hb⟩ | ⟨rfl, hb⟩
    all_goals
      rw [hb] at HBR HX2
      clear hb
      go_enter Tryd.func10, Tryd.ntmps10
      go_upto_region 3 with (go_at_call 11; refine (lazarusref6_Is.calls gen n _ st out true _ HIS.out).mono ?_; rintro e w1 ⟨rfl, hB⟩; have B1 := Aside0.mk (HB0.out.trans (hB.mono HB0.out.size)); have Z1 := Aside0.mk (HZ0.out.on hB); obtain ⟨k1, k2, k3, k4⟩ := HZ0.out.on hB; clear hB)
      go_wp2_with (first
        | ((with_reducible refine gate_builtin (b := .append) (xs := #[.tmp 22, .tmp 26]) rfl ?_); at_builtin; refine wpList_append_mn rfl (.tmp 22) (.tmp 26) rfl M8.out B8.out.size C8.out rfl rfl (by have := LL.out; simp only [List.length_append]; omega) ?_; intro v9 w9 hM hB; have M9 := Aside0.mk hM; have B9 := Aside0.mk (B8.out.trans hB); clear hM hB)
        | (go_at_call 31; refine (reftext_c out (by have := HO.out; omega) w7).mono ?_; unfold RefText; rw [HX4.out]; rintro e w8 ⟨A8, c8, rfl, hlc, hC, hB⟩; have C8 := Aside0.mk hC; have M8 := Aside0.mk (M7.out.below hB); have B8 := Aside0.mk (B7.out.trans (hB.mono B7.out.size)); clear hlc hC hB)
        | ((with_reducible refine gate_builtin (b := .append) (xs := #[.tmp 16, .tmp 20]) rfl ?_); at_builtin; refine wpList_append_mn rfl (.tmp 16) (.tmp 20) rfl M6.out B6.out.size C6.out rfl rfl (by have := LL.out; simp only [List.length_append]; omega) ?_; intro v7 w7 hM hB; have M7 := Aside0.mk hM; have B7 := Aside0.mk (B6.out.trans hB); (obtain ⟨k1, k2, k3, k4⟩ := Z6.out.on1 hB ZL.out); clear hM hB)
        | (go_at_call 30; refine (refnum_c st HST.out w5).mono ?_; rintro e w6 hN; (obtain ⟨q6, c6, he, hq, hlc, hC, hB⟩ := refnum_row HST.out hN); rw [HX3.out] at he hlc hC; subst he; have C6 := Aside0.mk hC; have M6 := Aside0.mk (M5.out.below hB); have B6 := Aside0.mk (B5.out.trans (hB.mono B5.out.size)); have Z6 := Aside0.mk (Z5.out.on hB); clear hN hq hlc hC hB)
        | ((with_reducible refine gate_builtin (b := .append) (xs := #[.tmp 12, .tmp 14]) rfl ?_); at_builtin; refine wpList_append_mn rfl (.tmp 12) (.tmp 14) rfl M4.out B4.out.size C4.out rfl rfl (by have := LL.out; omega) ?_; intro v5 w5 hM hB; have M5 := Aside0.mk hM; have B5 := Aside0.mk (B4.out.trans hB); have Z5 := Aside0.mk (Z4.out.on1 hB ZL.out); (obtain ⟨k1, k2, k3, k4⟩ := Z4.out.on1 hB ZL.out); clear hM hB)
        | (go_at_call 30; refine (refnum_c _ HBR.out w3).mono ?_; rintro e w4 hN; (obtain ⟨q4, c4, he, hq, hlc, hC, hB⟩ := refnum_row HBR.out hN); rw [HX2.out] at he hlc hC; subst he; have C4 := Aside0.mk hC; have M4 := Aside0.mk (M3.out.below hB); have B4 := Aside0.mk (B3.out.trans (hB.mono B3.out.size)); have Z4 := Aside0.mk (Z3.out.on hB); clear hN hq hlc hC hB)
        | (go_at_call 30; refine (refnum_c n HRN.out w1).mono ?_; rintro e w3 hN; (obtain ⟨v3, W3, rfl, hBW, hM, hB⟩ := refnum_mn hN); rw [HX1.out] at hM; have M3 := Aside0.mk (hM.lower hBW.size); have B3 := Aside0.mk hB; have ZL := Aside0.mk (World.block_lt_of_cell? w1 ⟨w.heap.size, 1, none⟩ Z1.out.1); have Z3 := Aside0.mk (Z1.out.on hB); clear hN hBW hM hB))
      have hlx : (x1 ++ x2 ++ x3 ++ x4).length ≤ 9223372036854775807 := by have := LL.out; simp only [List.length_append]; omega
      obtain ⟨g, c, e9, h1, h2, h3⟩ := M9.out.reads hlx
      subst e9
      clear hlx
      go_ret
      exact ⟨some ⟨g, 0, none⟩, c, rfl, h2, h3, B1.out.trans (B9.out.mono B1.out.size)⟩
end Go.Proofs.YtkicekddkgehoaaDoor.Hnd
