/- Contracts of the calls, by hand. -/
import Derived.Test.YtkicekddkgehoaaDoorQMarkBytesx2
import Derived.Test.YtkicekddkgehoaaDoorMk3
import Derived.RangeFuncNested
import Derived.RangeFuncBound
import Derived.RangeFuncCalls
import Derived.RangeFuncLeaves
import Derived.RangeFuncBox
import Derived.Shelf.Abstract
import Derived.Shelf.RegionOpen
import Derived.OwnWalkIn
import Derived.TacticsInMore
import Derived.LoopNIn
import Derived.LoopIn
import Derived.Sort.QuietIn
import Derived.Sort.CutIn
import Derived.Stop.RegionWithIn
import Derived.StillTailTactics
import Derived.Shelf.Strconv.AppendIntPublic10
import Derived.Shelf.Strconv.ErrVarParseInt
import Derived.Shelf.Bytes.IndexByte
import Derived.Lib.ItoaLen
import Derived.Lib.ParseIntBTie
import Derived.Lib.AtoiBound
import Derived.Deep.Upon
namespace Go.Proofs.YtkicekddkgehoaaDoor.Hnd
open Go.RowKit Go.Proofs.YtkicekddkgehoaaDoor.QMarkBytes Go.Proofs.YtkicekddkgehoaaDoorW.PrintWords Go.Proofs.YtkicekddkgehoaaDoorW.PrintLast  Go.Shelf
set_option linter.unusedVariables false
set_option linter.unusedSimpArgs false
attribute [local go_sem] Oper.semAt_some
/-! A mark's bytes. -/
theorem C_four {W : World} {g : Nat} {A1 A2 A3 A4 : Option Addr} {c1 c2 c3 c4 : Nat} {l1 l2 l3 l4 : List Int} {T : TypeId} {fr : Nat × Nat} (h : W.heap[g]? = some (.cells #[.slice A1 l1.length c1, .slice A2 l2.length c2, .slice A3 l3.length c3, .slice A4 l4.length c4] T fr))
    (h1 : l1.length ≤ c1 ∧ (Kd.int .u8).C W A1 l1.length l1) (h2 : l2.length ≤ c2 ∧ (Kd.int .u8).C W A2 l2.length l2) (h3 : l3.length ≤ c3 ∧ (Kd.int .u8).C W A3 l3.length l3) (h4 : l4.length ≤ c4 ∧ (Kd.int .u8).C W A4 l4.length l4) :
    Kd.C (Kd.slice 5 (Kd.int .u8)) W (some ⟨g, 0, none⟩) [l1, l2, l3, l4].length [l1, l2, l3, l4] :=
  Kd.C_cells1 (xs := [l1, l2, l3, l4]) h rfl (by simp) (fun j p hj => by
    rcases j with _ | _ | _ | _ | j
    · obtain rfl : l1 = p := by simpa using hj
      exact ⟨_, rfl, A1, c1, rfl, h1.1, h1.2⟩
    · obtain rfl : l2 = p := by simpa using hj
      exact ⟨_, rfl, A2, c2, rfl, h2.1, h2.2⟩
    · obtain rfl : l3 = p := by simpa using hj
      exact ⟨_, rfl, A3, c3, rfl, h3.1, h3.2⟩
    · obtain rfl : l4 = p := by simpa using hj
      exact ⟨_, rfl, A4, c4, rfl, h4.1, h4.2⟩
    · simp at hj)
theorem concat4_c {W : World} {A1 A2 A3 A4 : Option Addr} {c1 c2 c3 c4 : Nat} {l1 l2 l3 l4 : List Int} (h1 : l1.length ≤ c1 ∧ (Kd.int .u8).C W A1 l1.length l1) (h2 : l2.length ≤ c2 ∧ (Kd.int .u8).C W A2 l2.length l2) (h3 : l3.length ≤ c3 ∧ (Kd.int .u8).C W A3 l3.length l3) (h4 : l4.length ≤ c4 ∧ (Kd.int .u8).C W A4 l4.length l4) (hl : flen [l1, l2, l3, l4] ≤ 1099511627776) :
    Calls Tryd.prog 22 #[.slice (some ⟨W.heap.size, 0, none⟩) 4 4] (W.alloc (.cells #[.slice A1 l1.length c1, .slice A2 l2.length c2, .slice A3 l3.length c3, .slice A4 l4.length c4] 26)) fun e w' => ∃ v, e = .returned v ∧ (Kd.int .u8).R 5 w' W.heap.size (fun _ => True) v [l1, l2, l3, l4].flatten ∧ Below W.heap.size W w' := by
  have hb := below_alloc (Below.refl W.heap.size W) (.cells #[.slice A1 l1.length c1, .slice A2 l2.length c2, .slice A3 l3.length c3, .slice A4 l4.length c4] 26)
  have hC := C_four (blk_new W (.cells #[.slice A1 l1.length c1, .slice A2 l2.length c2, .slice A3 l3.length c3, .slice A4 l4.length c4] 26)) ⟨h1.1, Kd.C_below h1.2 hb⟩ ⟨h2.1, Kd.C_below h2.2 hb⟩ ⟨h3.1, Kd.C_below h3.2 hb⟩ ⟨h4.1, Kd.C_below h4.2 hb⟩
  exact (concat_c (c := 4) hC (by show 4 ≤ 1000; decide) hl).mono fun e w' ⟨v, e1, hR, hB⟩ => ⟨v, e1, Kd.R_lower hR hb.size, hb.trans (hB.mono hb.size)⟩
def MCells (W : World) (q : Nat) (n : Int) (done : Bool) (st : Int) (out : ByteArray) : Prop := W.cell? ⟨q, 1, none⟩ = some (.int .i64 n) ∧ W.cell? ⟨q, 2, none⟩ = some (.bool done) ∧ W.cell? ⟨q, 3, none⟩ = some (.int .i64 st) ∧ W.cell? ⟨q, 4, none⟩ = some (.string out)
theorem MCells.on {W W' : World} {q : Nat} {n : Int} {done : Bool} {st : Int} {out : ByteArray} (h : MCells W q n done st out) (hb : Below W.heap.size W W') : MCells W' q n done st out := by
  have hlt : q < W.heap.size := World.block_lt_of_cell? W ⟨q, 1, none⟩ h.1
  have e : ∀ i, W'.cell? ⟨q, i, none⟩ = W.cell? ⟨q, i, none⟩ := fun i => hb.cell (p := ⟨q, i, none⟩) hlt
  exact ⟨(e 1).trans h.1, (e 2).trans h.2.1, (e 3).trans h.2.2.1, (e 4).trans h.2.2.2⟩
theorem mark_bit_f (d : Bool) : mark_bit.f d = some (bitM d) := by cases d <;> rfl
set_option maxHeartbeats 8000000 in
set_option maxRecDepth 100000 in
theorem mbytes_c (gen n : Int) (done : Bool) (st : Int) (out : ByteArray) (hst : NT.Rng st) (ho : out.size ≤ 1000000) (w : World) (hT : NTabs w) :
    Calls Tryd.prog 8 #[.agg #[.int .i64 gen, .int .i64 n, .bool done, .int .i64 st, .string out]] w fun e w' => ∃ v, e = .returned v ∧ (Kd.int .u8).R 5 w' w.heap.size (fun _ => True) v (bytesM gen n done st out) ∧ Below w.heap.size w w' := by
  have HT := Aside0.mk hT
  have HIS := Aside0.mk (mark_is_f gen n done st out)
  have hb0 := below_alloc (Below.refl w.heap.size w) (.cells #[.int .i64 gen, .int .i64 n, .bool done, .int .i64 st, .string out] 25)
  have HB0 := Aside0.mk hb0
  have hn0 := blk_new w (.cells #[.int .i64 gen, .int .i64 n, .bool done, .int .i64 st, .string out] 25)
  have HZ0 : Aside0 (MCells (w.alloc (.cells #[.int .i64 gen, .int .i64 n, .bool done, .int .i64 st, .string out] 25)) w.heap.size n done st out) := ⟨⟨(blk_cell hn0 1).trans rfl, (blk_cell hn0 2).trans rfl, (blk_cell hn0 3).trans rfl, (blk_cell hn0 4).trans rfl⟩⟩
  have HST := Aside0.mk hst
  have HO := Aside0.mk ho
  cases hm : isM gen n done st out with
  | false =>
    have e : bytesM gen n done st out = [] := by unfold bytesM; rw [if_neg (by rw [hm]; simp)]
    rw [e]
    rw [hm] at HIS
    clear hT hb0 hn0 hst ho hm e
    go_enter Tryd.func8, Tryd.ntmps8
    go_wp2_with (go_at_call 21; refine (mark_is.calls gen n done st out false _ HIS.out).mono ?_; rintro e w1 ⟨rfl, hB⟩; have B1 := Aside0.mk (HB0.out.trans (hB.mono HB0.out.size)); clear hB)
    go_ret
    exact ⟨_, rfl, Kd.R_nil _ _ _ _ _, B1.out⟩
  | true =>
    have hn := isM_n hm
    have hrn : NT.Rng n := ⟨by omega, by omega⟩
    have e : bytesM gen n done st out = [NT.num n, NT.num (bitM done), NT.num st, NT.text (strL out)].flatten := by
      unfold bytesM
      rw [if_pos hm]
      simp
    rw [e]
    rw [hm] at HIS
    have HRN := Aside0.mk hrn
    have HBR := Aside0.mk (bitM_rng done)
    have HBF := Aside0.mk (mark_bit_f done)
    have l1 := num_len_le hrn
    have l2 := num_len_le (bitM_rng done)
    have l3 := num_len_le hst
    have l4 := text_len_le (s := out) (by omega)
    have hfl : flen [NT.num n, NT.num (bitM done), NT.num st, NT.text (strL out)] ≤ 1099511627776 := by
      unfold flen
      simp only [List.flatten_cons, List.flatten_nil, List.append_nil, List.length_append]
      omega
    obtain ⟨x1, hx1⟩ : ∃ x, NT.num n = x := ⟨_, rfl⟩
    obtain ⟨bt, hbt⟩ : ∃ x, bitM done = x := ⟨_, rfl⟩
    rw [hbt] at HBR HBF hfl ⊢
    obtain ⟨x2, hx2⟩ : ∃ x, NT.num bt = x := ⟨_, rfl⟩
    obtain ⟨x3, hx3⟩ : ∃ x, NT.num st = x := ⟨_, rfl⟩
    obtain ⟨x4, hx4⟩ : ∃ x, NT.text (strL out) = x := ⟨_, rfl⟩
    rw [hx1, hx2, hx3, hx4] at hfl ⊢
    have HX1 := Aside0.mk hx1
    have HX2 := Aside0.mk hx2
    have HX3 := Aside0.mk hx3
    have HX4 := Aside0.mk hx4
    have HFL := Aside0.mk hfl
    clear hT hb0 hn0 hst ho hm e hn hrn l1 l2 l3 l4 hfl hx1 hbt hx2 hx3 hx4
    go_enter Tryd.func8, Tryd.ntmps8
    go_upto_region 3 with (go_at_call 21; refine (mark_is.calls gen n done st out true _ HIS.out).mono ?_; rintro e w1 ⟨rfl, hB⟩; have B1 := Aside0.mk (HB0.out.trans (hB.mono HB0.out.size)); have Z1 := Aside0.mk (HZ0.out.on hB); clear hB)
    have BD := Aside0.mk (B1.out.trans ((below_drew1 (Below.refl w1.heap.size w1)).mono B1.out.size))
    have ZD := Aside0.mk (Z1.out.on (below_drew1 (Below.refl w1.heap.size w1)))
    go_region_held (fun w' => w'.cell? ⟨w.heap.size, 1, none⟩ = some (.int .i64 n) ∧ w'.cell? ⟨w.heap.size, 2, none⟩ = some (.bool done) ∧ w'.cell? ⟨w.heap.size, 3, none⟩ = some (.int .i64 st) ∧ w'.cell? ⟨w.heap.size, 4, none⟩ = some (.string out))
      (first | exact Z8.out | exact Z6.out.on (below_alloc (Below.refl _ _) _) | exact Z6.out | exact Z5.out | exact Z4.out | exact Z3.out | exact Z2.out | exact ZD.out)
      (first
        | (go_at_call 22; refine (concat4_c ⟨L1.out, D6.out.1⟩ ⟨L2.out, D6.out.2.1⟩ ⟨L3.out, D6.out.2.2.1⟩ ⟨L4.out, D6.out.2.2.2⟩ HFL.out).mono ?_; rintro e w8 ⟨v8, rfl, hR, hB⟩; have R8 := Aside0.mk (Kd.R_lower hR B6.out.size); have Z8 := Aside0.mk (Z6.out.on hB); have B8 := Aside0.mk (B6.out.trans (hB.mono B6.out.size)); clear hR hB)
        | (go_at_call 25; refine (text_c out (by have := HO.out; omega) w5 (HT.out.on B5.out)).mono ?_; rw [HX4.out]; rintro e w6 ⟨v6, rfl, hR, hB⟩; (obtain ⟨A4, c4, rfl, hl4, hC4, -, -⟩ := R_plain hR); have L4 := Aside0.mk hl4; have D6 : Aside0 (_ ∧ _ ∧ _ ∧ _) := ⟨Kd.C_below D5.out.1 hB, Kd.C_below D5.out.2.1 hB, Kd.C_below D5.out.2.2 hB, hC4⟩; have Z6 := Aside0.mk (Z5.out.on hB); have B6 := Aside0.mk (B5.out.trans (hB.mono B5.out.size)); clear hR hB hl4 hC4)
        | (go_at_call 23; refine (num_c st HST.out w4 (HT.out.on B4.out)).mono ?_; rw [HX3.out]; rintro e w5 ⟨v5, rfl, hR, hB⟩; (obtain ⟨A3, c3, rfl, hl3, hC3, -, -⟩ := R_plain hR); have L3 := Aside0.mk hl3; have D5 : Aside0 (_ ∧ _ ∧ _) := ⟨Kd.C_below D4.out.1 hB, Kd.C_below D4.out.2 hB, hC3⟩; have Z5 := Aside0.mk (Z4.out.on hB); have B5 := Aside0.mk (B4.out.trans (hB.mono B4.out.size)); clear hR hB hl3 hC3)
        | (go_at_call 23; refine (num_c bt HBR.out w3 (HT.out.on B3.out)).mono ?_; rw [HX2.out]; rintro e w4 ⟨v4, rfl, hR, hB⟩; (obtain ⟨A2, c2, rfl, hl2, hC2, -, -⟩ := R_plain hR); have L2 := Aside0.mk hl2; have D4 : Aside0 (_ ∧ _) := ⟨Kd.C_below D3.out hB, hC2⟩; have Z4 := Aside0.mk (Z3.out.on hB); have B4 := Aside0.mk (B3.out.trans (hB.mono B3.out.size)); clear hR hB hl2 hC2)
        | (go_at_call 24; refine (mark_bit.calls done bt w2 HBF.out).mono ?_; rintro e w3 ⟨rfl, hD⟩; have hB := hD.below; have D3 := Aside0.mk (Kd.C_below D2.out hB); have Z3 := Aside0.mk (Z2.out.on hB); have B3 := Aside0.mk (B2.out.trans (hB.mono B2.out.size)); clear hD hB)
        | (go_at_call 23; refine (num_c n HRN.out _ (HT.out.on BD.out)).mono ?_; rw [HX1.out]; rintro e w2 ⟨v2, rfl, hR, hB⟩; (obtain ⟨A1, c1, rfl, hl1, hC1, -, -⟩ := R_plain hR); have L1 := Aside0.mk hl1; have D2 := Aside0.mk hC1; have Z2 := Aside0.mk (ZD.out.on hB); have B2 := Aside0.mk (BD.out.trans (hB.mono BD.out.size)); clear hR hB hl1 hC1))
    go_wp2
    go_ret
    exact ⟨_, rfl, R8.out, B8.out⟩
end Go.Proofs.YtkicekddkgehoaaDoor.Hnd
