/- Contracts of the calls, by hand. -/
import Derived.Test.YtkicekddkgehoaaDoorQMarkBytesx2
import Derived.Test.YtkicekddkgehoaaDoorMk7
import Derived.RangeFuncNested
import Derived.RangeFuncBound
import Derived.RangeFuncCalls
import Derived.RangeFuncLeaves
import Derived.RangeFuncBox
import Derived.Shelf.Abstract
import Derived.Shelf.RegionOpen
import Derived.OwnWalkIn
import Derived.TacticsInMore
import Derived.LoopNIn
import Derived.LoopIn
import Derived.Sort.QuietIn
import Derived.Sort.CutIn
import Derived.Stop.RegionWithIn
import Derived.StillTailTactics
import Derived.Shelf.Strconv.AppendIntPublic10
import Derived.Shelf.Strconv.ErrVarParseInt
import Derived.Shelf.Bytes.IndexByte
import Derived.Lib.ItoaLen
import Derived.Lib.ParseIntBTie
import Derived.Lib.AtoiBound
import Derived.Deep.Upon
namespace Go.Proofs.YtkicekddkgehoaaDoor.Hnd
open Go.RowKit Go.Proofs.YtkicekddkgehoaaDoor.QMarkBytes Go.Proofs.YtkicekddkgehoaaDoorW.PrintWords Go.Proofs.YtkicekddkgehoaaDoorW.PrintLast  Go.Shelf
set_option linter.unusedVariables false
set_option linter.unusedSimpArgs false
attribute [local go_sem] Oper.semAt_some
/-! The law's own look at a mark that is not done. -/
def lit8 : List Int := [51, 59, 48, 59, 48, 59, 48, 59]
theorem lit8_isM : isM 0 3 false 0 ⟨#[]⟩ = true := by decide +kernel
theorem lit8_bytes : bytesM 0 3 false 0 ⟨#[]⟩ = lit8 := by
  unfold bytesM
  rw [if_pos lit8_isM]
  show NT.num ((3 : Nat) : Int) ++ (NT.num ((0 : Nat) : Int) ++ (NT.num ((0 : Nat) : Int) ++ NT.text [])) = _
  rw [num_small (by decide), num_small (by decide)]
  unfold NT.text
  show _ ++ (_ ++ (_ ++ (NT.num ((0 : Nat) : Int) ++ []))) = _
  rw [num_small (by decide)]
  rfl
theorem lit8_rd : rdM lit8 = (3, false, 0, ⟨#[]⟩, true) := by
  have h := rdM_bytes 0 3 false 0 ⟨#[]⟩ ⟨by decide, by decide⟩ (by decide)
  rw [lit8_bytes, if_pos lit8_isM] at h
  exact h
theorem lit8_str : strOfNums lit8 = ⟨#[51, 59, 48, 59, 48, 59, 48, 59]⟩ := rfl
theorem lit8_nb : NBytes lit8 := by intro x hx; simp [lit8] at hx; omega
set_option maxHeartbeats 4000000 in
set_option maxRecDepth 100000 in
theorem known6_any (w : World) (hT : NTabs w) : Calls Tryd.prog 12 #[] w fun e w' => e = .returned (.bool true) ∧ Below w.heap.size w w' := by
  have kc := kcv
  have hb1 := below_alloc (Below.refl w.heap.size w) (.cells #[.int .u8 51, .int .u8 59, .int .u8 48, .int .u8 59, .int .u8 48, .int .u8 59, .int .u8 48, .int .u8 59] 5 (8, 9))
  have HC1 : Aside0 ((Kd.int .u8).C (w.alloc (.cells #[.int .u8 51, .int .u8 59, .int .u8 48, .int .u8 59, .int .u8 48, .int .u8 59, .int .u8 48, .int .u8 59] 5 (8, 9))) (some ⟨w.heap.size, 0, none⟩) lit8.length lit8) := ⟨Kd.C_int_cells (T := 5) (fr := (8, 9)) (heap_alloc_new w _) rfl (by decide)⟩
  have RD : Aside0 (Calls Tryd.prog 9 #[.slice (some ⟨w.heap.size, 0, none⟩) 8 8] (w.alloc (.cells #[.int .u8 51, .int .u8 59, .int .u8 48, .int .u8 59, .int .u8 48, .int .u8 59, .int .u8 48, .int .u8 59] 5 (8, 9))) fun e w' => e = .returned (.tuple #[.agg #[.int .i64 0, .int .i64 3, .bool false, .int .i64 0, .string ⟨#[]⟩], .bool true]) ∧ Below w.heap.size w w') := ⟨(mread_c (c := 8) HC1.out (by decide) lit8_nb (by decide) (hT.on hb1)).mono fun e w' h => by
    unfold RdPost at h
    rw [lit8_rd] at h
    exact ⟨h.1, hb1.trans (h.2.mono hb1.size)⟩⟩
  have HT := Aside0.mk hT
  clear hT hb1 HC1
  go_enter Tryd.func12, Tryd.ntmps12
  go_upto_region 2 with (go_at_call 9; refine RD.out.mono ?_; rintro e w2 ⟨rfl, hB⟩; have B2 := Aside0.mk hB; clear hB)
  have hb3 := below_alloc (Below.refl w2.heap.size w2) (.cells #[.int .i64 0, .int .i64 3, .bool false, .int .i64 0, .string ⟨#[]⟩] 25)
  have hn3 := blk_new w2 (.cells #[.int .i64 0, .int .i64 3, .bool false, .int .i64 0, .string ⟨#[]⟩] 25)
  obtain ⟨W3, hW3⟩ : ∃ W3, W3 = w2.alloc (.cells #[.int .i64 0, .int .i64 3, .bool false, .int .i64 0, .string ⟨#[]⟩] 25) := ⟨_, rfl⟩
  rw [← hW3] at hb3 hn3 ⊢
  obtain ⟨q3, hq3⟩ : ∃ q3, w2.heap.size = q3 := ⟨_, rfl⟩
  rw [hq3] at hn3 ⊢
  have HN3 := Aside0.mk hn3
  have B3 : Aside0 (Below w.heap.size w W3) := ⟨B2.out.trans (hb3.mono B2.out.size)⟩
  clear hb3 hn3 hW3 hq3
  go_wp2_with (go_at_call 8; refine (mbytes_c 0 3 false 0 ⟨#[]⟩ ⟨by decide, by decide⟩ (by decide) W3 (HT.out.on B3.out)).mono ?_; rw [lit8_bytes]; rintro e w4 ⟨v4, rfl, hR, hB⟩; have B4 := Aside0.mk (B3.out.trans (hB.mono B3.out.size)); (obtain ⟨A4, c4, rfl, hl4, hC4, -, -⟩ := R_plain hR); (have hcv := conv_str (c := c4) hC4); rw [lit8_str] at hcv; (have hh := (hB.block _ (Array.getElem?_eq_some_iff.1 HN3.out).1).trans HN3.out); have x0 := (blk_cell hh 0).trans rfl; have x1 := (blk_cell hh 1).trans rfl; have x2 := (blk_cell hh 2).trans rfl; have x3 := (blk_cell hh 3).trans rfl; have x4 := (blk_cell hh 4).trans rfl; clear hR hB hl4 hC4 hh)
  go_ret
  exact ⟨rfl, B4.out⟩
end Go.Proofs.YtkicekddkgehoaaDoor.Hnd
