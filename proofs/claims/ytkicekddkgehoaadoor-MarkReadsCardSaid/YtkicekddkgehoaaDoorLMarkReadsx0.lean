/- The contract of the law MarkReads, by hand. -/
import Derived.Test.YtkicekddkgehoaaDoorMk8
import Derived.RangeFuncNested
import Derived.RangeFuncBound
import Derived.RangeFuncCalls
import Derived.RangeFuncLeaves
import Derived.RangeFuncBox
import Derived.Shelf.Abstract
import Derived.Shelf.RegionOpen
import Derived.OwnWalkIn
import Derived.TacticsInMore
import Derived.LoopNIn
import Derived.LoopIn
import Derived.Shelf.Strconv.AppendIntPublic10
import Derived.Shelf.Strconv.ErrVarParseInt
import Derived.Shelf.Bytes.IndexByte
import Derived.Lib.ItoaLen
import Derived.Lib.ParseIntBTie
import Derived.Lib.AtoiBound
import Derived.Deep.Upon
namespace Go.Proofs.YtkicekddkgehoaaDoor.LMarkReads
open Go.RowKit Go.Proofs.YtkicekddkgehoaaDoor.QMarkBytes Go.Proofs.YtkicekddkgehoaaDoor.Hnd Go.Proofs.YtkicekddkgehoaaDoorW.PrintWords Go.Proofs.YtkicekddkgehoaaDoorW.PrintLast  Go.Shelf
set_option linter.unusedVariables false
set_option linter.unusedSimpArgs false
attribute [local go_sem] Oper.semAt_some
def isB (l : List Int) : Bool := l.all fun x => decide (0 ≤ x ∧ x < 256)
theorem isB_bytes {l : List Int} (h : isB l = true) : NBytes l := fun x hx => of_decide_eq_true (List.all_eq_true.1 h x hx)
theorem isB_of {l : List Int} (h : ∀ x ∈ l, (Lit.int .u8 x).wf = true) : isB l = true := List.all_eq_true.2 fun x hx => by
  have h1 := h x hx
  simp [Lit.wf, IntKind.min, IntKind.max, IntKind.signed, IntKind.bits] at h1
  exact decide_eq_true (by omega)
def lazaruslaw6_MarkReads.f (l0 : List Int) : Option Bool := if isB l0 = true then some true else none
set_option maxHeartbeats 8000000 in
set_option maxRecDepth 100000 in
theorem reads_core (A0 : Option Addr) (c0 : Nat) (l0 : List Int) (w : World) (hr0 : (Kd.int .u8).C w A0 l0.length l0) (hc0 : l0.length ≤ c0) (hb : NBytes l0) (h0 : l0.length ≤ 200) (hT : NTabs w) :
    Calls Tryd.prog 4 #[.slice A0 l0.length c0] w fun e w' => e = .returned (.bool true) ∧ Below w.heap.size w w' := by
  have d0 : decide ((l0.length : Int) > 200) = false := decide_eq_false (by omega)
  have d0' : decide ((200 : Int) < (l0.length : Int)) = false := decide_eq_false (by omega)
  have d0'' : decide (200 < l0.length) = false := decide_eq_false (by omega)
  obtain ⟨n, dn, s, os, ok, hrd⟩ : ∃ n dn s os ok, rdM l0 = (n, dn, s, os, ok) := ⟨_, _, _, _, _, rfl⟩
  have HRD := Aside0.mk hrd
  have HR0 := Aside0.mk hr0
  have HC0 := Aside0.mk hc0
  have HBY := Aside0.mk hb
  have HL0 := Aside0.mk h0
  have HT := Aside0.mk hT
  clear hr0 hc0 hb h0 hT hrd
  go_enter Tryd.func4, Tryd.ntmps4
  go_upto_region 4 with (go_at_call 9; refine (mread_c HR0.out HC0.out HBY.out (by have := HL0.out; omega) HT.out).mono ?_; unfold RdPost; rw [HRD.out]; dsimp only; rintro e w3 ⟨rfl, hB⟩; have B3 := Aside0.mk hB; clear hB)
  have hb4 := below_alloc (Below.refl w3.heap.size w3) (.cells #[.int .i64 0, .int .i64 n, .bool dn, .int .i64 s, .string os] 25)
  have hn4 := blk_new w3 (.cells #[.int .i64 0, .int .i64 n, .bool dn, .int .i64 s, .string os] 25)
  obtain ⟨W4, hW4⟩ : ∃ W4, W4 = w3.alloc (.cells #[.int .i64 0, .int .i64 n, .bool dn, .int .i64 s, .string os] 25) := ⟨_, rfl⟩
  rw [← hW4] at hb4 hn4 ⊢
  obtain ⟨q4, hq4⟩ : ∃ q4, w3.heap.size = q4 := ⟨_, rfl⟩
  rw [hq4] at hn4 ⊢
  have HN4 := Aside0.mk hn4
  have B4 : Aside0 (Below w.heap.size w W4) := ⟨B3.out.trans (hb4.mono B3.out.size)⟩
  clear hb4 hn4 hW4 hq4
  go_upto_region 5 with (go_at_call 13; refine (refread_c (Kd.C_below HR0.out B4.out) HC0.out HBY.out (by have := HL0.out; omega)).mono ?_; unfold RdPost; rw [HRD.out]; dsimp only; rintro e w5 ⟨rfl, hB⟩; have B5 := Aside0.mk hB; clear hB)
  have hb6 := below_alloc (Below.refl w5.heap.size w5) (.cells #[.int .i64 0, .int .i64 n, .bool dn, .int .i64 s, .string os] 25)
  have hn6 := blk_new w5 (.cells #[.int .i64 0, .int .i64 n, .bool dn, .int .i64 s, .string os] 25)
  obtain ⟨W6, hW6⟩ : ∃ W6, W6 = w5.alloc (.cells #[.int .i64 0, .int .i64 n, .bool dn, .int .i64 s, .string os] 25) := ⟨_, rfl⟩
  rw [← hW6] at hb6 hn6 ⊢
  obtain ⟨q6, hq6⟩ : ∃ q6, w5.heap.size = q6 := ⟨_, rfl⟩
  rw [hq6] at hn6 ⊢
  have B6 : Aside0 (Below w.heap.size w W6) := ⟨B4.out.trans ((B5.out.trans (hb6.mono B5.out.size)).mono B4.out.size)⟩
  have hh4 := ((B5.out.trans (hb6.mono B5.out.size)).block _ (Array.getElem?_eq_some_iff.1 HN4.out).1).trans HN4.out
  have x0 := (blk_cell hn6 0).trans rfl
  have x1 := (blk_cell hn6 1).trans rfl
  have x2 := (blk_cell hn6 2).trans rfl
  have x3 := (blk_cell hn6 3).trans rfl
  have x4 := (blk_cell hn6 4).trans rfl
  have y0 := (blk_cell hh4 0).trans rfl
  have y1 := (blk_cell hh4 1).trans rfl
  have y2 := (blk_cell hh4 2).trans rfl
  have y3 := (blk_cell hh4 3).trans rfl
  have y4 := (blk_cell hh4 4).trans rfl
  clear hb6 hn6 hW6 hq6 hh4
  go_wp2_with (go_at_call 12; refine (known6_any _ (HT.out.on B6.out)).mono ?_; rintro e w9 ⟨rfl, hB⟩; have B9 := Aside0.mk (B6.out.trans (hB.mono B6.out.size)); clear hB)
  go_ret
  exact ⟨rfl, B9.out⟩
theorem lazaruslaw6_MarkReads.calls (A0 : Option Addr) (c0 : Nat) (l0 : List Int) (r : Bool) (w : World) (hr0 : (Kd.int .u8).C w A0 l0.length l0) (hc0 : l0.length ≤ c0) (h : lazaruslaw6_MarkReads.f l0 = some r) (hT : NTabs w) :
    Calls Tryd.prog 4 #[.slice A0 l0.length c0] w fun e w' => e = .returned (.bool r) ∧ Below w.heap.size w w' := by
  unfold lazaruslaw6_MarkReads.f at h
  by_cases hB : isB l0 = true
  · rw [if_pos hB] at h
    obtain rfl : true = r := Option.some.inj h
    clear h
    by_cases h0 : l0.length ≤ 200
    · exact reads_core A0 c0 l0 w hr0 hc0 (isB_bytes hB) h0 hT
    · have d0 : decide ((l0.length : Int) > 200) = true := decide_eq_true (by omega)
      have d0' : decide ((200 : Int) < (l0.length : Int)) = true := decide_eq_true (by omega)
      have d0'' : decide (200 < l0.length) = true := decide_eq_true (by omega)
      clear hB h0 hr0 hc0 hT
      go_enter Tryd.func4, Tryd.ntmps4
      go_wp2
      go_ret
      exact ⟨rfl, Below.refl _ _⟩
  · rw [if_neg hB] at h
    cases h
end Go.Proofs.YtkicekddkgehoaaDoor.LMarkReads
