/- Contracts of the calls, by hand. -/
import Derived.Test.YtkicekddkgehoaaDoorQMarkBytesx2
import Derived.Test.YtkicekddkgehoaaDoorNet5
import Derived.RangeFuncNested
import Derived.RangeFuncBound
import Derived.RangeFuncCalls
import Derived.RangeFuncLeaves
import Derived.RangeFuncBox
import Derived.Shelf.Abstract
import Derived.Shelf.RegionOpen
import Derived.OwnWalkIn
import Derived.TacticsInMore
import Derived.LoopNIn
import Derived.LoopIn
import Derived.Sort.QuietIn
import Derived.Sort.CutIn
import Derived.Stop.RegionWithIn
import Derived.StillTailTactics
import Derived.Shelf.Strconv.AppendIntPublic10
import Derived.Shelf.Strconv.ErrVarParseInt
import Derived.Shelf.Bytes.IndexByte
import Derived.Lib.ItoaLen
import Derived.Lib.ParseIntBTie
import Derived.Lib.AtoiBound
namespace Go.Proofs.YtkicekddkgehoaaDoor.Hnd
open Go.RowKit Go.Proofs.YtkicekddkgehoaaDoor.QMarkBytes Go.Proofs.YtkicekddkgehoaaDoorW.PrintWords Go.Proofs.YtkicekddkgehoaaDoorW.PrintLast  Go.Shelf
set_option linter.unusedVariables false
set_option linter.unusedSimpArgs false
attribute [local go_sem] Oper.semAt_some
/-! Bytes of a text, converted. -/
theorem conv_C (W : World) (s : ByteArray) (hs : s.size ≤ 140737488355328) : (Kd.int .u8).C (Lib.bytesWorld W 5 s) (some ⟨W.heap.size, 0, none⟩) s.size (strL s) :=
  ⟨strL_len s, by omega, fun _ => ⟨_, rfl, fun j p hj => by
    have hl : j < s.size := by
      have := (List.getElem?_eq_some_iff.1 hj).1
      rwa [strL_len] at this
    refine ⟨[.int .u8 p], rfl, rfl, fun i u hu => ?_⟩
    have hi : i = 0 := by have := (List.getElem?_eq_some_iff.1 hu).1; simpa using this
    subst hi
    obtain rfl : Value.int .u8 p = u := by simpa using hu
    rw [show (Kd.int .u8).sz = 1 from rfl, Nat.mul_one, Nat.add_zero, Kd.add_plain2, Nat.zero_add, Lib.bytesWorld_cell W 5 s j hl]
    unfold strL NT.ints at hj
    rw [List.getElem?_map] at hj
    obtain ⟨c, hc, rfl⟩ := Option.map_eq_some_iff.1 hj
    rw [List.getD_eq_getElem?_getD, hc]
    rfl⟩⟩
theorem conv_bytes (s : ByteArray) (W : World) : (convert 9 26 (.string s)).run Tryd.prog W = .ok (.slice (some ⟨W.heap.size, 0, none⟩) s.size (grownCap W s.size 0 5)) (Lib.bytesWorld W 5 s) :=
  Lib.run_convert_string_bytes W 9 26 5 s Tryd.underlying9 Tryd.underlying26 Tryd.underlying5
/-- A Reader of a text's bytes. -/
theorem new_str (w W : World) (s : ByteArray) (hs : s.size ≤ 1099511627776) (hb : Below w.heap.size w W) :
    Calls Tryd.prog 26 #[.slice (some ⟨W.heap.size, 0, none⟩) s.size (grownCap W s.size 0 5)] (Lib.bytesWorld W 5 s) fun e w' => ∃ g, e = .returned (.pointer (some ⟨g, 0, none⟩)) ∧ W.heap.size ≤ g ∧ NR 83 True w' [g] g (strL s) ∧ Below W.heap.size W w' := by
  have hC := conv_C W s (by omega)
  have hl := strL_len s
  rw [← hl] at hC
  have h := new_c (c := grownCap W s.size 0 5) hC (by rw [hl]; exact grownCap_ge W s.size 0 5) (strL_bytes s) (by rw [hl]; omega)
  rw [hl] at h
  exact h.mono fun e w' ⟨g, e1, hg, hR, hB⟩ => ⟨g, e1, Nat.le_trans (Lib.bytesWorld_below W 5 s).size hg, hR, (Lib.bytesWorld_below W 5 s).trans (hB.mono (Lib.bytesWorld_below W 5 s).size)⟩
/-! What is no number. -/
def oddL : List (List Int) := [[], [59], [48, 49, 59], [45, 48, 59], [45, 59], [49], [43, 49, 59], [32, 49, 59], [57, 50, 50, 51, 51, 55, 50, 48, 51, 54, 56, 53, 52, 55, 55, 53, 56, 48, 56, 59], [45, 57, 50, 50, 51, 51, 55, 50, 48, 51, 54, 56, 53, 52, 55, 55, 53, 56, 48, 57, 59], [49, 44], [45, 45, 49, 59], [48, 48, 59]]
theorem tk_of_none {b : List Int} (h : NT.take b = none) : tk b = (0, 0, false) := by unfold tk; rw [h]
theorem odd_a : ∀ b ∈ ([[], [49], [49, 44]] : List (List Int)), NT.take b = none := fun b hb => by
  refine NT.take_none ?_
  revert b
  decide
theorem odd_b : ∀ b ∈ ([[59], [45, 59], [32, 49, 59], [57, 50, 50, 51, 51, 55, 50, 48, 51, 54, 56, 53, 52, 55, 55, 53, 56, 48, 56, 59], [45, 57, 50, 50, 51, 51, 55, 50, 48, 51, 54, 56, 53, 52, 55, 55, 53, 56, 48, 57, 59], [45, 45, 49, 59]] : List (List Int)), NT.take b = none := fun b hb => by
  have h : NT.stop b < b.length ∧ (match Lib.parseIntB 64 (NT.u8s (b.take (NT.stop b))) with | .ok _ => false | _ => true) = true := by
    revert b
    decide +kernel
  refine NT.take_bad h.1 (fun n e => ?_)
  have h2 := h.2
  rw [e] at h2
  cases h2
theorem odd_c (b : List Int) (n : Nat) (hn : n < 10) (h : NT.stop b < b.length) (hp : Lib.parseIntB 64 (NT.u8s (b.take (NT.stop b))) = .ok (n : Int)) (hne : [(48 + n : Int), 59] ≠ b.take (NT.stop b + 1)) : NT.take b = none := by
  rw [NT.take_ok h hp, num_small hn, if_neg hne]
theorem odd_none : ∀ b ∈ oddL, tk b = (0, 0, false) := fun b hb => by
  refine tk_of_none ?_
  unfold oddL at hb
  simp only [List.mem_cons, List.not_mem_nil, or_false] at hb
  rcases hb with rfl | rfl | rfl | rfl | rfl | rfl | rfl | rfl | rfl | rfl | rfl | rfl | rfl
  · exact odd_a _ (by simp)
  · exact odd_b _ (by simp)
  · exact odd_c _ 1 (by decide) (by decide) (by decide +kernel) (by decide)
  · exact odd_c _ 0 (by decide) (by decide) (by decide +kernel) (by decide)
  · exact odd_b _ (by simp)
  · exact odd_a _ (by simp)
  · exact odd_c _ 1 (by decide) (by decide) (by decide +kernel) (by decide)
  · exact odd_b _ (by simp)
  · exact odd_b _ (by simp)
  · exact odd_b _ (by simp)
  · exact odd_a _ (by simp)
  · exact odd_b _ (by simp)
  · exact odd_c _ 0 (by decide) (by decide) (by decide +kernel) (by decide)
theorem least_num : NT.num (-9223372036854775808) = [45, 57, 50, 50, 51, 51, 55, 50, 48, 51, 54, 56, 53, 52, 55, 55, 53, 56, 48, 56, 59] := by decide +kernel
theorem least_take : tk [45, 57, 50, 50, 51, 51, 55, 50, 48, 51, 54, 56, 53, 52, 55, 55, 53, 56, 48, 56, 59] = (-9223372036854775808, 21, true) := by
  have h := NT.take_of (b := [45, 57, 50, 50, 51, 51, 55, 50, 48, 51, 54, 56, 53, 52, 55, 55, 53, 56, 48, 56, 59]) (n := -9223372036854775808) ⟨by decide, by decide⟩ (by rw [least_num]; rfl)
  unfold tk
  rw [h, least_num]
  rfl
end Go.Proofs.YtkicekddkgehoaaDoor.Hnd
