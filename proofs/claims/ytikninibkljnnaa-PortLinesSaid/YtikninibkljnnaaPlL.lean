/- Contracts of the calls, by hand. -/
import Derived.Test.YtikninibkljnnaaQPortLinesx4
import Derived.Test.YtikninibkljnnaaPlP
import Derived.RangeFuncNested
import Derived.RangeFuncBound
import Derived.RangeFuncCalls
import Derived.RangeFuncLeaves
import Derived.RangeFuncBox
import Derived.Shelf.Abstract
import Derived.Shelf.RegionOpen
import Derived.OwnWalkIn
import Derived.TacticsInMore
import Derived.LoopNIn
import Derived.LoopIn
import Derived.Sort.QuietIn
import Derived.Sort.CutIn
import Derived.Stop.RegionWithIn
import Derived.StillTailTactics
import Derived.StillTail
import Derived.Deep.RegionHeld
import Derived.StillTailTactics
namespace Go.Proofs.Ytikninibkljnnaa.Hnd
open Go.RowKit Go.Proofs.Ytikninibkljnnaa.QPortLines Go.Proofs.YtikninibkljnnaaW.PrintWords Go.Proofs.YtikninibkljnnaaW.PrintLast  Go.Shelf
set_option linter.unusedVariables false
set_option linter.unusedSimpArgs false
set_option linter.unusedVariables false
set_option linter.unusedSimpArgs false
theorem idx_some : ∀ (l : List UInt8) (c : UInt8), Lib.indexByte l c = -1 ∨ ∃ a b, l = a ++ c :: b ∧ Lib.indexByte l c = (a.length : Int)
  | [], _ => .inl rfl
  | x :: l, c => by
    rw [Lib.indexByte]
    by_cases hx : (x == c) = true
    · rw [if_pos hx]
      obtain rfl := beq_iff_eq.1 hx
      exact .inr ⟨[], l, rfl, rfl⟩
    · rw [if_neg hx]
      rcases idx_some l c with h | ⟨a, b, rfl, h⟩
      · rw [h]; exact .inl rfl
      · refine .inr ⟨x :: a, b, rfl, ?_⟩
        rw [h, if_neg (by simp)]
        simp
theorem nil_of {x : ByteArray} (h : x.size = 0) : x = ⟨#[]⟩ := by
  obtain ⟨⟨l⟩⟩ := x
  cases l with
  | nil => rfl
  | cons a l => simp [ByteArray.size] at h
theorem lines_nil : split_Lines.f ⟨#[]⟩ = some (⟨#[]⟩, ⟨#[]⟩, false) := by
  have e : (⟨#[]⟩ : ByteArray).toList = [] := by rw [Lib.toList_data]
  unfold split_Lines.f strings_Cut.f stringslite_Cut.f stringslite_Index.f
  rw [e]
  rfl
theorem lines_some (s : ByteArray) (h : s.size ≤ 140737488351232) (h0 : s.size ≠ 0) : ∃ a b, split_Lines.f s = some (a, b, true) ∧ ((a.size + b.size + 1 = s.size ∧ (a ++ ⟨#[10]⟩) ++ b = s) ∨ (a = s ∧ b = ⟨#[]⟩)) := by
  have hne : (s.toList != ([] : List UInt8)) = true := by
    rw [Lib.toList_data, bne_iff_ne]
    intro e
    rw [Lib.size_eq, e] at h0
    exact h0 rfl
  have hs1 : (⟨#[10]⟩ : ByteArray).size = 1 := rfl
  have hg : (⟨#[10]⟩ : ByteArray).get! 0 = 10 := rfl
  unfold split_Lines.f strings_Cut.f stringslite_Cut.f stringslite_Index.f
  rw [if_pos hs1, hg, hne, hs1]
  rcases idx_some s.data.toList 10 with hi | ⟨a, b, hl, hi⟩
  · rw [hi]
    exact ⟨s, ⟨#[]⟩, rfl, .inr ⟨rfl, rfl⟩⟩
  · have hsz : s.size = a.length + 1 + b.length := by rw [Lib.size_eq, hl]; simp; omega
    have e1 : s.extract 0 a.length = ⟨a.toArray⟩ := by rw [Lib.extract_eq, hl]; simp
    have e2 : s.extract (a.length + 1) s.size = ⟨b.toArray⟩ := by
      rw [Lib.extract_eq, hl, hsz, show a ++ 10 :: b = (a ++ [10]) ++ b by simp, List.drop_left' (by simp)]
      rw [List.take_of_length_le (by omega)]
    refine ⟨⟨a.toArray⟩, ⟨b.toArray⟩, ?_, .inl ⟨by rw [hsz]; simp [ByteArray.size]; omega, ?_⟩⟩
    · rw [hi]
      simp only [Option.bind_some]
      rw [if_pos (by omega), if_pos (by omega), if_pos (by omega), w64 (by omega) (by omega), if_pos (by omega), if_pos (by omega), show ((a.length : Int)).toNat = a.length by omega, show ((a.length : Int) + ((1 : Nat) : Int)).toNat = a.length + 1 by omega, e1, e2]
      rfl
    · apply ByteArray.ext
      apply Array.ext'
      rw [hl]
      simp [ByteArray.data_append]
end Go.Proofs.Ytikninibkljnnaa.Hnd
