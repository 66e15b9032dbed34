/- Line by line it is all of a text: the printed law answers true. No conditions. -/
import Derived.Test.YtnhmfeihnjdcpaaQSplitAllx2
namespace Go.Proofs.Ytnhmfeihnjdcpaa.Pure
open Go.RowKit Go.Proofs.Ytnhmfeihnjdcpaa.QSplitAll Go.Proofs.YtnhmfeihnjdcpaaW.PrintWords Go.Proofs.YtnhmfeihnjdcpaaW.PrintLast

theorem w64 {x : Int} (h₀ : -9223372036854775808 ≤ x) (h₁ : x < 9223372036854775808) : wrap64 x = x := by unfold wrap64; omega
theorem idx_some : ∀ (l : List UInt8) (c : UInt8), Lib.indexByte l c = -1 ∨ ∃ a b, l = a ++ c :: b ∧ Lib.indexByte l c = (a.length : Int)
  | [], _ => .inl rfl
  | x :: l, c => by
    rw [Lib.indexByte]
    by_cases hx : (x == c) = true
    · rw [if_pos hx]
      obtain rfl := beq_iff_eq.1 hx
      exact .inr ⟨[], l, rfl, rfl⟩
    · rw [if_neg hx]
      rcases idx_some l c with h | ⟨a, b, rfl, h⟩
      · rw [h]; exact .inl rfl
      · refine .inr ⟨x :: a, b, rfl, ?_⟩
        rw [h, if_neg (by simp)]
        simp
theorem nil_of {x : ByteArray} (h : x.size = 0) : x = ⟨#[]⟩ := by
  obtain ⟨⟨l⟩⟩ := x
  cases l with
  | nil => rfl
  | cons a l => simp [ByteArray.size] at h
theorem lines_nil : split_Lines.f ⟨#[]⟩ = some (⟨#[]⟩, ⟨#[]⟩, false) := by
  have e : (⟨#[]⟩ : ByteArray).toList = [] := by rw [Lib.toList_data]
  unfold split_Lines.f strings_Cut.f stringslite_Cut.f stringslite_Index.f
  rw [e]
  rfl
theorem lines_some (s : ByteArray) (h : s.size ≤ 140737488351232) (h0 : s.size ≠ 0) : ∃ a b, split_Lines.f s = some (a, b, true) ∧ ((a.size + b.size + 1 = s.size ∧ (a ++ ⟨#[10]⟩) ++ b = s) ∨ (a = s ∧ b = ⟨#[]⟩)) := by
  have hne : (s.toList != ([] : List UInt8)) = true := by
    rw [Lib.toList_data, bne_iff_ne]
    intro e
    rw [Lib.size_eq, e] at h0
    exact h0 rfl
  have hs1 : (⟨#[10]⟩ : ByteArray).size = 1 := rfl
  have hg : (⟨#[10]⟩ : ByteArray).get! 0 = 10 := rfl
  unfold split_Lines.f strings_Cut.f stringslite_Cut.f stringslite_Index.f
  rw [if_pos hs1, hg, hne, hs1]
  rcases idx_some s.data.toList 10 with hi | ⟨a, b, hl, hi⟩
  · rw [hi]
    exact ⟨s, ⟨#[]⟩, rfl, .inr ⟨rfl, rfl⟩⟩
  · have hsz : s.size = a.length + 1 + b.length := by rw [Lib.size_eq, hl]; simp; omega
    have e1 : s.extract 0 a.length = ⟨a.toArray⟩ := by rw [Lib.extract_eq, hl]; simp
    have e2 : s.extract (a.length + 1) s.size = ⟨b.toArray⟩ := by
      rw [Lib.extract_eq, hl, hsz, show a ++ 10 :: b = (a ++ [10]) ++ b by simp, List.drop_left' (by simp)]
      rw [List.take_of_length_le (by omega)]
    refine ⟨⟨a.toArray⟩, ⟨b.toArray⟩, ?_, .inl ⟨by rw [hsz]; simp [ByteArray.size]; omega, ?_⟩⟩
    · rw [hi]
      simp only [Option.bind_some]
      rw [if_pos (by omega), if_pos (by omega), if_pos (by omega), w64 (by omega) (by omega), if_pos (by omega), if_pos (by omega), show ((a.length : Int)).toNat = a.length by omega, show ((a.length : Int) + ((1 : Nat) : Int)).toNat = a.length + 1 by omega, e1, e2]
      rfl
    · apply ByteArray.ext
      apply Array.ext'
      rw [hl]
      simp [ByteArray.data_append]
theorem known_at : lazaruslaw15_known.f 60 = some true := by decide +kernel
theorem known_ev : Ev (fun k => lazaruslaw15_known.f k) true := Ev.of lazaruslaw15_known.mono known_at
theorem all_l0 (s : ByteArray) (hs : s.size ≤ 200) : ∀ (d : Nat) (x3 x4 : ByteArray) (x5 : Int), x3.size ≤ d → 0 ≤ x5 → x5 + x3.size ≤ s.size → x4 ++ x3 = s → Ev (fun k => lazaruslaw15_SplitAll.l0 k s x3 x4 x5) true := by
  intro d
  induction d with
  | zero =>
    intro x3 x4 x5 hd h5 h53 hx
    obtain rfl := nil_of (by omega : x3.size = 0)
    have e3 : (⟨#[]⟩ : ByteArray).toList = ([] : List UInt8) := by rw [Lib.toList_data]
    have e4 : x4.toList = s.toList := by rw [← hx, Lib.toList_data, Lib.toList_data]; simp [ByteArray.data_append]
    refine Ev.step (fun k => by rw [lazaruslaw15_SplitAll.l0, if_pos (by omega), lines_nil]) ?_
    refine Ev.congr (fun k => (by simp only [Option.bind_some]; rw [if_neg (by simp), if_pos e3, if_pos e4])) ?_
    exact Ev.bind known_ev (Ev.now _)
  | succ d ih =>
    intro x3 x4 x5 hd h5 h53 hx
    by_cases h3 : x3.size = 0
    · obtain rfl := nil_of h3
      exact ih _ _ _ (by omega) h5 h53 hx
    have hsz : x4.size + x3.size = s.size := by rw [← hx, ByteArray.size_append]
    obtain ⟨a, b, hf, hab⟩ := lines_some x3 (by omega) h3
    refine Ev.step (fun k => by rw [lazaruslaw15_SplitAll.l0, if_pos (by omega), hf]) ?_
    rcases hab with ⟨h1, h2⟩ | ⟨rfl, rfl⟩
    · refine Ev.congr (fun k => (by simp only [Option.bind_some]; rw [if_pos trivial, if_neg (by omega), if_pos (by omega), w64 (by omega) (by omega), if_pos (by omega), if_pos (by rw [ByteArray.size_append]; omega), w64 (by omega) (by omega)])) ?_
      refine ih b _ (x5 + 1) (by omega) (by omega) (by omega) ?_
      rw [← hx, ← h2]
      simp only [ByteArray.append_assoc]
    · have hz : (⟨#[]⟩ : ByteArray).size = 0 := rfl
      refine Ev.congr (fun k => (by simp only [Option.bind_some]; rw [if_pos trivial, if_neg (by omega), if_pos (by omega), w64 (by omega) (by omega), if_neg (by omega), w64 (by omega) (by omega)])) ?_
      refine ih ⟨#[]⟩ _ (x5 + 1) (by omega) (by omega) (by omega) ?_
      rw [← hx]
      apply ByteArray.ext
      simp [ByteArray.data_append]
theorem SplitAll : ∀ (a0 : ByteArray), a0.size ≤ 140737488351232 → ∃ k, lazaruslaw15_SplitAll.f k a0 = some true := by
  intro s _
  by_cases hs : (s.size : Int) > 200
  · exact ⟨0, by rw [lazaruslaw15_SplitAll.f, if_pos hs]⟩
  · obtain ⟨k, hk⟩ := (all_l0 s (by omega) s.size s ⟨#[]⟩ 0 (by omega) (by omega) (by omega) (by apply ByteArray.ext; simp [ByteArray.data_append])).rounds
    exact ⟨k, by rw [lazaruslaw15_SplitAll.f, if_neg hs]; exact hk⟩

end Go.Proofs.Ytnhmfeihnjdcpaa.Pure
