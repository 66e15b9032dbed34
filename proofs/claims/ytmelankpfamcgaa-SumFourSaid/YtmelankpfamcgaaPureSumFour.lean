/- The law SumFour over lists: four bytes are a number and are those bytes again. No condition beyond the statement's own. -/
import Derived.Test.YtmelankpfamcgaaQSumFourx2
namespace Go.Proofs.Ytmelankpfamcgaa.Pure
open Go.RowKit Go.Proofs.Ytmelankpfamcgaa.QSumFour Go.Proofs.YtmelankpfamcgaaW.PrintWords Go.Proofs.YtmelankpfamcgaaW.PrintLast

theorem wf_u8 {x : Int} (h : (Lit.int .u8 x).wf = true) : 0 ≤ x ∧ x ≤ 255 := by
  simpa [Lit.wf, IntKind.min, IntKind.max, IntKind.signed, IntKind.bits] using h
theorem wf_u32 {x : Int} (h : (Lit.int .u32 x).wf = true) : 0 ≤ x ∧ x ≤ 4294967295 := by
  simpa [Lit.wf, IntKind.min, IntKind.max, IntKind.signed, IntKind.bits] using h
theorem wraps_u32 (n : Int) (h₀ : 0 ≤ n) (h₁ : n < 2 ^ 32) : IntKind.u32.wrap n = n := by rw [IntKind.wrap_u32]; omega
theorem u32_or8 (x y : Int) (hx₀ : 0 ≤ x) (hx : x % 256 = 0) (hx₁ : x < 4294967296) (h₀ : 0 ≤ y) (h₁ : y < 256) : bits .or .u32 x y = x + y :=
  bits_join .u32 32 (by decide) wraps_u32 8 x y hx₀ hx hx₁ h₀ h₁ (by omega)
theorem known_at : lazaruslaw2_known.f 200 = some true := by decide +kernel
theorem known_ev : Ev (fun k => lazaruslaw2_known.f k) true := Ev.of lazaruslaw2_known.mono known_at

theorem get4 (a b c d : Int) (ha : 0 ≤ a ∧ a ≤ 255) (hb : 0 ≤ b ∧ b ≤ 255) (hc : 0 ≤ c ∧ c ≤ 255) (hd : 0 ≤ d ∧ d ≤ 255) (r : List Int) :
    sum_Get.f 200 (a :: b :: c :: d :: r) = some (a * 16777216 + b * 65536 + c * 256 + d) := by
  have e1 : bits .or .u32 0 (a % 4294967296) = a := by
    have := u32_or8 0 a (by omega) (by omega) (by omega) (by omega) (by omega)
    rw [show a % 4294967296 = a by omega, this]; omega
  have e2 : bits .or .u32 ((a * 256) % 4294967296) (b % 4294967296) = a * 256 + b := by
    rw [u32_or8 _ _ (by omega) (by omega) (by omega) (by omega) (by omega)]; omega
  have e3 : bits .or .u32 (((a * 256 + b) * 256) % 4294967296) (c % 4294967296) = (a * 256 + b) * 256 + c := by
    rw [u32_or8 _ _ (by omega) (by omega) (by omega) (by omega) (by omega)]; omega
  have e4 : bits .or .u32 ((((a * 256 + b) * 256 + c) * 256) % 4294967296) (d % 4294967296) = ((a * 256 + b) * 256 + c) * 256 + d := by
    rw [u32_or8 _ _ (by omega) (by omega) (by omega) (by omega) (by omega)]; omega
  unfold sum_Get.f
  rw [if_neg (by simp; omega), if_pos (by simp; omega)]
  simp [sum_Get.l0, wrap64, rd, e1, e2, e3, e4]
  omega
theorem four (n : Int) (h : 0 ≤ n) (h1 : n ≤ 4294967295) : sum_Four.f 200 n = some [n / 16777216, n / 65536 % 256, n / 256 % 256, n % 256] := by
  unfold sum_Four.f
  rw [if_pos (by decide)]
  simp [sum_Four.l0, wrap64, shr, IntKind.bits]
  omega
theorem get_ev (l : List Int) (a b c d : Int) (r : List Int) (e : l = a :: b :: c :: d :: r) (ha : 0 ≤ a ∧ a ≤ 255) (hb : 0 ≤ b ∧ b ≤ 255) (hc : 0 ≤ c ∧ c ≤ 255) (hd : 0 ≤ d ∧ d ≤ 255) : Ev (fun k => sum_Get.f k l) (a * 16777216 + b * 65536 + c * 256 + d) := by
  subst e
  exact Ev.of (sum_Get.mono _) (get4 a b c d ha hb hc hd r)
theorem four_ev (n : Int) (h : 0 ≤ n) (h1 : n ≤ 4294967295) : Ev (fun k => sum_Four.f k n) [n / 16777216, n / 65536 % 256, n / 256 % 256, n % 256] := Ev.of (sum_Four.mono _) (four n h h1)

theorem SumFour : ∀ (l0 : List Int), (l0.length * 1 ≤ 140737488351232 ∧ ∀ y2 ∈ l0, (Lit.int .u8 y2).wf = true) → ∃ k, lazaruslaw2_SumFour.f k l0 = some true := by
  intro l hl
  have hw := hl.2
  refine ⟨200, ?_⟩
  unfold lazaruslaw2_SumFour.f
  by_cases h : l.length = 4
  · obtain ⟨a, b, c, d, rfl⟩ : ∃ a b c d, l = [a, b, c, d] := by
      match l, h with
      | [a, b, c, d], _ => exact ⟨a, b, c, d, rfl⟩
    have ha := wf_u8 (hw a (by simp))
    have hb := wf_u8 (hw b (by simp))
    have hc := wf_u8 (hw c (by simp))
    have hd := wf_u8 (hw d (by simp))
    rw [if_pos (by simp), get4 a b c d ha hb hc hd, Option.bind_some, four _ (by omega) (by omega), Option.bind_some]
    have q1 : (a * 16777216 + b * 65536 + c * 256 + d) / 16777216 = a := by omega
    have q2 : (a * 16777216 + b * 65536 + c * 256 + d) / 65536 % 256 = b := by omega
    have q3 : (a * 16777216 + b * 65536 + c * 256 + d) / 256 % 256 = c := by omega
    have q4 : (a * 16777216 + b * 65536 + c * 256 + d) % 256 = d := by omega
    rw [q1, q2, q3, q4, if_pos rfl, known_at, Option.bind_some]
  · rw [if_neg (by omega)]
    by_cases h5 : (l.length : Int) > 4
    · rw [if_pos h5, known_at, Option.bind_some]
    · rw [if_neg h5]
      have : sum_Get.f 200 l = some 0 := by unfold sum_Get.f; rw [if_pos (by omega)]
      rw [this, Option.bind_some, if_pos rfl, known_at, Option.bind_some]

end Go.Proofs.Ytmelankpfamcgaa.Pure
