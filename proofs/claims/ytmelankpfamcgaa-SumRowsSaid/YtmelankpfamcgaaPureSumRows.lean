/- The law SumRows over lists: how bytes are parted does not matter to their sum. No condition beyond the statement's own. -/
import Derived.Test.YtmelankpfamcgaaQSumRowsx1
namespace Go.Proofs.Ytmelankpfamcgaa.Pure
open Go.RowKit Go.Proofs.Ytmelankpfamcgaa.QSumRows Go.Proofs.YtmelankpfamcgaaW.PrintWords Go.Proofs.YtmelankpfamcgaaW.PrintLast

theorem wf_u8 {x : Int} (h : (Lit.int .u8 x).wf = true) : 0 ≤ x ∧ x ≤ 255 := by
  simpa [Lit.wf, IntKind.min, IntKind.max, IntKind.signed, IntKind.bits] using h
theorem wf_u32 {x : Int} (h : (Lit.int .u32 x).wf = true) : 0 ≤ x ∧ x ≤ 4294967295 := by
  simpa [Lit.wf, IntKind.min, IntKind.max, IntKind.signed, IntKind.bits] using h
theorem wraps_u32 (n : Int) (h₀ : 0 ≤ n) (h₁ : n < 2 ^ 32) : IntKind.u32.wrap n = n := by rw [IntKind.wrap_u32]; omega
theorem u32_or8 (x y : Int) (hx₀ : 0 ≤ x) (hx : x % 256 = 0) (hx₁ : x < 4294967296) (h₀ : 0 ≤ y) (h₁ : y < 256) : bits .or .u32 x y = x + y :=
  bits_join .u32 32 (by decide) wraps_u32 8 x y hx₀ hx hx₁ h₀ h₁ (by omega)
theorem known_at : lazaruslaw2_known.f 200 = some true := by decide +kernel
theorem known_ev : Ev (fun k => lazaruslaw2_known.f k) true := Ev.of lazaruslaw2_known.mono known_at

def r1 (x : Int) : Int := Go.bits .xor .u32 (x / 2) ((2197175160 * (Go.bits .and .u32 x 1)) % 4294967296)
def rn : Nat → Int → Int
  | 0, x => x
  | n + 1, x => rn n (r1 x)
def stp (x c : Int) : Int := rn 8 (Go.bits .xor .u32 x (c % 4294967296))
def crc (x : Int) (l : List Int) : Int := l.foldl stp x
theorem getD_lt {α : Type} (l : List α) (i : Nat) (d : α) (h : i < l.length) : l.getD i d = l[i] := by
  rw [List.getD_eq_getElem?_getD, List.getElem?_eq_getElem h]; rfl
theorem w64 {i : Int} (h0 : -9223372036854775808 ≤ i) (h1 : i < 9223372036854775808) : wrap64 i = i := by unfold wrap64; omega

theorem of_l2 {r : Int} (rows : List (List Int)) (n i : Int) (row : List Int) (m j : Int) : ∀ (d : Nat) (x t : Int), 0 ≤ t → t + d = 8 →
    Ev (fun k => sum_Of.l1 k (rn d x) rows n i row m (wrap64 (j + 1))) r → Ev (fun k => sum_Of.l2 k x rows n i row m j t) r
  | 0, x, t, h0, h1, h => Ev.step (fun k => by rw [sum_Of.l2, if_neg (by omega)]; rfl) h
  | d + 1, x, t, h0, h1, h =>
    Ev.step (fun k => by rw [sum_Of.l2, if_pos (by omega), w64 (by omega) (by omega)]; rfl) (of_l2 rows n i row m j d (r1 x) (t + 1) (by omega) (by omega) h)

theorem of_l1 {r : Int} (rows : List (List Int)) (n i : Int) (row : List Int) (hm : (row.length : Int) ≤ 281474976710656) : ∀ (d : Nat) (x j : Int), 0 ≤ j → j + d = row.length →
    Ev (fun k => sum_Of.l0 k (crc x (row.drop j.toNat)) rows n (wrap64 (i + 1))) r → Ev (fun k => sum_Of.l1 k x rows n i row row.length j) r
  | 0, x, j, h0, h1, h => by
    refine Ev.step (fun k => by rw [sum_Of.l1, if_neg (by omega)]) ?_
    rw [List.drop_of_length_le (by omega)] at h
    exact h
  | d + 1, x, j, h0, h1, h => by
    refine Ev.step (fun k => by rw [sum_Of.l1, if_pos (by omega), if_pos h0, if_pos (by omega)]) ?_
    refine of_l2 rows n i row _ j 8 _ 0 (by omega) (by omega) ?_
    rw [w64 (by omega) (by omega)]
    refine of_l1 rows n i row hm d _ (j + 1) (by omega) (by omega) ?_
    have e : row.drop j.toNat = rd row j :: row.drop (j + 1).toNat := by
      have hj : j.toNat < row.length := by omega
      rw [List.drop_eq_getElem_cons hj, rd, getD_lt _ _ _ hj]
      congr 2
      omega
    rw [e] at h
    exact h

theorem of_l0 (rows : List (List Int)) (hn : (rows.length : Int) ≤ 281474976710656) (hr : ∀ row ∈ rows, (row.length : Int) ≤ 281474976710656) : ∀ (d : Nat) (x i : Int), 0 ≤ i → i + d = rows.length →
    Ev (fun k => sum_Of.l0 k x rows rows.length i) (Go.bits .xor .u32 (crc x (rows.drop i.toNat).flatten) 4294967295)
  | 0, x, i, h0, h1 => by
    refine Ev.step (fun k => by rw [sum_Of.l0, if_neg (by omega)]) ?_
    rw [List.drop_of_length_le (by omega)]
    exact Ev.now _
  | d + 1, x, i, h0, h1 => by
    have hj : i.toNat < rows.length := by omega
    have e : rows.drop i.toNat = rd_L1 rows i :: rows.drop (i + 1).toNat := by
      rw [List.drop_eq_getElem_cons hj, rd_L1, getD_lt _ _ _ hj]
      congr 2
      omega
    have hmem : rd_L1 rows i ∈ rows := by rw [rd_L1, getD_lt _ _ _ hj]; exact List.getElem_mem hj
    refine Ev.step (fun k => by rw [sum_Of.l0, if_pos (by omega), if_pos h0, if_pos (by omega)]) ?_
    refine of_l1 rows _ i _ (hr _ hmem) (rd_L1 rows i).length x 0 (by omega) (by omega) ?_
    rw [w64 (by omega) (by omega)]
    have h := of_l0 rows hn hr d (crc x (rd_L1 rows i)) (i + 1) (by omega) (by omega)
    have e2 : crc x (rows.drop i.toNat).flatten = crc (crc x (rd_L1 rows i)) (rows.drop (i + 1).toNat).flatten := by
      rw [e, List.flatten_cons, crc, List.foldl_append]; rfl
    rw [e2]
    exact h

theorem of_ev (rows : List (List Int)) (hn : (rows.length : Int) ≤ 281474976710656) (hr : ∀ row ∈ rows, (row.length : Int) ≤ 281474976710656) :
    Ev (fun k => sum_Of.f k rows) (Go.bits .xor .u32 (crc 4294967295 rows.flatten) 4294967295) := by
  have h := of_l0 rows hn hr rows.length 4294967295 0 (by omega) (by omega)
  exact h

theorem rows_l0 (l : List (List Int)) : ∀ (d : Nat) (x3 : List Int) (x4 : Int), 0 ≤ x4 → x4 + d = l.length → x4 ≤ 51 → x3 = (l.take x4.toNat).flatten → x3.length ≤ 1000 → (∀ row ∈ l.take x4.toNat, row.length ≤ 1000) →
    (∀ row ∈ l, (row.length : Int) ≤ 140737488351232) → Ev (fun k => lazaruslaw2_SumRows.l0 k l x3 x4) true
  | 0, x3, x4, h0, h1, h51, hx, hl, hr, _ => by
    have ht : l.take x4.toNat = l := List.take_of_length_le (by omega)
    rw [ht] at hx hr
    refine Ev.step (fun k => by rw [lazaruslaw2_SumRows.l0, if_neg (by omega)]) ?_
    refine Ev.bind (of_ev l (by omega) (fun row h => by have := hr row h; omega)) ?_
    refine Ev.bind (of_ev [x3] (by simp) (fun row h => by simp at h; subst h; omega)) ?_
    refine Ev.congr (fun k => if_pos (by rw [hx]; simp)) ?_
    exact Ev.bind known_ev (Ev.now _)
  | d + 1, x3, x4, h0, h1, h51, hx, hl, hr, hw => by
    refine Ev.step (fun k => by rw [lazaruslaw2_SumRows.l0, if_pos (by omega)]) ?_
    by_cases h50 : x4 > 50
    · exact Ev.congr (fun k => if_pos h50) (Ev.now _)
    refine Ev.congr (fun k => by rw [if_neg h50, if_pos h0]) ?_
    have hj : x4.toNat < l.length := by omega
    have er : rd_L1 l x4 = l[x4.toNat] := by rw [rd_L1, getD_lt _ _ _ hj]
    have hm := hw l[x4.toNat] (List.getElem_mem hj)
    rw [er]
    by_cases hb : wrap64 ((x3.length : Int) + (l[x4.toNat].length : Int)) > 1000
    · exact Ev.congr (fun k => if_pos hb) (Ev.now _)
    have hs : x3.length + l[x4.toNat].length ≤ 1000 := by unfold wrap64 at hb; omega
    refine Ev.congr (fun k => by rw [if_neg hb, if_pos (by omega), w64 (by omega) (by omega)]) ?_
    have et : l.take (x4 + 1).toNat = l.take x4.toNat ++ [l[x4.toNat]] := by
      rw [show (x4 + 1).toNat = x4.toNat + 1 by omega, List.take_succ_eq_append_getElem hj]
    refine rows_l0 l d _ (x4 + 1) (by omega) (by omega) (by omega) ?_ (by rw [List.length_append]; omega) ?_ hw
    · rw [et, List.flatten_append, hx]; simp
    · rw [et]
      intro row h
      rcases List.mem_append.1 h with h | h
      · exact hr row h
      · simp at h; subst h; omega
theorem SumRows : ∀ (l0 : List (List Int)), (l0.length * 24 ≤ 140737488351232 ∧ ∀ y3 ∈ l0, (y3.length * 1 ≤ 140737488351232 ∧ ∀ y4 ∈ y3, (Lit.int .u8 y4).wf = true)) → ∃ k, lazaruslaw2_SumRows.f k l0 = some true := by
  intro l hl
  exact (rows_l0 l l.length [] 0 (by omega) (by omega) (by omega) rfl (by simp) (by simp) (fun row h => by have := (hl.2 row h).1; omega)).rounds

end Go.Proofs.Ytmelankpfamcgaa.Pure
