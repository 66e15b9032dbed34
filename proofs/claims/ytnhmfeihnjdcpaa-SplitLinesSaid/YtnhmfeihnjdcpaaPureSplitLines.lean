/- Any text's first line, any text's words: the printed law answers true. No conditions. -/
import Derived.Test.YtnhmfeihnjdcpaaQSplitLinesx2
namespace Go.Proofs.Ytnhmfeihnjdcpaa.Pure
open Go.RowKit Go.Proofs.Ytnhmfeihnjdcpaa.QSplitLines Go.Proofs.YtnhmfeihnjdcpaaW.PrintWords Go.Proofs.YtnhmfeihnjdcpaaW.PrintLast

theorem w64 {x : Int} (h₀ : -9223372036854775808 ≤ x) (h₁ : x < 9223372036854775808) : wrap64 x = x := by unfold wrap64; omega
theorem idx_some : ∀ (l : List UInt8) (c : UInt8), (Lib.indexByte l c = -1 ∧ ∀ x ∈ l, x ≠ c) ∨ ∃ a b, l = a ++ c :: b ∧ Lib.indexByte l c = (a.length : Int) ∧ ∀ x ∈ a, x ≠ c
  | [], _ => .inl ⟨rfl, by simp⟩
  | x :: l, c => by
    rw [Lib.indexByte]
    by_cases hx : (x == c) = true
    · rw [if_pos hx]
      obtain rfl := beq_iff_eq.1 hx
      exact .inr ⟨[], l, rfl, rfl, by simp⟩
    · rw [if_neg hx]
      have hx' : x ≠ c := fun e => hx (by rw [e]; simp)
      rcases idx_some l c with ⟨h, hn⟩ | ⟨a, b, rfl, h, hn⟩
      · rw [h]
        refine .inl ⟨rfl, fun y hy => ?_⟩
        rcases List.mem_cons.1 hy with rfl | hy
        · exact hx'
        · exact hn y hy
      · refine .inr ⟨x :: a, b, rfl, ?_, fun y hy => ?_⟩
        · rw [h, if_neg (by simp)]
          simp
        · rcases List.mem_cons.1 hy with rfl | hy
          · exact hx'
          · exact hn y hy
theorem bt_list (s : ByteArray) (i : Nat) (h : i < s.data.toList.length) : bt s (i : Int) = ((s.data.toList[i].toNat : Nat) : Int) := by
  have h' : ((i : Int)).toNat < s.size := by rw [Lib.size_eq]; omega
  rw [← bt_at s (i : Int) h']
  rfl
theorem get_lt (s : ByteArray) (k : Nat) (h : k < s.size) : s.get! k = s[k]'h := by
  obtain ⟨a⟩ := s
  show a[k]! = a[k]'h
  exact getElem!_pos a k h
theorem bt_get (s : ByteArray) (i : Nat) (h : i < s.size) : ((s.get! i).toNat : Int) = bt s (i : Int) := by
  rw [← bt_at s (i : Int) (by omega), get_lt s i h]
  rfl
theorem ref_hit (s : ByteArray) (a b : List UInt8) (hl : s.data.toList = a ++ 10 :: b) (ha : ∀ x ∈ a, x ≠ 10) (hs : s.size ≤ 300) : ∀ (d : Nat) (x5 : Nat), x5 + d = a.length →
    Ev (fun k => lazarusref15_Lines.l0 k s (x5 : Int)) (s.extract 0 a.length, s.extract (a.length + 1) s.size, true)
  | 0, x5, hd => by
    have hsz : s.size = a.length + 1 + b.length := by rw [Lib.size_eq, hl]; simp; omega
    have hb : bt s (x5 : Int) = 10 := by
      rw [bt_list s x5 (by rw [hl]; simp; omega)]
      simp only [hl]
      rw [List.getElem_append_right (by omega)]
      simp [show x5 - a.length = 0 by omega]
    refine Ev.step (fun k => by rw [lazarusref15_Lines.l0, if_pos (by omega), if_pos (by omega), if_pos hb, if_pos (by omega), w64 (by omega) (by omega), if_pos (by omega), if_pos (by omega), show ((x5 : Int)).toNat = a.length by omega, show ((x5 : Int) + 1).toNat = a.length + 1 by omega]) (Ev.now _)
  | d + 1, x5, hd => by
    have hsz : s.size = a.length + 1 + b.length := by rw [Lib.size_eq, hl]; simp; omega
    have hj : x5 < a.length := by omega
    have hb : bt s (x5 : Int) ≠ 10 := by
      rw [bt_list s x5 (by rw [hl]; simp; omega)]
      simp only [hl]
      rw [List.getElem_append_left hj]
      have h1 := ha _ (List.getElem_mem hj)
      intro e
      apply h1
      apply UInt8.toNat_inj.1
      have : (10 : UInt8).toNat = 10 := rfl
      omega
    have ih := ref_hit s a b hl ha hs d (x5 + 1) (by omega)
    refine Ev.step (fun k => by rw [lazarusref15_Lines.l0, if_pos (by omega), if_pos (by omega), if_neg hb, w64 (by omega) (by omega), show (x5 : Int) + 1 = ((x5 + 1 : Nat) : Int) by omega]) ih
theorem ref_miss (s : ByteArray) (ha : ∀ x ∈ s.data.toList, x ≠ 10) (hs : s.size ≤ 300) : ∀ (d : Nat) (x5 : Nat), x5 + d = s.size →
    Ev (fun k => lazarusref15_Lines.l0 k s (x5 : Int)) (s, (⟨#[]⟩ : ByteArray), decide ((s.size : Int) > 0))
  | 0, x5, hd => Ev.step (fun k => by rw [lazarusref15_Lines.l0, if_neg (by omega)]) (Ev.now _)
  | d + 1, x5, hd => by
    have hj : x5 < s.data.toList.length := by rw [← Lib.size_eq]; omega
    have hb : bt s (x5 : Int) ≠ 10 := by
      rw [bt_list s x5 hj]
      have h1 := ha _ (List.getElem_mem hj)
      intro e
      apply h1
      apply UInt8.toNat_inj.1
      have : (10 : UInt8).toNat = 10 := rfl
      omega
    have ih := ref_miss s ha hs d (x5 + 1) (by omega)
    refine Ev.step (fun k => by rw [lazarusref15_Lines.l0, if_pos (by omega), if_pos (by omega), if_neg hb, w64 (by omega) (by omega), show (x5 : Int) + 1 = ((x5 + 1 : Nat) : Int) by omega]) ih
/-- The program's first line and the document's are one. -/
theorem lines_ev (s : ByteArray) (hs : s.size ≤ 300) : ∃ r, split_Lines.f s = some r ∧ Ev (fun k => lazarusref15_Lines.f k s) r := by
  have hs1 : (⟨#[10]⟩ : ByteArray).size = 1 := rfl
  have hg : (⟨#[10]⟩ : ByteArray).get! 0 = 10 := rfl
  unfold split_Lines.f strings_Cut.f stringslite_Cut.f stringslite_Index.f
  rw [if_pos hs1, hg, hs1]
  rcases idx_some s.data.toList 10 with ⟨hi, hn⟩ | ⟨a, b, hl, hi, hn⟩
  · rw [hi]
    refine ⟨(s, ⟨#[]⟩, s.toList != []), rfl, ?_⟩
    have e : (s.toList != ([] : List UInt8)) = decide ((s.size : Int) > 0) := by
      rw [Lib.toList_data, Lib.size_eq]
      cases s.data.toList with
      | nil => rfl
      | cons x l => simp
    rw [e]
    exact ref_miss s hn hs s.size 0 (by omega)
  · have hsz : s.size = a.length + 1 + b.length := by rw [Lib.size_eq, hl]; simp; omega
    have hne : (s.toList != ([] : List UInt8)) = true := by
      rw [Lib.toList_data, hl]
      simp
    refine ⟨(s.extract 0 a.length, s.extract (a.length + 1) s.size, true), ?_, ref_hit s a b hl hn hs a.length 0 (by omega)⟩
    rw [hi, hne]
    simp only [Option.bind_some]
    rw [if_pos (by omega), if_pos (by omega), if_pos (by omega), w64 (by omega) (by omega), if_pos (by omega), if_pos (by omega), show ((a.length : Int)).toNat = a.length by omega, show ((a.length : Int) + ((1 : Nat) : Int)).toNat = a.length + 1 by omega]
    rfl
/-! Words. -/
def blankB (c : Int) : Bool := c == 32 || c == 9 || c == 10
theorem blank_f (c : Int) : lazarusref7_Blank.f c = some (blankB c) := by
  unfold lazarusref7_Blank.f blankB
  repeat' split
  all_goals simp_all
theorem w32 {x : Int} (h₀ : 0 ≤ x) (h₁ : x ≤ 255) : wrap32 x = x := by unfold wrap32; omega
/-- A letter and its bytes: one byte below 128, or bytes all above. -/
theorem dec (s : ByteArray) (pos : Nat) (h : pos < s.size) : ∃ n, (Utf8.decode s pos).2 = n ∧ 1 ≤ n ∧ pos + n ≤ s.size ∧ ((n = 1 ∧ ((Utf8.decode s pos).1 : Int) = bt s (pos : Int)) ∨ (128 ≤ (Utf8.decode s pos).1 ∧ ∀ j, j < n → 128 ≤ bt s ((pos + j : Nat) : Int))) := by
  have g0 := bt_get s pos h
  have g1 : 1 < s.size - pos → ((s.get! (pos + 1)).toNat : Int) = bt s ((pos + 1 : Nat) : Int) := fun h => bt_get s (pos + 1) (by omega)
  have g2 : 2 < s.size - pos → ((s.get! (pos + 2)).toNat : Int) = bt s ((pos + 2 : Nat) : Int) := fun h => bt_get s (pos + 2) (by omega)
  have g3 : 3 < s.size - pos → ((s.get! (pos + 3)).toNat : Int) = bt s ((pos + 3 : Nat) : Int) := fun h => bt_get s (pos + 3) (by omega)
  rw [Lib.decode_at]
  generalize (s.get! pos).toNat = b0 at *
  generalize (s.get! (pos + 1)).toNat = b1 at *
  generalize (s.get! (pos + 2)).toNat = b2 at *
  generalize (s.get! (pos + 3)).toNat = b3 at *
  unfold Lib.decodeN
  have one : ∀ (_ : 128 ≤ b0) (j : Nat), j < 1 → 128 ≤ bt s ((pos + j : Nat) : Int) := fun hb j hj => by
    obtain rfl : j = 0 := by omega
    rw [Nat.add_zero]
    omega
  split
  · exact ⟨1, rfl, by omega, by omega, .inl ⟨rfl, g0⟩⟩
  · split
    · split
      · refine ⟨2, rfl, by omega, by omega, .inr ⟨by simp only; omega, fun j hj => ?_⟩⟩
        have := g1 (by omega)
        rcases (show j = 0 ∨ j = 1 by omega) with rfl | rfl
        · rw [Nat.add_zero]; omega
        · omega
      · exact ⟨1, rfl, by omega, by omega, .inr ⟨by simp only; omega, one (by omega)⟩⟩
    · split
      · split
        · refine ⟨3, rfl, by omega, by omega, .inr ⟨by simp only; omega, fun j hj => ?_⟩⟩
          have := g1 (by omega)
          have := g2 (by omega)
          rcases (show j = 0 ∨ j = 1 ∨ j = 2 by omega) with rfl | rfl | rfl
          · rw [Nat.add_zero]; omega
          · omega
          · omega
        · exact ⟨1, rfl, by omega, by omega, .inr ⟨by simp only; omega, one (by omega)⟩⟩
      · split
        · split
          · refine ⟨4, rfl, by omega, by omega, .inr ⟨by simp only; omega, fun j hj => ?_⟩⟩
            have := g1 (by omega)
            have := g2 (by omega)
            have := g3 (by omega)
            rcases (show j = 0 ∨ j = 1 ∨ j = 2 ∨ j = 3 by omega) with rfl | rfl | rfl | rfl
            · rw [Nat.add_zero]; omega
            · omega
            · omega
            · omega
          · exact ⟨1, rfl, by omega, by omega, .inr ⟨by simp only; omega, one (by omega)⟩⟩
        · exact ⟨1, rfl, by omega, by omega, .inr ⟨by simp only; omega, one (by omega)⟩⟩
theorem blank_big {c : Int} (h : 128 ≤ c) : blankB c = false := by
  unfold blankB
  simp only [Bool.or_eq_false_iff, beq_eq_false_iff_ne]
  omega
def stI : Option Nat → Int
  | none => -1
  | some a => (a : Int)
/-- One byte that is no blank. -/
theorem ref_one (s : ByteArray) (hs : s.size ≤ 300) (x3 : List ByteArray) (st : Option Nat) (i : Nat) (r : List ByteArray) (hi : i < s.size) (hb : blankB (bt s (i : Int)) = false)
    (h : Ev (fun k => lazarusref15_Words.l0 k s x3 (stI (some (st.getD i))) ((i + 1 : Nat) : Int)) r) : Ev (fun k => lazarusref15_Words.l0 k s x3 (stI st) (i : Int)) r := by
  have hr := bt_range s (i : Int)
  refine Ev.step (fun k => by rw [lazarusref15_Words.l0, if_pos (by omega), if_pos (by omega), if_pos (by omega), w32 hr.1 hr.2, blank_f, hb]) ?_
  simp only [Option.bind_some]
  refine Ev.step (fun k => by rw [lazarusref15_Words.j1, if_pos (by simp), w64 (by omega) (by omega), show (i : Int) + 1 = ((i + 1 : Nat) : Int) by omega]) ?_
  cases st with
  | none => exact Ev.congr (fun k => if_pos (by simp [stI])) h
  | some a => exact Ev.congr (fun k => if_neg (by simp only [stI]; omega)) h
/-- More of them, behind the first. -/
theorem ref_more (s : ByteArray) (hs : s.size ≤ 300) (x3 : List ByteArray) (a : Nat) (r : List ByteArray) : ∀ (m i : Nat), i + m ≤ s.size → (∀ j, j < m → blankB (bt s ((i + j : Nat) : Int)) = false) →
    Ev (fun k => lazarusref15_Words.l0 k s x3 (stI (some a)) ((i + m : Nat) : Int)) r → Ev (fun k => lazarusref15_Words.l0 k s x3 (stI (some a)) (i : Int)) r
  | 0, i, _, _, h => h
  | m + 1, i, hm, hb, h => by
    refine ref_one s hs x3 (some a) i r (by omega) (hb 0 (by omega)) ?_
    refine ref_more s hs x3 a r m (i + 1) (by omega) (fun j hj => ?_) (by rw [show i + 1 + m = i + (m + 1) by omega]; exact h)
    have := hb (j + 1) (by omega)
    rw [show i + 1 + j = i + (j + 1) by omega]
    exact this
theorem ref_blank (s : ByteArray) (hs : s.size ≤ 300) (x3 : List ByteArray) (st : Option Nat) (i : Nat) (r : List ByteArray) (hi : i ≤ s.size) (hx : x3.length ≤ 300) (hst : ∀ a, st = some a → a ≤ i) (hb : i < s.size → blankB (bt s (i : Int)) = true)
    (h : Ev (fun k => lazarusref15_Words.l0 k s (match st with | some a => x3 ++ [s.extract a i] | none => x3) (-1) ((i + 1 : Nat) : Int)) r) : Ev (fun k => lazarusref15_Words.l0 k s x3 (stI st) (i : Int)) r := by
  have hr := bt_range s (i : Int)
  have h1 : Ev (fun k => lazarusref15_Words.j1 k s x3 (stI st) (i : Int) false) r := by
    refine Ev.step (fun k => by rw [lazarusref15_Words.j1, if_neg (by simp), w64 (by omega) (by omega), show (i : Int) + 1 = ((i + 1 : Nat) : Int) by omega]) ?_
    cases st with
    | none => exact Ev.congr (fun k => if_neg (by simp [stI])) h
    | some a =>
      have := hst a rfl
      exact Ev.congr (fun k => by rw [show stI (some a) = (a : Int) from rfl, if_pos (by omega), if_pos (by omega), if_pos (by omega), if_pos (by omega), if_pos (by omega), show ((a : Int)).toNat = a by omega, show ((i : Int)).toNat = i by omega]) h
  by_cases hi2 : i < s.size
  · refine Ev.step (fun k => by rw [lazarusref15_Words.l0, if_pos (by omega), if_pos (by omega), if_pos (by omega), w32 hr.1 hr.2, blank_f, hb hi2]) ?_
    simp only [Option.bind_some]
    exact h1
  · exact Ev.step (fun k => by rw [lazarusref15_Words.l0, if_pos (by omega), if_neg (by omega)]) h1
theorem p_is (c : Nat) : split_Words.p c = blankB (c : Int) := rfl
def texts (s : ByteArray) (l : List (Nat × Nat)) : List ByteArray := l.map fun x => s.extract x.1 x.2
theorem sp_step (p : Nat → Bool) (s : ByteArray) (f pos : Nat) (st : Option Nat) (acc : List (Nat × Nat)) : Lib.spansFromP p s (f + 1) pos st acc =
    if pos < s.size then (if p (Utf8.decode s pos).1 = true then Lib.spansFromP p s f (pos + (Utf8.decode s pos).2) none (match st with | some a => acc ++ [(a, pos)] | none => acc) else Lib.spansFromP p s f (pos + (Utf8.decode s pos).2) (some (st.getD pos)) acc) else (acc, st) := by
  cases st <;> rfl
theorem getD_le (st : Option Nat) (pos q : Nat) (h : ∀ a, st = some a → a ≤ pos) (hq : pos ≤ q) : ∀ a, some (st.getD pos) = some a → a ≤ q := by
  intro a e
  cases e
  cases st with
  | none => exact hq
  | some b => have := h b rfl; simp only [Option.getD_some]; omega
theorem ref_words (s : ByteArray) (hs : s.size ≤ 300) : ∀ (f pos : Nat) (st : Option Nat) (acc : List (Nat × Nat)), s.size ≤ pos + f → pos ≤ s.size → acc.length ≤ pos → (∀ a, st = some a → a ≤ pos) →
    Ev (fun k => lazarusref15_Words.l0 k s (texts s acc) (stI st) (pos : Int)) (texts s (Lib.closeSpans s (Lib.spansFromP split_Words.p s f pos st acc)))
  | f, pos, st, acc, hf, hp, ha, hst => by
    by_cases hlt : pos < s.size
    · obtain ⟨f, rfl⟩ : ∃ f', f = f' + 1 := ⟨f - 1, by omega⟩
      obtain ⟨n, hn, hn1, hnp, hd⟩ := dec s pos hlt
      rw [sp_step, if_pos hlt, hn, p_is]
      rcases hd with ⟨rfl, hc⟩ | ⟨hbig, hall⟩
      · rw [hc]
        cases hb : blankB (bt s (pos : Int)) with
        | true =>
          rw [if_pos rfl]
          refine ref_blank s hs _ st pos _ hp (by simp [texts]; omega) hst (fun _ => hb) ?_
          cases st with
          | none => exact ref_words s hs f (pos + 1) none acc (by omega) (by omega) (by omega) (by simp)
          | some a =>
            have ih := ref_words s hs f (pos + 1) none (acc ++ [(a, pos)]) (by omega) (by omega) (by simp; omega) (by simp)
            have e : texts s (acc ++ [(a, pos)]) = texts s acc ++ [s.extract a pos] := by simp [texts]
            rw [e] at ih
            exact ih
        | false =>
          rw [if_neg (by simp)]
          refine ref_one s hs _ st pos _ hlt hb ?_
          exact ref_words s hs f (pos + 1) (some (st.getD pos)) acc (by omega) (by omega) (by omega) (getD_le st pos (pos + 1) hst (by omega))
      · rw [blank_big (by omega), if_neg (by simp)]
        refine ref_one s hs _ st pos _ hlt (blank_big (by have := hall 0 (by omega); simpa using this)) ?_
        refine ref_more s hs _ _ _ (n - 1) (pos + 1) (by omega) (fun j hj => blank_big (by have := hall (j + 1) (by omega); rw [show pos + 1 + j = pos + (j + 1) by omega]; exact this)) ?_
        rw [show pos + 1 + (n - 1) = pos + n by omega]
        exact ref_words s hs f (pos + n) (some (st.getD pos)) acc (by omega) (by omega) (by omega) (getD_le st pos (pos + n) hst (by omega))
    · rw [Lib.spansFromP_end _ _ _ _ _ _ hlt]
      refine ref_blank s hs _ st pos _ hp (by simp [texts]; omega) hst (fun h => absurd h hlt) ?_
      refine Ev.step (fun k => by rw [lazarusref15_Words.l0, if_neg (by omega)]) ?_
      have hpe : pos = s.size := by omega
      cases st with
      | none => exact Ev.now _
      | some a =>
        have e : texts s (acc ++ [(a, s.size)]) = texts s acc ++ [s.extract a pos] := by simp [texts, hpe]
        show Ev _ (texts s (acc ++ [(a, s.size)]))
        rw [e]
        exact Ev.now _
theorem words_ev (s : ByteArray) (hs : s.size ≤ 300) : ∃ r, split_Words.f s = some r ∧ Ev (fun k => lazarusref15_Words.f k s) r ∧ r.length < 4611686018427387904 := by
  have h := ref_words s hs s.size 0 none [] (by omega) (by omega) (by simp) (by simp)
  refine ⟨texts s (Lib.closeSpans s (Lib.spansFromP split_Words.p s s.size 0 none [])), ?_, h, ?_⟩
  · rw [split_Words.f, if_pos (by omega)]
    rfl
  · have : ∀ (f pos : Nat) (st : Option Nat) (acc : List (Nat × Nat)), (Lib.spansFromP split_Words.p s f pos st acc).1.length ≤ acc.length + f := by
      intro f
      induction f with
      | zero => intro pos st acc; simp [Lib.spansFromP]
      | succ f ih =>
        intro pos st acc
        rw [sp_step]
        split
        · split
          · cases st with
            | none => have := ih (pos + (Utf8.decode s pos).2) none acc; simp only; omega
            | some a => have := ih (pos + (Utf8.decode s pos).2) none (acc ++ [(a, pos)]); simp only [List.length_append, List.length_cons, List.length_nil] at this ⊢; omega
          · have := ih (pos + (Utf8.decode s pos).2) (some (st.getD pos)) acc; omega
        · simp only; omega
    have h1 := this s.size 0 none []
    generalize Lib.spansFromP split_Words.p s s.size 0 none [] = x at h1
    obtain ⟨l, st⟩ := x
    have : (Lib.closeSpans s (l, st)).length ≤ l.length + 1 := by
      cases st <;> simp [Lib.closeSpans]
    simp only [texts, List.length_map]
    simp only [List.length_nil] at h1
    omega
theorem texts_ev (l : List ByteArray) (hl : l.length < 4611686018427387904) : ∀ (d : Nat) (x5 : Int), 0 ≤ x5 → x5 + d = l.length → Ev (fun k => lazarusref14_Texts.l0 k l l x5) true
  | 0, x5, h0, hd => Ev.step (fun k => by rw [lazarusref14_Texts.l0, if_neg (by omega)]) (Ev.now _)
  | d + 1, x5, h0, hd => Ev.step (fun k => by rw [lazarusref14_Texts.l0, if_pos (by omega), if_pos h0, if_pos (by omega), if_pos rfl, w64 (by omega) (by omega)]) (texts_ev l hl d (x5 + 1) (by omega) (by omega))
theorem known_at : lazaruslaw15_known.f 60 = some true := by decide +kernel
theorem known_ev : Ev (fun k => lazaruslaw15_known.f k) true := Ev.of lazaruslaw15_known.mono known_at
theorem SplitLines : ∀ (a0 : ByteArray), a0.size ≤ 140737488351232 → ∃ k, lazaruslaw15_SplitLines.f k a0 = some true := by
  intro s _
  by_cases hs : (s.size : Int) > 300
  · exact ⟨0, by rw [lazaruslaw15_SplitLines.f, if_pos hs]⟩
  obtain ⟨r, hr, hr2⟩ := lines_ev s (by omega)
  obtain ⟨t, ht, ht2, htl⟩ := words_ev s (by omega)
  refine Ev.rounds (g := fun k => lazaruslaw15_SplitLines.f k s) (Ev.congr (fun k => by rw [lazaruslaw15_SplitLines.f, if_neg hs, hr]) ?_)
  simp only [Option.bind_some]
  refine Ev.bind hr2 ?_
  refine Ev.congr (fun k => by rw [if_pos rfl, if_pos rfl, if_pos (by simp), ht]) ?_
  simp only [Option.bind_some]
  refine Ev.bind ht2 ?_
  refine Ev.bind (a := true) (Ev.congr (fun k => by rw [lazarusref14_Texts.f, if_pos rfl]) (texts_ev t htl t.length 0 (by omega) (by omega))) ?_
  refine Ev.congr (fun k => if_pos rfl) ?_
  exact Ev.bind known_ev (Ev.now _)

end Go.Proofs.Ytnhmfeihnjdcpaa.Pure
