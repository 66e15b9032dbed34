/- A star at an end is any end, at a beginning any beginning: the printed law answers true. No conditions beyond the laid tables of the library. -/
import Derived.Test.YtnhmfeihnjdcpaaDoorQGlobStarx5
import Derived.Lib.RuneCountTail
namespace Go.Proofs.YtnhmfeihnjdcpaaDoor.Pure
open Go.RowKit Go.Proofs.YtnhmfeihnjdcpaaDoor.QGlobStar Go.Proofs.YtnhmfeihnjdcpaaDoorW.PrintWords Go.Proofs.YtnhmfeihnjdcpaaDoorW.PrintLast
set_option linter.unusedVariables false

theorem w64 {x : Int} (h₀ : -9223372036854775808 ≤ x) (h₁ : x < 9223372036854775808) : wrap64 x = x := by unfold wrap64; omega
theorem dec_go (s : ByteArray) (pos : Nat) (h : pos < s.size) : Lib.decodeGo (s.extract pos s.size) = Utf8.decode s pos := by
  rw [Lib.decodeGo, if_neg (by rw [Lib.tail_size]; omega), Lib.tail_decode, Nat.add_zero]
theorem dec_f (s : ByteArray) (pos : Nat) (h : pos < s.size) : utf8_DecodeRuneInString.f (s.extract pos s.size) = some (((Utf8.decode s pos).1 : Int), ((Utf8.decode s pos).2 : Int)) := by
  rw [utf8_DecodeRuneInString.f, dec_go s pos h]
theorem width_le (s : ByteArray) (pos : Nat) (h : pos < s.size) : pos + (Utf8.decode s pos).2 ≤ s.size := by
  rw [Lib.decode_at]
  unfold Lib.decodeN
  repeat' split
  all_goals (simp only; omega)
theorem cut_cut (s : ByteArray) (pos n : Nat) (h : pos + n ≤ s.size) : (s.extract pos s.size).extract n (s.extract pos s.size).size = s.extract (pos + n) s.size := by
  rw [Lib.tail_size, Lib.extract_eq, Lib.extract_eq, Lib.extract_eq]
  congr 2
  have e : s.size = s.data.toList.length := Lib.size_eq s
  rw [List.take_of_length_le (by simp), List.take_of_length_le (by simp), List.take_of_length_le (by simp)]
  simp
theorem cut_all (s : ByteArray) : s.extract 0 s.size = s := by
  rw [Lib.extract_eq]
  have e : s.size = s.data.toList.length := Lib.size_eq s
  rw [List.drop_zero, Nat.sub_zero, List.take_of_length_le (by omega)]
theorem lettersD (s : ByteArray) (hs : s.size < 17592186044416) : glyph_Runes.f s = some (Kd.letters s) := by rw [glyph_Runes.f, if_pos hs]

def glyph_Valid.go (s : ByteArray) : Nat → Nat → Int × Bool
  | 0, _ => ((s.size : Int), true)
  | d + 1, pos => if pos < s.size then (if (Utf8.decode s pos).1 = 0 then ((pos : Int), false) else if (Utf8.decode s pos).1 = 65533 ∧ (Lib.decodeGo (s.extract pos s.size)).2 = 1 then ((pos : Int), false) else glyph_Valid.go s d (pos + (Utf8.decode s pos).2)) else ((s.size : Int), true)
theorem glyph_Valid.go_end (s : ByteArray) (d pos : Nat) (h : ¬ pos < s.size) : glyph_Valid.go s d pos = ((s.size : Int), true) := by
  cases d with
  | zero => rfl
  | succ d => rw [glyph_Valid.go, if_neg h]
theorem glyph_Valid.go_more (s : ByteArray) : ∀ (d d' pos : Nat), s.size ≤ pos + d → s.size ≤ pos + d' → glyph_Valid.go s d pos = glyph_Valid.go s d' pos
  | 0, d', pos, h, _ => by rw [glyph_Valid.go_end s _ pos (by omega), glyph_Valid.go_end s _ pos (by omega)]
  | d + 1, 0, pos, _, h => by rw [glyph_Valid.go_end s _ pos (by omega), glyph_Valid.go_end s _ pos (by omega)]
  | d + 1, d' + 1, pos, h, h' => by
    rw [glyph_Valid.go, glyph_Valid.go]
    by_cases hp : pos < s.size
    · have := Kd.width_pos s pos hp
      rw [if_pos hp, if_pos hp, glyph_Valid.go_more s d d' _ (by omega) (by omega)]
    · rw [if_neg hp, if_neg hp]
theorem glyph_Valid.go_at (s : ByteArray) (pos : Nat) (h : pos < s.size) : glyph_Valid.go s (s.size - pos) pos = if (Utf8.decode s pos).1 = 0 then ((pos : Int), false) else if (Utf8.decode s pos).1 = 65533 ∧ (Lib.decodeGo (s.extract pos s.size)).2 = 1 then ((pos : Int), false) else glyph_Valid.go s (s.size - (pos + (Utf8.decode s pos).2)) (pos + (Utf8.decode s pos).2) := by
  obtain ⟨d, hd⟩ : ∃ d, s.size - pos = d + 1 := ⟨s.size - pos - 1, by omega⟩
  have := Kd.width_pos s pos h
  rw [hd, glyph_Valid.go, if_pos h, glyph_Valid.go_more s d (s.size - (pos + (Utf8.decode s pos).2)) _ (by omega) (by omega)]

def charsOf (q : Bool) (l : List Int) : List S57 := l.map (fun c => (⟨c, q⟩ : S57))
theorem letters_le (s : ByteArray) : (Kd.letters s).length ≤ s.size := Kd.letN_len s s.size 0

theorem ref_valid (s : ByteArray) (hs : s.size ≤ 140737488351232) : ∀ (d pos : Nat), s.size - pos ≤ d → pos ≤ s.size → Ev (fun k => lazarusref7_Valid.l0 k s (pos : Int)) (glyph_Valid.go s (s.size - pos) pos)
  | d, pos, hd, hp => by
    by_cases hlt : pos < s.size
    · obtain ⟨d, rfl⟩ : ∃ d', d = d' + 1 := ⟨d - 1, by omega⟩
      have hw := width_le s pos hlt
      have hw1 := Kd.width_pos s pos hlt
      have ih := ref_valid s hs d (pos + (Utf8.decode s pos).2) (by omega) hw
      refine Ev.step (fun k => by rw [lazarusref7_Valid.l0, if_pos (by omega), if_pos (by omega), if_pos (by omega), show ((pos : Int)).toNat = pos by omega, dec_f s pos hlt]) ?_
      simp only [Option.bind_some]
      rw [glyph_Valid.go_at s pos hlt, dec_go s pos hlt]
      by_cases h0 : (Utf8.decode s pos).1 = 0
      · rw [if_pos h0]
        exact Ev.congr (fun k => if_pos (by omega)) (Ev.now _)
      rw [if_neg h0]
      refine Ev.congr (fun k => if_neg (by omega)) ?_
      have e : wrap64 ((pos : Int) + ((Utf8.decode s pos).2 : Int)) = ((pos + (Utf8.decode s pos).2 : Nat) : Int) := by rw [w64 (by omega) (by omega)]; omega
      by_cases h1 : (Utf8.decode s pos).1 = 65533
      · refine Ev.congr (fun k => if_pos (by omega)) ?_
        by_cases h2 : (Utf8.decode s pos).2 = 1
        · rw [if_pos ⟨h1, h2⟩]
          exact Ev.congr (fun k => if_pos (by omega)) (Ev.now _)
        · rw [if_neg (fun h => h2 h.2)]
          exact Ev.congr (fun k => by rw [if_neg (by omega), e]) ih
      · rw [if_neg (fun h => h1 h.1)]
        exact Ev.congr (fun k => by rw [if_neg (by omega), e]) ih
    · rw [glyph_Valid.go_end s _ _ hlt]
      exact Ev.step (fun k => by rw [lazarusref7_Valid.l0, if_neg (by omega)]) (Ev.now _)
theorem ref_valid_f (s : ByteArray) (hs : s.size ≤ 140737488351232) : Ev (fun k => lazarusref7_Valid.f k s) (glyph_Valid.go s s.size 0) := ref_valid s hs s.size 0 (by omega) (by omega)
theorem ref_valid_any (s : ByteArray) (hs : s.size ≤ 140737488351232) : ∃ r, Ev (fun k => lazarusref7_Valid.f k s) r := ⟨_, ref_valid_f s hs⟩

/-- What is decoded well leans on its own bytes alone. -/
theorem decodeN_local {n n' b0 b1 b2 b3 c1 c2 c3 : Nat} (hn : n ≤ n') (h1 : 1 < n → c1 = b1) (h2 : 2 < n → c2 = b2) (h3 : 3 < n → c3 = b3) (h : ¬ ((Lib.decodeN n b0 b1 b2 b3).1 = 65533 ∧ (Lib.decodeN n b0 b1 b2 b3).2 = 1)) :
    Lib.decodeN n' b0 c1 c2 c3 = Lib.decodeN n b0 b1 b2 b3 := by
  unfold Lib.decodeN at h ⊢
  by_cases k0 : b0 < 128
  · rw [if_pos k0, if_pos k0]
  rw [if_neg k0] at h ⊢
  rw [if_neg k0]
  by_cases k1 : b0 / 32 = 6 ∧ (1 < n ∧ b1 / 64 = 2)
  · have e1 := h1 k1.2.1
    subst e1
    rw [if_pos k1, if_pos ⟨k1.1, by omega, k1.2.2⟩]
  rw [if_neg k1] at h ⊢
  by_cases k2 : b0 / 16 = 14 ∧ (1 < n ∧ b1 / 64 = 2) ∧ (2 < n ∧ b2 / 64 = 2)
  · have e1 := h1 k2.2.1.1
    have e2 := h2 k2.2.2.1
    subst e1 e2
    rw [if_pos k2, if_neg (by omega), if_pos ⟨k2.1, ⟨by omega, k2.2.1.2⟩, by omega, k2.2.2.2⟩]
  rw [if_neg k2] at h ⊢
  by_cases k3 : b0 / 8 = 30 ∧ (1 < n ∧ b1 / 64 = 2) ∧ (2 < n ∧ b2 / 64 = 2) ∧ (3 < n ∧ b3 / 64 = 2)
  · have e1 := h1 k3.2.1.1
    have e2 := h2 k3.2.2.1.1
    have e3 := h3 k3.2.2.2.1
    subst e1 e2 e3
    rw [if_pos k3, if_neg (by omega), if_neg (by omega), if_pos ⟨k3.1, ⟨by omega, k3.2.1.2⟩, ⟨by omega, k3.2.2.1.2⟩, by omega, k3.2.2.2.2⟩]
  · rw [if_neg k3] at h
    exact absurd ⟨rfl, rfl⟩ h
theorem get_left (a b : ByteArray) (i : Nat) (h : i < a.size) : (a ++ b).get! i = a.get! i := by
  have e1 := Lib.getD_get!' (a ++ b) i
  have e2 := Lib.getD_get!' a i
  rw [← e1, ← e2]
  have hl : i < a.data.toList.length := by rw [← Lib.size_eq]; exact h
  rw [show (a ++ b).data.toList = a.data.toList ++ b.data.toList by simp [ByteArray.data_append]]
  rw [List.getD_eq_getElem?_getD, List.getD_eq_getElem?_getD, List.getElem?_append_left hl]
theorem decode_left (a b : ByteArray) (pos : Nat) (h : pos < a.size) (hv : ¬ ((Utf8.decode a pos).1 = 65533 ∧ (Utf8.decode a pos).2 = 1)) : Utf8.decode (a ++ b) pos = Utf8.decode a pos := by
  rw [Lib.decode_at] at hv
  rw [Lib.decode_at, Lib.decode_at, get_left a b pos h]
  exact decodeN_local (by rw [ByteArray.size_append]; omega) (fun h1 => by rw [get_left a b _ (by omega)]) (fun h1 => by rw [get_left a b _ (by omega)]) (fun h1 => by rw [get_left a b _ (by omega)]) hv
theorem cut_right (a b : ByteArray) : (a ++ b).extract a.size (a ++ b).size = b := by
  rw [Lib.extract_eq, ByteArray.size_append]
  have e : (a ++ b).data.toList = a.data.toList ++ b.data.toList := by simp [ByteArray.data_append]
  have ea := Lib.size_eq a
  have eb := Lib.size_eq b
  rw [e, ea, List.drop_left, List.take_of_length_le (by omega)]
theorem decode_right (a b : ByteArray) (pos : Nat) : Utf8.decode (a ++ b) (a.size + pos) = Utf8.decode b pos := by
  have := Lib.tail_decode (a ++ b) a.size pos
  rw [cut_right] at this
  exact this.symm
/-- A text that is one: so is what it is the beginning of, as far as it goes. -/
theorem left_go (a b : ByteArray) : ∀ (d pos : Nat), a.size - pos ≤ d → pos ≤ a.size → (glyph_Valid.go a (a.size - pos) pos).2 = true →
    glyph_Valid.go (a ++ b) ((a ++ b).size - pos) pos = glyph_Valid.go (a ++ b) ((a ++ b).size - a.size) a.size ∧ Kd.letN (a ++ b) ((a ++ b).size - pos) pos = Kd.letN a (a.size - pos) pos ++ Kd.letN (a ++ b) ((a ++ b).size - a.size) a.size
  | d, pos, hd, hp, hv => by
    have hs := @ByteArray.size_append a b
    by_cases hlt : pos < a.size
    · obtain ⟨d, rfl⟩ : ∃ d', d = d' + 1 := ⟨d - 1, by omega⟩
      have hw := width_le a pos hlt
      have hw1 := Kd.width_pos a pos hlt
      rw [glyph_Valid.go_at a pos hlt, dec_go a pos hlt] at hv
      by_cases h0 : (Utf8.decode a pos).1 = 0
      · rw [if_pos h0] at hv
        cases hv
      rw [if_neg h0] at hv
      by_cases h1 : (Utf8.decode a pos).1 = 65533 ∧ (Utf8.decode a pos).2 = 1
      · rw [if_pos h1] at hv
        cases hv
      rw [if_neg h1] at hv
      have ih := left_go a b d (pos + (Utf8.decode a pos).2) (by omega) hw hv
      have hdl := decode_left a b pos hlt h1
      rw [glyph_Valid.go_at (a ++ b) pos (by omega), dec_go (a ++ b) pos (by omega), hdl, if_neg h0, if_neg h1, Kd.letN_at (a ++ b) pos (by omega), hdl, Kd.letN_at a pos hlt]
      exact ⟨ih.1, by rw [ih.2]; rfl⟩
    · obtain rfl : pos = a.size := by omega
      rw [Kd.letN_end a _ _ hlt]
      exact ⟨rfl, rfl⟩
theorem right_go (a b : ByteArray) : ∀ (d pos : Nat), b.size - pos ≤ d → pos ≤ b.size →
    ((glyph_Valid.go b (b.size - pos) pos).2 = true → glyph_Valid.go (a ++ b) ((a ++ b).size - (a.size + pos)) (a.size + pos) = (((a ++ b).size : Int), true)) ∧ Kd.letN (a ++ b) ((a ++ b).size - (a.size + pos)) (a.size + pos) = Kd.letN b (b.size - pos) pos
  | d, pos, hd, hp => by
    have hs := @ByteArray.size_append a b
    by_cases hlt : pos < b.size
    · obtain ⟨d, rfl⟩ : ∃ d', d = d' + 1 := ⟨d - 1, by omega⟩
      have hw := width_le b pos hlt
      have hw1 := Kd.width_pos b pos hlt
      have ih := right_go a b d (pos + (Utf8.decode b pos).2) (by omega) hw
      have hdr := decode_right a b pos
      refine ⟨fun hv => ?_, ?_⟩
      · rw [glyph_Valid.go_at b pos hlt, dec_go b pos hlt] at hv
        by_cases h0 : (Utf8.decode b pos).1 = 0
        · rw [if_pos h0] at hv
          cases hv
        rw [if_neg h0] at hv
        by_cases h1 : (Utf8.decode b pos).1 = 65533 ∧ (Utf8.decode b pos).2 = 1
        · rw [if_pos h1] at hv
          cases hv
        rw [if_neg h1] at hv
        rw [glyph_Valid.go_at (a ++ b) _ (by omega), dec_go (a ++ b) _ (by omega), hdr, if_neg h0, if_neg h1, Nat.add_assoc]
        exact ih.1 hv
      · rw [Kd.letN_at (a ++ b) _ (by omega), hdr, Kd.letN_at b pos hlt, Nat.add_assoc, ih.2]
    · refine ⟨fun _ => glyph_Valid.go_end _ _ _ (by omega), ?_⟩
      rw [Kd.letN_end _ _ _ (by omega), Kd.letN_end _ _ _ hlt]
/-- The letters of two texts, where the first is one. -/
theorem letters_append (a b : ByteArray) (ha : (glyph_Valid.go a a.size 0).2 = true) : Kd.letters (a ++ b) = Kd.letters a ++ Kd.letters b := by
  have h1 := (left_go a b a.size 0 (by omega) (by omega) (by rw [Nat.sub_zero]; exact ha)).2
  have h2 := (right_go a b b.size 0 (by omega) (by omega)).2
  simp only [Nat.sub_zero, Nat.add_zero] at h1 h2
  unfold Kd.letters
  rw [h1, h2]
theorem valid_append (a b : ByteArray) (ha : (glyph_Valid.go a a.size 0).2 = true) (hb : (glyph_Valid.go b b.size 0).2 = true) : glyph_Valid.go (a ++ b) (a ++ b).size 0 = (((a ++ b).size : Int), true) := by
  have h1 := (left_go a b a.size 0 (by omega) (by omega) (by rw [Nat.sub_zero]; exact ha)).1
  have h2 := (right_go a b b.size 0 (by omega) (by omega)).1 (by rw [Nat.sub_zero]; exact hb)
  simp only [Nat.sub_zero, Nat.add_zero] at h1 h2
  rw [h1, h2]

/-! What a pattern matches: after so many pieces, how many letters may be gone by. -/
def fitsB (p : S63) (c : Int) : Bool := p.f2.any (glob_piece_fits.p c) != p.f1
def manyR (R : Nat → Bool) : Nat → Bool
  | 0 => R 0
  | i + 1 => R (i + 1) || manyR R i
def stepR (text : List Int) (R : Nat → Bool) (p : S63) : Nat → Bool
  | 0 => if p.f0 = true then R 0 else false
  | i + 1 => if p.f0 = true then manyR R (i + 1) else (R i && fitsB p (text.getD i 0))
def row (R : Nat → Bool) (n : Nat) : List Bool := (List.range (n + 1)).map R
theorem row_len (R : Nat → Bool) (n : Nat) : (row R n).length = n + 1 := by simp [row]
theorem row_at (R : Nat → Bool) (n i : Nat) (h : i ≤ n) : rdOf false (row R n) (i : Int) = R i := by
  unfold rdOf row
  simp [List.getD_eq_getElem?_getD, List.getElem?_map, List.getElem?_range (show i < n + 1 by omega)]
/-- A row that is filled up to a place. -/
def part (R : Nat → Bool) (n i : Nat) : List Bool := (List.range (n + 1)).map fun j => decide (j < i) && R j
theorem part_len (R : Nat → Bool) (n i : Nat) : (part R n i).length = n + 1 := by simp [part]
theorem part_at (R : Nat → Bool) (n i j : Nat) (h : j ≤ n) (hj : j < i) : rdOf false (part R n i) (j : Int) = R j := by
  unfold rdOf part
  simp [List.getD_eq_getElem?_getD, List.getElem?_map, List.getElem?_range (show j < n + 1 by omega), hj]
theorem part_set (R : Nat → Bool) (n i : Nat) (b : Bool) (hb : b = R i) : (part R n i).set i b = part R n (i + 1) := by
  subst hb
  apply List.ext_getElem
  · simp [part]
  · intro j h1 h2
    rw [List.getElem_set]
    simp only [part, List.getElem_map, List.getElem_range]
    by_cases hij : i = j
    · subst hij
      simp
    · rw [if_neg hij]
      have : decide (j < i) = decide (j < i + 1) := by
        apply decide_eq_decide.2
        omega
      rw [this]
theorem part_full (R : Nat → Bool) (n : Nat) : part R n (n + 1) = row R n := by
  apply List.map_congr_left
  intro j hj
  rw [List.mem_range] at hj
  simp [hj]
theorem part_zero (R : Nat → Bool) (n : Nat) : part R n 0 = List.replicate (n + 1) false := by
  rw [part, List.eq_replicate_iff]
  exact ⟨by simp, fun b hb => by obtain ⟨j, _, rfl⟩ := List.mem_map.1 hb; simp⟩
theorem part_idle (R : Nat → Bool) (n : Nat) (h : R 0 = false) : part R n 0 = part R n 1 := by
  apply List.map_congr_left
  intro j _
  cases j with
  | zero => simp [h]
  | succ j => simp
theorem rd_i (text : List Int) (i : Nat) : rd text (i : Int) = text.getD i 0 := by rw [rd]; rfl
/-- The inner loop: one piece. -/
theorem match_l1 (text : List Int) (hn : text.length ≤ 1000) (R : Nat → Bool) (ps : List S63) (np x22 : Int) (p : S63) (r : Bool)
    (hk : Ev (fun k => glob_Match.l0 k text (row (stepR text R p) text.length) ps np (wrap64 (x22 + 1))) r) : ∀ (d i : Nat), i + d = text.length + 1 →
    Ev (fun k => glob_Match.l1 k text (row R text.length) (part (stepR text R p) text.length i) ps np x22 ((text.length + 1 : Nat) : Int) (i : Int) p.f0 p.f1 p.f2) r
  | 0, i, hd => by
    obtain rfl : i = text.length + 1 := by omega
    rw [part_full]
    exact Ev.step (fun k => by rw [glob_Match.l1, if_neg (by omega)]) hk
  | d + 1, i, hd => by
    have ih := match_l1 text hn R ps np x22 p r hk d (i + 1) (by omega)
    have hl := part_len (stepR text R p) text.length i
    have hr := row_len R text.length
    have ew : wrap64 ((i : Int) + 1) = ((i + 1 : Nat) : Int) := by rw [w64 (by omega) (by omega)]; omega
    have ei : ((i : Int)).toNat = i := by omega
    refine Ev.step (fun k => by rw [glob_Match.l1, if_pos (by omega)]) ?_
    cases hm : p.f0 with
    | true =>
      refine Ev.congr (fun k => by rw [if_pos rfl, if_pos (by omega), if_pos (by omega), row_at R _ i (by omega)]) ?_
      cases hR : R i with
      | true =>
        refine Ev.congr (fun k => by rw [if_pos rfl, if_pos (by omega), ei, part_set _ _ i true (by cases i with | zero => simp [stepR, hm, hR] | succ i => simp [stepR, hm, hR, manyR]), ew]) ?_
        rw [hm] at ih
        exact ih
      | false =>
        refine Ev.congr (fun k => if_neg (by simp)) ?_
        cases i with
        | zero =>
          refine Ev.congr (fun k => by rw [if_neg (by omega), if_pos (by omega), ei, part_set _ _ 0 false (by simp [stepR, hm, hR]), ew]) ?_
          rw [hm] at ih
          exact ih
        | succ i =>
          have e1 : wrap64 (((i + 1 : Nat) : Int) - 1) = (i : Int) := by rw [w64 (by omega) (by omega)]; omega
          have e2 : stepR text R p i = manyR R i := by cases i with | zero => simp [stepR, hm, manyR] | succ i => simp [stepR, hm]
          refine Ev.congr (fun k => by rw [if_pos (by omega), e1, if_pos (by omega), if_pos (by omega), if_pos (by omega), ei, part_at _ _ _ i (by omega) (by omega), part_set _ _ (i + 1) _ (by rw [e2]; simp [stepR, hm, hR, manyR]), ew]) ?_
          rw [hm] at ih
          exact ih
    | false =>
      refine Ev.congr (fun k => if_neg (by simp)) ?_
      cases i with
      | zero =>
        rw [part_idle _ _ (by simp [stepR, hm])]
        refine Ev.congr (fun k => by rw [if_neg (by omega), ew]) ?_
        rw [hm] at ih
        exact ih
      | succ i =>
        have e1 : wrap64 (((i + 1 : Nat) : Int) - 1) = (i : Int) := by rw [w64 (by omega) (by omega)]; omega
        refine Ev.congr (fun k => by rw [if_pos (by omega), e1, if_pos (by omega), if_pos (by omega), row_at R _ i (by omega)]) ?_
        cases hR : R i with
        | true =>
          refine Ev.congr (fun k => by rw [if_pos rfl, if_pos (by omega), glob_piece_fits.f, rd_i]) ?_
          simp only [Option.bind_some]
          refine Ev.congr (fun k => by rw [if_pos (by omega), if_pos (by omega), ei, part_set _ _ (i + 1) _ (by simp [stepR, hm, hR, fitsB]), ew]) ?_
          rw [hm] at ih
          exact ih
        | false =>
          refine Ev.congr (fun k => by rw [if_neg (by simp), if_pos (by omega), if_pos (by omega), ei, part_set _ _ (i + 1) false (by simp [stepR, hm, hR]), ew]) ?_
          rw [hm] at ih
          exact ih
theorem match_l0 (text : List Int) (hn : text.length ≤ 1000) (ps : List S63) (hps : ps.length ≤ 1000) : ∀ (d j : Nat) (R : Nat → Bool), j + d = ps.length →
    Ev (fun k => glob_Match.l0 k text (row R text.length) ps (ps.length : Int) (j : Int)) ((ps.drop j).foldl (stepR text) R text.length)
  | 0, j, R, hd => by
    have hr := row_len R text.length
    rw [List.drop_of_length_le (by omega)]
    exact Ev.step (fun k => by rw [glob_Match.l0, if_neg (by omega), if_pos (by omega), if_pos (by omega), row_at R _ _ (Nat.le_refl _)]; rfl) (Ev.now _)
  | d + 1, j, R, hd => by
    have hj : j < ps.length := by omega
    have er : rd_T63 ps (j : Int) = ps[j] := by unfold rd_T63; simp [List.getD_eq_getElem?_getD, hj]
    have ih := match_l0 text hn ps hps d (j + 1) (stepR text R ps[j]) (by omega)
    have hr := row_len R text.length
    have e1 : wrap64 ((text.length : Int) + 1) = ((text.length + 1 : Nat) : Int) := by rw [w64 (by omega) (by omega)]; omega
    rw [List.drop_eq_getElem_cons hj, List.foldl_cons]
    refine Ev.step (fun k => by rw [glob_Match.l0, if_pos (by omega), if_pos (by omega), if_pos (by omega), e1, if_pos (by omega), if_pos (by omega), er]) ?_
    simp only [Option.bind_some]
    have h1 := match_l1 text hn R ps (ps.length : Int) (j : Int) ps[j] _ (by rw [w64 (by omega) (by omega), show (j : Int) + 1 = ((j + 1 : Nat) : Int) by omega]; exact ih) (text.length + 1) 0 (by omega)
    rw [part_zero] at h1
    refine Ev.congr (fun k => ?_) h1
    rw [show (((text.length + 1 : Nat) : Int)).toNat = text.length + 1 by omega, List.length_replicate]
    rfl
def start : Nat → Bool := fun i => i == 0
theorem row_start (n : Nat) : (List.replicate (n + 1) false).set 0 true = row start n := by
  apply List.ext_getElem
  · simp [row]
  · intro j h1 h2
    rw [List.getElem_set]
    simp only [row, List.getElem_map, List.getElem_range, List.getElem_replicate, start]
    by_cases h : 0 = j
    · subst h; simp
    · rw [if_neg h]
      symm
      rw [beq_eq_false_iff_ne]
      omega
theorem match_f (p : List S57) (s : ByteArray) (k : Nat) (hs : s.size ≤ 1000) : glob_Match.f k p s = (glob_pieces.f k p).bind fun ps => glob_Match.l0 k (Kd.letters s) (row start (Kd.letters s).length) ps (ps.length : Int) 0 := by
  have hl := letters_le s
  unfold glob_Match.f
  rw [lettersD s (by omega)]
  generalize Kd.letters s = L at hl ⊢
  rw [Option.bind_some]
  have e1 : wrap64 ((L.length : Int) + 1) = ((L.length + 1 : Nat) : Int) := by rw [w64 (by omega) (by omega)]; omega
  have e2 : (((L.length + 1 : Nat) : Int)).toNat = L.length + 1 := by omega
  have e3 : L.length + 1 ≤ 281474976710656 := by omega
  have e4 : (0 : Int) ≤ ((L.length + 1 : Nat) : Int) := by omega
  have e5 : (0 : Int) < (((List.replicate (L.length + 1) false).length : Nat) : Int) := by rw [List.length_replicate]; omega
  rw [e1, e2, if_pos e4, if_pos e3, Option.bind_some, if_pos e5, show (0 : Int).toNat = 0 from rfl, row_start]
/-- The whole of Match, where the pieces are known. -/
theorem match_ev (p : List S57) (s : ByteArray) (ps : List S63) (hs : s.size ≤ 1000) (hps : ps.length ≤ 1000) (hp : Ev (fun k => glob_pieces.f k p) ps) : Ev (fun k => glob_Match.f k p s) (ps.foldl (stepR (Kd.letters s)) start (Kd.letters s).length) := by
  have hl := letters_le s
  refine Ev.congr (fun k => match_f p s k hs) (Ev.bind hp ?_)
  exact match_l0 (Kd.letters s) (by omega) ps hps ps.length 0 start (by omega)
/-! The pieces of quoted letters, of a star, of a question mark. -/
def lit (c : Int) : S63 := ⟨false, false, [(⟨c, c⟩ : S76)]⟩
def pieceOf (x : S57) : S63 := if x.f1 = true then lit x.f0 else if x.f0 = 42 then ⟨true, false, []⟩ else if x.f0 = 63 then ⟨false, true, []⟩ else lit x.f0
theorem pieces_l0 (p : List S57) (hp : p.length ≤ 1000) (hb : ∀ x ∈ p, x.f1 = true ∨ x.f0 ≠ 91) : ∀ (d x4 : Nat), x4 + d = p.length → Ev (fun k => glob_pieces.l0 k p ((p.take x4).map pieceOf) (x4 : Int)) (p.map pieceOf)
  | 0, x4, hd => by
    rw [List.take_of_length_le (by omega)]
    exact Ev.step (fun k => by rw [glob_pieces.l0, if_neg (by omega)]) (Ev.now _)
  | d + 1, x4, hd => by
    have hj : x4 < p.length := by omega
    have er : rd_T57 p (x4 : Int) = p[x4] := by unfold rd_T57; simp [List.getD_eq_getElem?_getD, hj]
    have hm := hb _ (List.getElem_mem hj)
    have ih := pieces_l0 p hp hb d (x4 + 1) (by omega)
    have hc : ((p.take x4).map pieceOf).length ≤ 1000 := by rw [List.length_map, List.length_take]; omega
    have ew : wrap64 ((x4 : Int) + 1) = ((x4 + 1 : Nat) : Int) := by rw [w64 (by omega) (by omega)]; omega
    rw [List.take_succ_eq_append_getElem hj, List.map_append] at ih
    refine Ev.step (fun k => by rw [glob_pieces.l0, if_pos (by omega), if_pos (by omega), er]) ?_
    obtain ⟨⟨c, q⟩, hx⟩ : ∃ x, p[x4] = x := ⟨_, rfl⟩
    rw [hx] at ih hm ⊢
    cases q with
    | true =>
      have e : ([(⟨c, true⟩ : S57)].map pieceOf) = [lit c] := rfl
      rw [e] at ih
      have i1 : ∀ v, glob_is.f c true v = some false := fun v => by rw [glob_is.f, if_pos rfl]
      refine Ev.congr (fun k => by rw [i1, i1, i1]) ?_
      simp only [Option.bind_some]
      exact Ev.congr (fun k => by rw [if_neg (by simp), if_neg (by simp), if_neg (by simp), if_pos (by omega), ew]; rfl) ih
    | false =>
      have hc91 : (c == 91) = false := beq_eq_false_iff_ne.2 (hm.resolve_left (by simp))
      have i1 : ∀ v, glob_is.f c false v = some (c == v) := fun v => by rw [glob_is.f, if_neg (by simp)]
      refine Ev.congr (fun k => by rw [i1, i1, i1]) ?_
      simp only [Option.bind_some]
      by_cases h42 : c = 42
      · have e : ([(⟨c, false⟩ : S57)].map pieceOf) = [(⟨true, false, []⟩ : S63)] := by simp [pieceOf, h42]
        rw [e] at ih
        exact Ev.congr (fun k => by rw [if_pos (by simpa using h42), if_pos (by omega), ew]) ih
      · refine Ev.congr (fun k => if_neg (by simpa using h42)) ?_
        by_cases h63 : c = 63
        · have e : ([(⟨c, false⟩ : S57)].map pieceOf) = [(⟨false, true, []⟩ : S63)] := by simp [pieceOf, h63]
          rw [e] at ih
          exact Ev.congr (fun k => by rw [if_pos (by simpa using h63), if_pos (by omega), ew]) ih
        · have e : ([(⟨c, false⟩ : S57)].map pieceOf) = [lit c] := by simp [pieceOf, h42, h63]
          rw [e] at ih
          exact Ev.congr (fun k => by rw [if_neg (by simpa using h63), hc91, if_neg (by simp), if_pos (by omega), ew]; rfl) ih
theorem pieces_ev (p : List S57) (hp : p.length ≤ 1000) (hb : ∀ x ∈ p, x.f1 = true ∨ x.f0 ≠ 91) : Ev (fun k => glob_pieces.f k p) (p.map pieceOf) := pieces_l0 p hp hb p.length 0 (by omega)
theorem pieces_lits (l : List Int) : (charsOf true l).map pieceOf = l.map lit := by
  unfold charsOf
  rw [List.map_map]
  exact List.map_congr_left (fun c _ => rfl)
theorem fits_lit (c d : Int) : fitsB (lit c) d = (c == d) := by
  unfold fitsB lit glob_piece_fits.p
  simp only [List.any_cons, List.any_nil, Bool.or_false]
  by_cases h : c = d
  · subst h; simp
  · rw [beq_eq_false_iff_ne.2 h]
    have : (decide (c ≤ d) && decide (d ≤ c)) = false := by
      rw [Bool.and_eq_false_iff, decide_eq_false_iff_not, decide_eq_false_iff_not]
      omega
    rw [this]
    rfl
/-- Letters by hand: as many are gone by, and they are these. -/
theorem lits_at (text : List Int) : ∀ (m : Nat) (L : List Int) (R : Nat → Bool) (i : Nat), L.length = m → i ≤ text.length → ((L.map lit).foldl (stepR text) R i = (decide (L.length ≤ i) && (R (i - L.length) && ((text.drop (i - L.length)).take L.length == L))))
  | 0, L, R, i, hm, _ => by
    obtain rfl := List.eq_nil_of_length_eq_zero hm
    simp
  | m + 1, L, R, i, hm, hi => by
    obtain ⟨L, c, rfl⟩ : ∃ L' c, L = L' ++ [c] := by
      rcases List.eq_nil_or_concat L with rfl | ⟨L', c, rfl⟩
      · simp at hm
      · exact ⟨L', c, by simp⟩
    have hm' : L.length = m := by simpa using hm
    rw [List.map_append, List.foldl_append]
    show stepR text ((L.map lit).foldl (stepR text) R) (lit c) i = _
    cases i with
    | zero => simp [stepR, lit]
    | succ i =>
      rw [stepR, if_neg (by simp [lit]), lits_at text m L R i hm' (by omega), fits_lit, List.length_append, List.length_singleton, show i + 1 - (L.length + 1) = i - L.length by omega]
      by_cases hL : L.length ≤ i
      · have e1 : decide (L.length ≤ i) = true := decide_eq_true hL
        have e2 : decide (L.length + 1 ≤ i + 1) = true := decide_eq_true (by omega)
        rw [e1, e2, Bool.true_and, Bool.true_and]
        have hd : (text.drop (i - L.length)).take (L.length + 1) = (text.drop (i - L.length)).take L.length ++ [text.getD i 0] := by
          have hlt : L.length < (text.drop (i - L.length)).length := by rw [List.length_drop]; omega
          rw [List.take_succ_eq_append_getElem hlt, List.getElem_drop]
          congr 2
          rw [List.getD_eq_getElem?_getD, List.getElem?_eq_getElem (by omega)]
          simp only [Option.getD_some]
          congr 1
          omega
        rw [hd, Bool.and_assoc]
        congr 1
        rw [Bool.eq_iff_iff]
        simp only [Bool.and_eq_true, beq_iff_eq]
        constructor
        · rintro ⟨h1, h2⟩
          rw [h1, h2]
        · intro h
          have hlen : ((text.drop (i - L.length)).take L.length).length = L.length := by rw [List.length_take, List.length_drop]; omega
          have := List.append_inj h hlen
          exact ⟨this.1, by simpa using this.2.symm⟩
      · have e1 : decide (L.length ≤ i) = false := decide_eq_false hL
        have e2 : decide (L.length + 1 ≤ i + 1) = false := decide_eq_false (by omega)
        rw [e1, e2]
        rfl

theorem known_at : lazaruslaw13_known.f 60 = some true := by decide +kernel
theorem known_ev : Ev (fun k => lazaruslaw13_known.f k) true := Ev.of lazaruslaw13_known.mono known_at
theorem chars_ev (s : ByteArray) (q : Bool) (hs : s.size ≤ 1000) : Ev (fun k => glob_Chars.f k s q) (charsOf q (Kd.letters s)) := by
  have hl := letters_le s
  have h : ∀ (d x11 : Nat), x11 + d = (Kd.letters s).length → Ev (fun k => glob_Chars.l0 k q (charsOf q ((Kd.letters s).take x11)) (Kd.letters s) ((Kd.letters s).length : Int) (x11 : Int)) (charsOf q (Kd.letters s)) := by
    generalize Kd.letters s = L at hl ⊢
    intro d
    induction d with
    | zero =>
      intro x11 hd
      rw [List.take_of_length_le (by omega)]
      exact Ev.step (fun k => by rw [glob_Chars.l0, if_neg (by omega)]) (Ev.now _)
    | succ d ih =>
      intro x11 hd
      have hj : x11 < L.length := by omega
      have er : rd L (x11 : Int) = L[x11] := by rw [rd]; simp [List.getD_eq_getElem?_getD, hj]
      have h1 := ih (x11 + 1) (by omega)
      have hc : (charsOf q (L.take x11)).length ≤ 1000 := by unfold charsOf; rw [List.length_map, List.length_take]; omega
      have e : charsOf q (L.take (x11 + 1)) = charsOf q (L.take x11) ++ [(⟨L[x11], q⟩ : S57)] := by
        unfold charsOf
        rw [List.take_succ_eq_append_getElem hj, List.map_append]
        rfl
      rw [e] at h1
      exact Ev.step (fun k => by rw [glob_Chars.l0, if_pos (by omega), if_pos (by omega), if_pos (by omega), if_pos (by omega), er, w64 (by omega) (by omega), show (x11 : Int) + 1 = ((x11 + 1 : Nat) : Int) by omega]) h1
  refine Ev.congr (fun k => by rw [glob_Chars.f, lettersD s (by omega), Option.bind_some]) ?_
  exact h (Kd.letters s).length 0 (by omega)
theorem f0_chars (q : Bool) (l : List Int) : (charsOf q l).map (·.f0) = l := by unfold charsOf; rw [List.map_map]; exact List.map_id l
theorem chars_len (q : Bool) (l : List Int) : (charsOf q l).length = l.length := by unfold charsOf; rw [List.length_map]
/-- Letters by hand match just these. -/
theorem match_lits (l : List Int) (s : ByteArray) (hs : s.size ≤ 1000) (hl : l.length ≤ 1000) : Ev (fun k => glob_Match.f k (charsOf true l) s) (l == Kd.letters s) := by
  have h := match_ev (charsOf true l) s (l.map lit) hs (by rw [List.length_map]; omega) (by rw [← pieces_lits]; exact pieces_ev _ (by rw [chars_len]; omega) (fun x hx => by obtain ⟨c, _, rfl⟩ := List.mem_map.1 hx; exact .inl rfl))
  rw [lits_at (Kd.letters s) l.length l start _ rfl (Nat.le_refl _)] at h
  have e : (decide (l.length ≤ (Kd.letters s).length) && (start ((Kd.letters s).length - l.length) && (((Kd.letters s).drop ((Kd.letters s).length - l.length)).take l.length == l))) = (l == Kd.letters s) := by
    generalize Kd.letters s = t
    by_cases hlen : l.length = t.length
    · have e1 : t.length - l.length = 0 := by omega
      rw [e1, List.drop_zero, List.take_of_length_le (by omega), decide_eq_true (by omega)]
      simp only [start, beq_self_eq_true, Bool.true_and]
      rw [Bool.eq_iff_iff, beq_iff_eq, beq_iff_eq]
      exact eq_comm
    · have e1 : (l == t) = false := beq_eq_false_iff_ne.2 (fun h => hlen (by rw [h]))
      rw [e1]
      by_cases h1 : l.length ≤ t.length
      · have e2 : start (t.length - l.length) = false := by simp only [start, beq_eq_false_iff_ne]; omega
        rw [e2]
        simp
      · rw [decide_eq_false h1]
        rfl
  rw [e] at h
  exact h

def star : S63 := ⟨true, false, []⟩
def ques : S63 := ⟨false, true, []⟩
theorem step_star (text : List Int) (R : Nat → Bool) (i : Nat) : stepR text R star i = manyR R i := by
  cases i with
  | zero => simp [stepR, star, manyR]
  | succ i => simp [stepR, star]
theorem many_true (R : Nat → Bool) (j : Nat) (h : R j = true) : ∀ i, j ≤ i → manyR R i = true
  | 0, hj => by
    obtain rfl : j = 0 := by omega
    exact h
  | i + 1, hj => by
    rw [manyR]
    by_cases e : j = i + 1
    · subst e
      rw [h]; rfl
    · rw [many_true R j h i (by omega)]; simp
theorem step_ques (text : List Int) (R : Nat → Bool) (i : Nat) : stepR text R ques (i + 1) = R i := by
  rw [stepR, if_neg (by simp [ques])]
  simp [fitsB, ques]
theorem step_ques0 (text : List Int) (R : Nat → Bool) : stepR text R ques 0 = false := by simp [stepR, ques]
theorem lits_here (la rest : List Int) : (la.map lit).foldl (stepR (la ++ rest)) start la.length = true := by
  rw [lits_at (la ++ rest) la.length la start la.length rfl (by simp)]
  simp [start]
theorem lits_short (text la : List Int) (m : Nat) (hm : m < la.length) (ht : m ≤ text.length) : (la.map lit).foldl (stepR text) start m = false := by
  rw [lits_at text la.length la start m rfl ht, decide_eq_false (by omega)]
  rfl
theorem end_lits (pre lb : List Int) (R : Nat → Bool) : (lb.map lit).foldl (stepR (pre ++ lb)) R (pre ++ lb).length = R pre.length := by
  rw [lits_at (pre ++ lb) lb.length lb R _ rfl (Nat.le_refl _)]
  have e : (pre ++ lb).length - lb.length = pre.length := by simp
  rw [e, List.drop_left, List.take_of_length_le (Nat.le_refl _), decide_eq_true (by simp)]
  simp
theorem l42 : Kd.letters ⟨#[42]⟩ = [42] := by decide +kernel
theorem l63 : Kd.letters ⟨#[63]⟩ = [63] := by decide +kernel
theorem l120 : Kd.letters ⟨#[120]⟩ = [120] := by decide +kernel
theorem v120 : (glyph_Valid.go ⟨#[120]⟩ (⟨#[120]⟩ : ByteArray).size 0).2 = true := by decide +kernel
theorem quoted (l : List Int) : ∀ x ∈ charsOf true l, x.f1 = true ∨ x.f0 ≠ 91 := fun x hx => by
  obtain ⟨c, _, rfl⟩ := List.mem_map.1 hx
  exact .inl rfl
theorem GlobStar : ∀ (a0 : ByteArray) (a1 : ByteArray), a0.size ≤ 140737488351232 → a1.size ≤ 140737488351232 → ∃ k, lazaruslaw13_GlobStar.f k a0 a1 = some true := by
  intro a b ha0 hb0
  have j0 : ∀ x0 x1, Ev (fun k => lazaruslaw13_GlobStar.j0 k x0 x1 true) true := fun x0 x1 => Ev.step (fun k => by rw [lazaruslaw13_GlobStar.j0, if_pos rfl]) (Ev.now _)
  refine Ev.rounds (g := fun k => lazaruslaw13_GlobStar.f k a b) ?_
  refine Ev.bind (ref_valid_f a ha0) (Ev.bind (ref_valid_f b hb0) ?_)
  by_cases h1 : (a.size : Int) > 40
  · exact Ev.congr (fun k => if_pos h1) (j0 a b)
  refine Ev.congr (fun k => if_neg h1) ?_
  by_cases h2 : (b.size : Int) > 40
  · exact Ev.congr (fun k => if_pos h2) (j0 a b)
  refine Ev.congr (fun k => if_neg h2) ?_
  by_cases hva : (glyph_Valid.go a a.size 0).2 = false
  · exact Ev.congr (fun k => if_neg (by rw [hva]; simp)) (j0 a b)
  have hva : (glyph_Valid.go a a.size 0).2 = true := by simpa using hva
  refine Ev.congr (fun k => if_pos hva) ?_
  by_cases hvb : (glyph_Valid.go b b.size 0).2 = false
  · exact Ev.congr (fun k => by rw [hvb]; rfl) (j0 a b)
  have hvb : (glyph_Valid.go b b.size 0).2 = true := by simpa using hvb
  have hla := letters_le a
  have hlb := letters_le b
  have hsz := @ByteArray.size_append a b
  have hx1 : (⟨#[120]⟩ : ByteArray).size = 1 := rfl
  have hszx := @ByteArray.size_append a ⟨#[120]⟩
  have hszx2 := @ByteArray.size_append (a ++ ⟨#[120]⟩) b
  have hab : Kd.letters (a ++ b) = Kd.letters a ++ Kd.letters b := letters_append a b hva
  have hvx : (glyph_Valid.go (a ++ ⟨#[120]⟩) (a ++ ⟨#[120]⟩).size 0).2 = true := by rw [valid_append a ⟨#[120]⟩ hva v120]
  have haxb : Kd.letters ((a ++ ⟨#[120]⟩) ++ b) = (Kd.letters a ++ [120]) ++ Kd.letters b := by
    rw [letters_append (a ++ ⟨#[120]⟩) b hvx, letters_append a ⟨#[120]⟩ hva, l120]
  have ca := chars_ev a true (by omega)
  have cb := chars_ev b true (by omega)
  have cs := chars_ev ⟨#[42]⟩ false (by show 1 ≤ 1000; omega)
  have cq := chars_ev ⟨#[63]⟩ false (by show 1 ≤ 1000; omega)
  rw [l42] at cs
  rw [l63] at cq
  have es : charsOf false [42] = [(⟨42, false⟩ : S57)] := rfl
  have eq : charsOf false [63] = [(⟨63, false⟩ : S57)] := rfl
  rw [es] at cs
  rw [eq] at cq
  have la := chars_len true (Kd.letters a)
  have lb := chars_len true (Kd.letters b)
  -- the three patterns' pieces
  have p1 : Ev (fun k => glob_pieces.f k (charsOf true (Kd.letters a) ++ [⟨42, false⟩])) ((Kd.letters a).map lit ++ [star]) := by
    have h := pieces_ev (charsOf true (Kd.letters a) ++ [⟨42, false⟩]) (by simp; omega) (fun x hx => by
      rcases List.mem_append.1 hx with hx | hx
      · exact quoted _ x hx
      · obtain rfl := List.mem_singleton.1 hx
        exact .inr (by decide))
    rw [List.map_append, pieces_lits] at h
    exact h
  have p2 : Ev (fun k => glob_pieces.f k ([⟨42, false⟩] ++ charsOf true (Kd.letters b))) ([star] ++ (Kd.letters b).map lit) := by
    have h := pieces_ev ([⟨42, false⟩] ++ charsOf true (Kd.letters b)) (by simp; omega) (fun x hx => by
      rcases List.mem_append.1 hx with hx | hx
      · obtain rfl := List.mem_singleton.1 hx
        exact .inr (by decide)
      · exact quoted _ x hx)
    rw [List.map_append, pieces_lits] at h
    exact h
  have p3 : Ev (fun k => glob_pieces.f k ((charsOf true (Kd.letters a) ++ [⟨63, false⟩]) ++ charsOf true (Kd.letters b))) (((Kd.letters a).map lit ++ [ques]) ++ (Kd.letters b).map lit) := by
    have h := pieces_ev ((charsOf true (Kd.letters a) ++ [⟨63, false⟩]) ++ charsOf true (Kd.letters b)) (by simp; omega) (fun x hx => by
      rcases List.mem_append.1 hx with hx | hx
      · rcases List.mem_append.1 hx with hx | hx
        · exact quoted _ x hx
        · obtain rfl := List.mem_singleton.1 hx
          exact .inr (by decide)
      · exact quoted _ x hx)
    rw [List.map_append, List.map_append, pieces_lits, pieces_lits] at h
    exact h
  have m1 := match_ev _ (a ++ b) _ (by omega) (by simp; omega) p1
  have m2 := match_ev _ (a ++ b) _ (by omega) (by simp; omega) p2
  have m3 := match_ev _ (a ++ b) _ (by omega) (by simp; omega) p3
  have m4 := match_ev _ ((a ++ ⟨#[120]⟩) ++ b) _ (by omega) (by simp; omega) p3
  rw [hab] at m1 m2 m3
  rw [haxb] at m4
  generalize Kd.letters a = A at *
  generalize Kd.letters b = B at *
  have r1 : ((A.map lit ++ [star]).foldl (stepR (A ++ B)) start (A ++ B).length) = true := by
    rw [List.foldl_append]
    show stepR (A ++ B) ((A.map lit).foldl (stepR (A ++ B)) start) star _ = true
    rw [step_star]
    exact many_true _ A.length (lits_here A B) _ (by simp)
  have r2 : (([star] ++ B.map lit).foldl (stepR (A ++ B)) start (A ++ B).length) = true := by
    rw [List.foldl_append]
    show (B.map lit).foldl (stepR (A ++ B)) (stepR (A ++ B) start star) _ = true
    rw [end_lits, step_star]
    exact many_true _ 0 rfl _ (by omega)
  have r3 : (((A.map lit ++ [ques]) ++ B.map lit).foldl (stepR (A ++ B)) start (A ++ B).length) = false := by
    rw [List.foldl_append, List.foldl_append]
    show (B.map lit).foldl (stepR (A ++ B)) (stepR (A ++ B) ((A.map lit).foldl (stepR (A ++ B)) start) ques) _ = false
    rw [end_lits]
    cases hA : A.length with
    | zero => exact step_ques0 _ _
    | succ m => rw [step_ques]; exact lits_short _ A m (by omega) (by simp; omega)
  have r4 : (((A.map lit ++ [ques]) ++ B.map lit).foldl (stepR ((A ++ [120]) ++ B)) start ((A ++ [120]) ++ B).length) = true := by
    rw [List.foldl_append, List.foldl_append]
    show (B.map lit).foldl (stepR ((A ++ [120]) ++ B)) (stepR ((A ++ [120]) ++ B) ((A.map lit).foldl (stepR ((A ++ [120]) ++ B)) start) ques) _ = true
    rw [end_lits, List.length_append, List.length_singleton, step_ques, List.append_assoc]
    exact lits_here A _
  rw [r1] at m1
  rw [r2] at m2
  rw [r3] at m3
  rw [r4] at m4
  refine Ev.step (fun k => by rw [lazaruslaw13_GlobStar.j0, hvb, if_neg (by simp)]) ?_
  refine Ev.bind ca (Ev.bind cs ?_)
  refine Ev.congr (fun k => if_pos (by simp only [List.length_cons, List.length_nil]; omega)) ?_
  refine Ev.bind cs (Ev.bind cb ?_)
  refine Ev.congr (fun k => if_pos (by simp only [List.length_cons, List.length_nil]; omega)) ?_
  refine Ev.bind ca (Ev.bind cq ?_)
  refine Ev.congr (fun k => by rw [if_pos (by simp only [List.length_cons, List.length_nil]; omega), Option.bind_some]) ?_
  refine Ev.bind cb ?_
  refine Ev.congr (fun k => by rw [if_pos (by simp only [List.length_append, List.length_cons, List.length_nil]; omega), Option.bind_some, if_pos (by omega)]) ?_
  refine Ev.bind m1 ?_
  refine Ev.congr (fun k => if_pos rfl) ?_
  refine Ev.bind m2 ?_
  refine Ev.congr (fun k => if_pos rfl) ?_
  refine Ev.bind m3 ?_
  refine Ev.congr (fun k => by rw [if_neg (by simp), if_pos (by omega), if_pos (by omega)]) ?_
  refine Ev.bind m4 ?_
  refine Ev.congr (fun k => if_pos rfl) ?_
  exact Ev.bind known_ev (Ev.now _)

end Go.Proofs.YtnhmfeihnjdcpaaDoor.Pure
