/- Of two texts the letters are those of both: the printed law answers true. No conditions beyond the laid tables of the library. -/
import Derived.Test.YtnhmfeihnjdcpaaDoorQGlyphJoinx2
import Derived.Lib.RuneCountTail
namespace Go.Proofs.YtnhmfeihnjdcpaaDoor.Pure
open Go.RowKit Go.Proofs.YtnhmfeihnjdcpaaDoor.QGlyphJoin Go.Proofs.YtnhmfeihnjdcpaaDoorW.PrintWords Go.Proofs.YtnhmfeihnjdcpaaDoorW.PrintLast

theorem w64 {x : Int} (h₀ : -9223372036854775808 ≤ x) (h₁ : x < 9223372036854775808) : wrap64 x = x := by unfold wrap64; omega
theorem dec_go (s : ByteArray) (pos : Nat) (h : pos < s.size) : Lib.decodeGo (s.extract pos s.size) = Utf8.decode s pos := by
  rw [Lib.decodeGo, if_neg (by rw [Lib.tail_size]; omega), Lib.tail_decode, Nat.add_zero]
theorem dec_f (s : ByteArray) (pos : Nat) (h : pos < s.size) : utf8_DecodeRuneInString.f (s.extract pos s.size) = some (((Utf8.decode s pos).1 : Int), ((Utf8.decode s pos).2 : Int)) := by
  rw [utf8_DecodeRuneInString.f, dec_go s pos h]
theorem width_le (s : ByteArray) (pos : Nat) (h : pos < s.size) : pos + (Utf8.decode s pos).2 ≤ s.size := by
  rw [Lib.decode_at]
  unfold Lib.decodeN
  repeat' split
  all_goals (simp only; omega)
theorem cut_cut (s : ByteArray) (pos n : Nat) (h : pos + n ≤ s.size) : (s.extract pos s.size).extract n (s.extract pos s.size).size = s.extract (pos + n) s.size := by
  rw [Lib.tail_size, Lib.extract_eq, Lib.extract_eq, Lib.extract_eq]
  congr 2
  have e : s.size = s.data.toList.length := Lib.size_eq s
  rw [List.take_of_length_le (by simp), List.take_of_length_le (by simp), List.take_of_length_le (by simp)]
  simp
theorem cut_all (s : ByteArray) : s.extract 0 s.size = s := by
  rw [Lib.extract_eq]
  have e : s.size = s.data.toList.length := Lib.size_eq s
  rw [List.drop_zero, Nat.sub_zero, List.take_of_length_le (by omega)]
theorem lettersD (s : ByteArray) (hs : s.size < 17592186044416) : glyph_Runes.f s = some (Kd.letters s) := by rw [glyph_Runes.f, if_pos hs]

/-- What is decoded well leans on its own bytes alone. -/
theorem decodeN_local {n n' b0 b1 b2 b3 c1 c2 c3 : Nat} (hn : n ≤ n') (h1 : 1 < n → c1 = b1) (h2 : 2 < n → c2 = b2) (h3 : 3 < n → c3 = b3) (h : ¬ ((Lib.decodeN n b0 b1 b2 b3).1 = 65533 ∧ (Lib.decodeN n b0 b1 b2 b3).2 = 1)) :
    Lib.decodeN n' b0 c1 c2 c3 = Lib.decodeN n b0 b1 b2 b3 := by
  unfold Lib.decodeN at h ⊢
  by_cases k0 : b0 < 128
  · rw [if_pos k0, if_pos k0]
  rw [if_neg k0] at h ⊢
  rw [if_neg k0]
  by_cases k1 : b0 / 32 = 6 ∧ (1 < n ∧ b1 / 64 = 2)
  · have e1 := h1 k1.2.1
    subst e1
    rw [if_pos k1, if_pos ⟨k1.1, by omega, k1.2.2⟩]
  rw [if_neg k1] at h ⊢
  by_cases k2 : b0 / 16 = 14 ∧ (1 < n ∧ b1 / 64 = 2) ∧ (2 < n ∧ b2 / 64 = 2)
  · have e1 := h1 k2.2.1.1
    have e2 := h2 k2.2.2.1
    subst e1 e2
    rw [if_pos k2, if_neg (by omega), if_pos ⟨k2.1, ⟨by omega, k2.2.1.2⟩, by omega, k2.2.2.2⟩]
  rw [if_neg k2] at h ⊢
  by_cases k3 : b0 / 8 = 30 ∧ (1 < n ∧ b1 / 64 = 2) ∧ (2 < n ∧ b2 / 64 = 2) ∧ (3 < n ∧ b3 / 64 = 2)
  · have e1 := h1 k3.2.1.1
    have e2 := h2 k3.2.2.1.1
    have e3 := h3 k3.2.2.2.1
    subst e1 e2 e3
    rw [if_pos k3, if_neg (by omega), if_neg (by omega), if_pos ⟨k3.1, ⟨by omega, k3.2.1.2⟩, ⟨by omega, k3.2.2.1.2⟩, by omega, k3.2.2.2.2⟩]
  · rw [if_neg k3] at h
    exact absurd ⟨rfl, rfl⟩ h
theorem get_left (a b : ByteArray) (i : Nat) (h : i < a.size) : (a ++ b).get! i = a.get! i := by
  have e1 := Lib.getD_get!' (a ++ b) i
  have e2 := Lib.getD_get!' a i
  rw [← e1, ← e2]
  have hl : i < a.data.toList.length := by rw [← Lib.size_eq]; exact h
  rw [show (a ++ b).data.toList = a.data.toList ++ b.data.toList by simp [ByteArray.data_append]]
  rw [List.getD_eq_getElem?_getD, List.getD_eq_getElem?_getD, List.getElem?_append_left hl]
theorem decode_left (a b : ByteArray) (pos : Nat) (h : pos < a.size) (hv : ¬ ((Utf8.decode a pos).1 = 65533 ∧ (Utf8.decode a pos).2 = 1)) : Utf8.decode (a ++ b) pos = Utf8.decode a pos := by
  rw [Lib.decode_at] at hv
  rw [Lib.decode_at, Lib.decode_at, get_left a b pos h]
  exact decodeN_local (by rw [ByteArray.size_append]; omega) (fun h1 => by rw [get_left a b _ (by omega)]) (fun h1 => by rw [get_left a b _ (by omega)]) (fun h1 => by rw [get_left a b _ (by omega)]) hv
theorem cut_right (a b : ByteArray) : (a ++ b).extract a.size (a ++ b).size = b := by
  rw [Lib.extract_eq, ByteArray.size_append]
  have e : (a ++ b).data.toList = a.data.toList ++ b.data.toList := by simp [ByteArray.data_append]
  have ea := Lib.size_eq a
  have eb := Lib.size_eq b
  rw [e, ea, List.drop_left, List.take_of_length_le (by omega)]
theorem decode_right (a b : ByteArray) (pos : Nat) : Utf8.decode (a ++ b) (a.size + pos) = Utf8.decode b pos := by
  have := Lib.tail_decode (a ++ b) a.size pos
  rw [cut_right] at this
  exact this.symm
/-- A text that is one: so is what it is the beginning of, as far as it goes. -/
theorem left_go (a b : ByteArray) : ∀ (d pos : Nat), a.size - pos ≤ d → pos ≤ a.size → (glyph_Valid.go a (a.size - pos) pos).2 = true →
    glyph_Valid.go (a ++ b) ((a ++ b).size - pos) pos = glyph_Valid.go (a ++ b) ((a ++ b).size - a.size) a.size ∧ Kd.letN (a ++ b) ((a ++ b).size - pos) pos = Kd.letN a (a.size - pos) pos ++ Kd.letN (a ++ b) ((a ++ b).size - a.size) a.size
  | d, pos, hd, hp, hv => by
    have hs := @ByteArray.size_append a b
    by_cases hlt : pos < a.size
    · obtain ⟨d, rfl⟩ : ∃ d', d = d' + 1 := ⟨d - 1, by omega⟩
      have hw := width_le a pos hlt
      have hw1 := Kd.width_pos a pos hlt
      rw [glyph_Valid.go_at a pos hlt, dec_go a pos hlt] at hv
      by_cases h0 : (Utf8.decode a pos).1 = 0
      · rw [if_pos h0] at hv
        cases hv
      rw [if_neg h0] at hv
      by_cases h1 : (Utf8.decode a pos).1 = 65533 ∧ (Utf8.decode a pos).2 = 1
      · rw [if_pos h1] at hv
        cases hv
      rw [if_neg h1] at hv
      have ih := left_go a b d (pos + (Utf8.decode a pos).2) (by omega) hw hv
      have hdl := decode_left a b pos hlt h1
      rw [glyph_Valid.go_at (a ++ b) pos (by omega), dec_go (a ++ b) pos (by omega), hdl, if_neg h0, if_neg h1, Kd.letN_at (a ++ b) pos (by omega), hdl, Kd.letN_at a pos hlt]
      exact ⟨ih.1, by rw [ih.2]; rfl⟩
    · obtain rfl : pos = a.size := by omega
      rw [Kd.letN_end a _ _ hlt]
      exact ⟨rfl, rfl⟩
theorem right_go (a b : ByteArray) : ∀ (d pos : Nat), b.size - pos ≤ d → pos ≤ b.size →
    ((glyph_Valid.go b (b.size - pos) pos).2 = true → glyph_Valid.go (a ++ b) ((a ++ b).size - (a.size + pos)) (a.size + pos) = (((a ++ b).size : Int), true)) ∧ Kd.letN (a ++ b) ((a ++ b).size - (a.size + pos)) (a.size + pos) = Kd.letN b (b.size - pos) pos
  | d, pos, hd, hp => by
    have hs := @ByteArray.size_append a b
    by_cases hlt : pos < b.size
    · obtain ⟨d, rfl⟩ : ∃ d', d = d' + 1 := ⟨d - 1, by omega⟩
      have hw := width_le b pos hlt
      have hw1 := Kd.width_pos b pos hlt
      have ih := right_go a b d (pos + (Utf8.decode b pos).2) (by omega) hw
      have hdr := decode_right a b pos
      refine ⟨fun hv => ?_, ?_⟩
      · rw [glyph_Valid.go_at b pos hlt, dec_go b pos hlt] at hv
        by_cases h0 : (Utf8.decode b pos).1 = 0
        · rw [if_pos h0] at hv
          cases hv
        rw [if_neg h0] at hv
        by_cases h1 : (Utf8.decode b pos).1 = 65533 ∧ (Utf8.decode b pos).2 = 1
        · rw [if_pos h1] at hv
          cases hv
        rw [if_neg h1] at hv
        rw [glyph_Valid.go_at (a ++ b) _ (by omega), dec_go (a ++ b) _ (by omega), hdr, if_neg h0, if_neg h1, Nat.add_assoc]
        exact ih.1 hv
      · rw [Kd.letN_at (a ++ b) _ (by omega), hdr, Kd.letN_at b pos hlt, Nat.add_assoc, ih.2]
    · refine ⟨fun _ => glyph_Valid.go_end _ _ _ (by omega), ?_⟩
      rw [Kd.letN_end _ _ _ (by omega), Kd.letN_end _ _ _ hlt]
/-- The letters of two texts, where the first is one. -/
theorem letters_append (a b : ByteArray) (ha : (glyph_Valid.go a a.size 0).2 = true) : Kd.letters (a ++ b) = Kd.letters a ++ Kd.letters b := by
  have h1 := (left_go a b a.size 0 (by omega) (by omega) (by rw [Nat.sub_zero]; exact ha)).2
  have h2 := (right_go a b b.size 0 (by omega) (by omega)).2
  simp only [Nat.sub_zero, Nat.add_zero] at h1 h2
  unfold Kd.letters
  rw [h1, h2]
theorem valid_append (a b : ByteArray) (ha : (glyph_Valid.go a a.size 0).2 = true) (hb : (glyph_Valid.go b b.size 0).2 = true) : glyph_Valid.go (a ++ b) (a ++ b).size 0 = (((a ++ b).size : Int), true) := by
  have h1 := (left_go a b a.size 0 (by omega) (by omega) (by rw [Nat.sub_zero]; exact ha)).1
  have h2 := (right_go a b b.size 0 (by omega) (by omega)).1 (by rw [Nat.sub_zero]; exact hb)
  simp only [Nat.sub_zero, Nat.add_zero] at h1 h2
  rw [h1, h2]

theorem ref_valid (s : ByteArray) (hs : s.size ≤ 140737488351232) : ∀ (d pos : Nat), s.size - pos ≤ d → pos ≤ s.size → Ev (fun k => lazarusref7_Valid.l0 k s (pos : Int)) (glyph_Valid.go s (s.size - pos) pos)
  | d, pos, hd, hp => by
    by_cases hlt : pos < s.size
    · obtain ⟨d, rfl⟩ : ∃ d', d = d' + 1 := ⟨d - 1, by omega⟩
      have hw := width_le s pos hlt
      have hw1 := Kd.width_pos s pos hlt
      have ih := ref_valid s hs d (pos + (Utf8.decode s pos).2) (by omega) hw
      refine Ev.step (fun k => by rw [lazarusref7_Valid.l0, if_pos (by omega), if_pos (by omega), if_pos (by omega), show ((pos : Int)).toNat = pos by omega, dec_f s pos hlt]) ?_
      simp only [Option.bind_some]
      rw [glyph_Valid.go_at s pos hlt, dec_go s pos hlt]
      by_cases h0 : (Utf8.decode s pos).1 = 0
      · rw [if_pos h0]
        exact Ev.congr (fun k => if_pos (by omega)) (Ev.now _)
      rw [if_neg h0]
      refine Ev.congr (fun k => if_neg (by omega)) ?_
      have e : wrap64 ((pos : Int) + ((Utf8.decode s pos).2 : Int)) = ((pos + (Utf8.decode s pos).2 : Nat) : Int) := by rw [w64 (by omega) (by omega)]; omega
      by_cases h1 : (Utf8.decode s pos).1 = 65533
      · refine Ev.congr (fun k => if_pos (by omega)) ?_
        by_cases h2 : (Utf8.decode s pos).2 = 1
        · rw [if_pos ⟨h1, h2⟩]
          exact Ev.congr (fun k => if_pos (by omega)) (Ev.now _)
        · rw [if_neg (fun h => h2 h.2)]
          exact Ev.congr (fun k => by rw [if_neg (by omega), e]) ih
      · rw [if_neg (fun h => h1 h.1)]
        exact Ev.congr (fun k => by rw [if_neg (by omega), e]) ih
    · rw [glyph_Valid.go_end s _ _ hlt]
      exact Ev.step (fun k => by rw [lazarusref7_Valid.l0, if_neg (by omega)]) (Ev.now _)
theorem ref_valid_f (s : ByteArray) (hs : s.size ≤ 140737488351232) : Ev (fun k => lazarusref7_Valid.f k s) (glyph_Valid.go s s.size 0) := ref_valid s hs s.size 0 (by omega) (by omega)
theorem valid_f (s : ByteArray) (hs : s.size < 17592186044416) : glyph_Valid.f s = some (glyph_Valid.go s s.size 0) := by rw [glyph_Valid.f, if_pos hs]
theorem ref_valid_any (s : ByteArray) (hs : s.size ≤ 140737488351232) : ∃ r, Ev (fun k => lazarusref7_Valid.f k s) r := ⟨_, ref_valid_f s hs⟩

theorem known_at : lazaruslaw7_known.f = some true := by decide +kernel
theorem GlyphJoin : ∀ (a0 : ByteArray) (a1 : ByteArray), a0.size ≤ 140737488351232 → a1.size ≤ 140737488351232 → ∃ k, lazaruslaw7_GlyphJoin.f k a0 a1 = some true := by
  intro a b ha0 hb0
  -- the document's answer to each, whatever the sizes
  by_cases hbig : a.size > 200 ∨ b.size > 200
  · obtain ⟨ra, hra⟩ := ref_valid_any a ha0
    obtain ⟨rb, hrb⟩ := ref_valid_any b hb0
    refine Ev.rounds (g := fun k => lazaruslaw7_GlyphJoin.f k a b) ?_
    refine Ev.bind hra (Ev.bind hrb ?_)
    by_cases h1 : a.size > 200
    · exact Ev.congr (fun k => if_pos (by omega)) (Ev.step (fun k => by rw [lazaruslaw7_GlyphJoin.j0, if_pos rfl]) (Ev.now _))
    · exact Ev.congr (fun k => by rw [if_neg (by omega), if_pos (by omega)]) (Ev.step (fun k => by rw [lazaruslaw7_GlyphJoin.j0, if_pos rfl]) (Ev.now _))
  have ha : a.size ≤ 200 := by omega
  have hb : b.size ≤ 200 := by omega
  have hsz := @ByteArray.size_append a b
  refine Ev.rounds (g := fun k => lazaruslaw7_GlyphJoin.f k a b) ?_
  refine Ev.bind (ref_valid_f a (by omega)) (Ev.bind (ref_valid_f b (by omega)) ?_)
  refine Ev.congr (fun k => by rw [if_neg (by omega), if_neg (by omega)]) ?_
  by_cases hva : (glyph_Valid.go a a.size 0).2 = true
  · refine Ev.congr (fun k => if_pos hva) ?_
    by_cases hvb : (glyph_Valid.go b b.size 0).2 = true
    · refine Ev.step (fun k => by rw [lazaruslaw7_GlyphJoin.j0, hvb, if_neg (by simp), if_pos (by omega), valid_f (a ++ b) (by omega), valid_append a b hva hvb, lettersD _ (by omega), lettersD _ (by omega), lettersD _ (by omega), letters_append a b hva]) ?_
      simp only [Option.bind_some]
      have hl1 : (Kd.letters a).length ≤ a.size := Kd.letN_len a a.size 0
      have hl2 : (Kd.letters b).length ≤ b.size := Kd.letN_len b b.size 0
      refine Ev.congr (fun k => by rw [if_pos (by omega), lazarusref7_Same.f, if_pos rfl]) ?_
      simp only [Option.bind_some]
      exact Ev.congr (fun k => by rw [if_pos (by simp), if_pos trivial, if_pos (by rw [w64 (by omega) (by omega)]; omega), known_at]; rfl) (Ev.now _)
    · have hvb : (glyph_Valid.go b b.size 0).2 = false := by simpa using hvb
      exact Ev.step (fun k => by rw [lazaruslaw7_GlyphJoin.j0, hvb, if_pos (by simp)]) (Ev.now _)
  · exact Ev.congr (fun k => if_neg hva) (Ev.step (fun k => by rw [lazaruslaw7_GlyphJoin.j0, if_pos rfl]) (Ev.now _))

end Go.Proofs.YtnhmfeihnjdcpaaDoor.Pure
