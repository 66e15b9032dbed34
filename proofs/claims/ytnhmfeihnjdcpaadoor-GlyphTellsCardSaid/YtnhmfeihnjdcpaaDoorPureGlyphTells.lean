/- Any text is one, has the letters, and is a name or none, as the document says: the printed law answers true. No conditions beyond the laid tables of the library. -/
import Derived.Test.YtnhmfeihnjdcpaaDoorQGlyphTellsx2
import Derived.Lib.RuneCountTail
namespace Go.Proofs.YtnhmfeihnjdcpaaDoor.Pure
open Go.RowKit Go.Proofs.YtnhmfeihnjdcpaaDoor.QGlyphTells Go.Proofs.YtnhmfeihnjdcpaaDoorW.PrintWords Go.Proofs.YtnhmfeihnjdcpaaDoorW.PrintLast

theorem w64 {x : Int} (h₀ : -9223372036854775808 ≤ x) (h₁ : x < 9223372036854775808) : wrap64 x = x := by unfold wrap64; omega
theorem dec_go (s : ByteArray) (pos : Nat) (h : pos < s.size) : Lib.decodeGo (s.extract pos s.size) = Utf8.decode s pos := by
  rw [Lib.decodeGo, if_neg (by rw [Lib.tail_size]; omega), Lib.tail_decode, Nat.add_zero]
theorem dec_f (s : ByteArray) (pos : Nat) (h : pos < s.size) : utf8_DecodeRuneInString.f (s.extract pos s.size) = some (((Utf8.decode s pos).1 : Int), ((Utf8.decode s pos).2 : Int)) := by
  rw [utf8_DecodeRuneInString.f, dec_go s pos h]
theorem width_le (s : ByteArray) (pos : Nat) (h : pos < s.size) : pos + (Utf8.decode s pos).2 ≤ s.size := by
  rw [Lib.decode_at]
  unfold Lib.decodeN
  repeat' split
  all_goals (simp only; omega)
theorem cut_cut (s : ByteArray) (pos n : Nat) (h : pos + n ≤ s.size) : (s.extract pos s.size).extract n (s.extract pos s.size).size = s.extract (pos + n) s.size := by
  rw [Lib.tail_size, Lib.extract_eq, Lib.extract_eq, Lib.extract_eq]
  congr 2
  have e : s.size = s.data.toList.length := Lib.size_eq s
  rw [List.take_of_length_le (by simp), List.take_of_length_le (by simp), List.take_of_length_le (by simp)]
  simp
theorem cut_all (s : ByteArray) : s.extract 0 s.size = s := by
  rw [Lib.extract_eq]
  have e : s.size = s.data.toList.length := Lib.size_eq s
  rw [List.drop_zero, Nat.sub_zero, List.take_of_length_le (by omega)]
theorem lettersD (s : ByteArray) (hs : s.size < 17592186044416) : glyph_Runes.f s = some (Kd.letters s) := by rw [glyph_Runes.f, if_pos hs]

theorem ref_runes (s : ByteArray) (hs : s.size ≤ 1000) : ∀ (d pos : Nat) (acc : List Int), s.size - pos ≤ d → pos ≤ s.size → acc.length ≤ pos →
    Ev (fun k => lazarusref7_Runes.l0 k (s.extract pos s.size) acc) (acc ++ Kd.letN s (s.size - pos) pos)
  | d, pos, acc, hd, hp, ha => by
    have hz := Lib.tail_size s pos
    by_cases hlt : pos < s.size
    · obtain ⟨d, rfl⟩ : ∃ d', d = d' + 1 := ⟨d - 1, by omega⟩
      have hw := width_le s pos hlt
      have hw1 := Kd.width_pos s pos hlt
      refine Ev.step (fun k => by rw [lazarusref7_Runes.l0, if_pos (by omega), dec_f s pos hlt]) ?_
      simp only [Option.bind_some]
      refine Ev.congr (fun k => by rw [if_pos (by omega), if_pos (by omega), if_pos (by omega), show (((Utf8.decode s pos).2 : Nat) : Int).toNat = (Utf8.decode s pos).2 by omega, cut_cut s pos _ hw]) ?_
      have ih := ref_runes s hs d (pos + (Utf8.decode s pos).2) (acc ++ [((Utf8.decode s pos).1 : Int)]) (by omega) hw (by simp; omega)
      rw [Kd.letN_at s pos hlt]
      simpa using ih
    · rw [Kd.letN_end s _ _ hlt, List.append_nil]
      exact Ev.step (fun k => by rw [lazarusref7_Runes.l0, if_neg (by omega)]) (Ev.now _)
theorem ref_runes_f (s : ByteArray) (hs : s.size ≤ 1000) : Ev (fun k => lazarusref7_Runes.f k s) (Kd.letters s) := by
  have h := ref_runes s hs s.size 0 [] (by omega) (by omega) (by simp)
  rw [cut_all, List.nil_append, Nat.sub_zero] at h
  exact h

theorem ref_valid (s : ByteArray) (hs : s.size ≤ 1000) : ∀ (d pos : Nat), s.size - pos ≤ d → pos ≤ s.size → Ev (fun k => lazarusref7_Valid.l0 k s (pos : Int)) (glyph_Valid.go s (s.size - pos) pos)
  | d, pos, hd, hp => by
    by_cases hlt : pos < s.size
    · obtain ⟨d, rfl⟩ : ∃ d', d = d' + 1 := ⟨d - 1, by omega⟩
      have hw := width_le s pos hlt
      have hw1 := Kd.width_pos s pos hlt
      have ih := ref_valid s hs d (pos + (Utf8.decode s pos).2) (by omega) hw
      refine Ev.step (fun k => by rw [lazarusref7_Valid.l0, if_pos (by omega), if_pos (by omega), if_pos (by omega), show ((pos : Int)).toNat = pos by omega, dec_f s pos hlt]) ?_
      simp only [Option.bind_some]
      rw [glyph_Valid.go_at s pos hlt, dec_go s pos hlt]
      by_cases h0 : (Utf8.decode s pos).1 = 0
      · rw [if_pos h0]
        exact Ev.congr (fun k => if_pos (by omega)) (Ev.now _)
      rw [if_neg h0]
      refine Ev.congr (fun k => if_neg (by omega)) ?_
      have e : wrap64 ((pos : Int) + ((Utf8.decode s pos).2 : Int)) = ((pos + (Utf8.decode s pos).2 : Nat) : Int) := by rw [w64 (by omega) (by omega)]; omega
      by_cases h1 : (Utf8.decode s pos).1 = 65533
      · refine Ev.congr (fun k => if_pos (by omega)) ?_
        by_cases h2 : (Utf8.decode s pos).2 = 1
        · rw [if_pos ⟨h1, h2⟩]
          exact Ev.congr (fun k => if_pos (by omega)) (Ev.now _)
        · rw [if_neg (fun h => h2 h.2)]
          exact Ev.congr (fun k => by rw [if_neg (by omega), e]) ih
      · rw [if_neg (fun h => h1 h.1)]
        exact Ev.congr (fun k => by rw [if_neg (by omega), e]) ih
    · rw [glyph_Valid.go_end s _ _ hlt]
      exact Ev.step (fun k => by rw [lazarusref7_Valid.l0, if_neg (by omega)]) (Ev.now _)
theorem ref_valid_f (s : ByteArray) (hs : s.size ≤ 1000) : Ev (fun k => lazarusref7_Valid.f k s) (glyph_Valid.go s s.size 0) := ref_valid s hs s.size 0 (by omega) (by omega)
theorem valid_f (s : ByteArray) (hs : s.size < 17592186044416) : glyph_Valid.f s = some (glyph_Valid.go s s.size 0) := by rw [glyph_Valid.f, if_pos hs]

theorem name_rest (s : ByteArray) : ∀ (d pos : Nat), pos ≠ 0 → glyph_Name.go s d pos = (Kd.letN s d pos).all glyph_Name.mor
  | 0, _, _ => rfl
  | d + 1, pos, h => by
    rw [glyph_Name.go, Kd.letN]
    by_cases hp : pos < s.size
    · have := Kd.width_pos s pos hp
      rw [if_pos hp, if_pos hp, List.all_cons, name_rest s d _ (by omega)]
      cases glyph_Name.mor ((Utf8.decode s pos).1 : Int) <;> simp [h]
    · rw [if_neg hp, if_neg hp]
      rfl
theorem letN_cons (s : ByteArray) (h : s.size ≠ 0) : Kd.letters s = ((Utf8.decode s 0).1 : Int) :: Kd.letN s (s.size - (Utf8.decode s 0).2) (Utf8.decode s 0).2 := by
  have := Kd.letN_at s 0 (by omega)
  rw [Nat.sub_zero, Nat.zero_add] at this
  exact this
theorem name_go (s : ByteArray) (h : s.size ≠ 0) : glyph_Name.go s s.size 0 = (glyph_Name.fst ((Utf8.decode s 0).1 : Int) && (Kd.letters s).all glyph_Name.mor) := by
  have h1 := glyph_Name.go_at s 0 (by omega)
  have hw := Kd.width_pos s 0 (by omega)
  rw [Nat.sub_zero, Nat.zero_add] at h1
  rw [h1, letN_cons s h, List.all_cons, name_rest s _ _ (by omega)]
  cases glyph_Name.fst ((Utf8.decode s 0).1 : Int) <;> cases glyph_Name.mor ((Utf8.decode s 0).1 : Int) <;> simp

def nameEnd : List Int → Bool
  | [] => false
  | c :: t => decide ((c :: t).length ≤ 12) && glyph_Name.fst c
theorem ref_name_l (l : List Int) (hl : l.length ≤ 1000) : ∀ (d : Nat) (x4 : Int), 0 ≤ x4 → x4 + d = l.length → Ev (fun k => lazarusref7_Name.l0 k l x4) ((l.drop x4.toNat).all glyph_Name.mor && nameEnd l)
  | 0, x4, h0, hd => by
    rw [List.drop_of_length_le (by omega)]
    simp only [List.all_nil, Bool.true_and]
    refine Ev.step (fun k => by rw [lazarusref7_Name.l0, if_neg (by omega)]) ?_
    cases l with
    | nil => exact Ev.congr (fun k => if_neg (by simp)) (Ev.now _)
    | cons c t =>
      refine Ev.congr (fun k => if_pos (by simp)) ?_
      by_cases h12 : (c :: t).length ≤ 12
      · refine Ev.congr (fun k => by rw [if_pos (by omega), if_pos (by simp), show lazarusref7_First.f (rd (c :: t) 0) = some (glyph_Name.fst c) from glyph_Name.fst_f c]) ?_
        simp only [Option.bind_some, nameEnd, h12, decide_true, Bool.true_and]
        exact Ev.now _
      · refine Ev.congr (fun k => if_neg (by omega)) ?_
        simp only [nameEnd, h12, decide_false, Bool.false_and]
        exact Ev.now _
  | d + 1, x4, h0, hd => by
    have hj : x4.toNat < l.length := by omega
    have er : rd l x4 = l[x4.toNat] := by rw [rd]; simp [List.getD_eq_getElem?_getD, hj]
    have ih := ref_name_l l hl d (x4 + 1) (by omega) (by omega)
    rw [List.drop_eq_getElem_cons hj, List.all_cons]
    refine Ev.step (fun k => by rw [lazarusref7_Name.l0, if_pos (by omega), if_pos h0, er, show lazarusref7_More.f l[x4.toNat] = some (glyph_Name.mor l[x4.toNat]) from glyph_Name.mor_f _]) ?_
    simp only [Option.bind_some]
    cases hm : glyph_Name.mor l[x4.toNat] with
    | false =>
      simp only [Bool.false_and]
      exact Ev.congr (fun k => if_neg (by simp)) (Ev.now _)
    | true =>
      rw [show (x4 + 1).toNat = x4.toNat + 1 by omega] at ih
      simp only [Bool.true_and]
      exact Ev.congr (fun k => by rw [if_pos trivial, w64 (by omega) (by omega)]) ih
theorem name_f (s : ByteArray) (hs : s.size ≤ 300) : ∃ b, glyph_Name.f s = some b ∧ Ev (fun k => lazarusref7_Name.f k s) b := by
  have hl := Kd.letN_len s s.size 0
  have h := ref_name_l (Kd.letters s) (by unfold Kd.letters; omega) (Kd.letters s).length 0 (by omega) (by omega)
  refine ⟨_, by rw [glyph_Name.f, if_pos (by omega)], ?_⟩
  have e : (glyph_Name.go s s.size 0 && (s.toList != ([] : List UInt8) && decide ((Kd.letters s).length ≤ 12))) = (((Kd.letters s).drop (0 : Int).toNat).all glyph_Name.mor && nameEnd (Kd.letters s)) := by
    by_cases h0 : s.size = 0
    · have e1 : Kd.letters s = [] := by unfold Kd.letters; rw [Kd.letN_end s _ _ (by omega)]
      have e2 : s.toList = [] := by
        rw [Lib.toList_data]
        exact List.eq_nil_of_length_eq_zero (by rw [← Lib.size_eq]; exact h0)
      rw [e1, e2]
      simp [nameEnd]
    · have e2 : (s.toList != ([] : List UInt8)) = true := by
        rw [Lib.toList_data, bne_iff_ne]
        intro e
        rw [Lib.size_eq, e] at h0
        exact h0 rfl
      rw [name_go s h0, e2, show (0 : Int).toNat = 0 from rfl, List.drop_zero]
      rw [letN_cons s h0]
      generalize Kd.letN s (s.size - (Utf8.decode s 0).2) (Utf8.decode s 0).2 = t
      generalize ((Utf8.decode s 0).1 : Int) = c
      simp only [List.all_cons, nameEnd]
      generalize glyph_Name.fst c = b1
      generalize glyph_Name.mor c = b2
      generalize t.all glyph_Name.mor = b3
      generalize decide ((c :: t).length ≤ 12) = b4
      cases b1 <;> cases b2 <;> cases b3 <;> cases b4 <;> rfl
  rw [e]
  exact Ev.bind (ref_runes_f s (by omega)) h
theorem known_at : lazaruslaw7_known.f = some true := by decide +kernel
theorem GlyphTells : ∀ (a0 : ByteArray), a0.size ≤ 140737488351232 → ∃ k, lazaruslaw7_GlyphTells.f k a0 = some true := by
  intro s _
  by_cases hs : (s.size : Int) > 300
  · exact ⟨0, by rw [lazaruslaw7_GlyphTells.f, if_pos hs]⟩
  have hs' : s.size ≤ 300 := by omega
  obtain ⟨b, hb1, hb2⟩ := name_f s hs'
  have hl : (Kd.letters s).length ≤ s.size := Kd.letN_len s s.size 0
  refine Ev.rounds (g := fun k => lazaruslaw7_GlyphTells.f k s) (Ev.congr (fun k => by rw [lazaruslaw7_GlyphTells.f, if_neg hs, valid_f s (by omega)]) ?_)
  simp only [Option.bind_some]
  refine Ev.bind (ref_valid_f s (by omega)) ?_
  refine Ev.bind (ref_runes_f s (by omega)) ?_
  refine Ev.congr (fun k => by rw [if_pos rfl, if_pos (by simp), lettersD s (by omega)]) ?_
  simp only [Option.bind_some]
  refine Ev.congr (fun k => by rw [lazarusref7_Same.f, if_pos rfl]) ?_
  simp only [Option.bind_some]
  refine Ev.congr (fun k => by rw [if_pos (by simp), glyph_Count.f, if_pos (by omega)]) ?_
  simp only [Option.bind_some]
  refine Ev.congr (fun k => by rw [if_pos trivial, hb1]) ?_
  simp only [Option.bind_some]
  refine Ev.bind hb2 ?_
  refine Ev.congr (fun k => by rw [if_pos (by simp), if_pos (by omega), known_at]) ?_
  exact Ev.now _

end Go.Proofs.YtnhmfeihnjdcpaaDoor.Pure
