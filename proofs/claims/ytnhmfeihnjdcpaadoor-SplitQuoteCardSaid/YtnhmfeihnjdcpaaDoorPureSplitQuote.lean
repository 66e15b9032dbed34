/- Quoted texts with breaks between are as many fields: the printed law answers true. No conditions beyond the laid tables of the library. -/
import Derived.Test.YtnhmfeihnjdcpaaDoorQSplitQuotex3
import Derived.Lib.RuneCountTail
namespace Go.Proofs.YtnhmfeihnjdcpaaDoor.Pure
open Go.RowKit Go.Proofs.YtnhmfeihnjdcpaaDoor.QSplitQuote Go.Proofs.YtnhmfeihnjdcpaaDoorW.PrintWords Go.Proofs.YtnhmfeihnjdcpaaDoorW.PrintLast

theorem w64 {x : Int} (h₀ : -9223372036854775808 ≤ x) (h₁ : x < 9223372036854775808) : wrap64 x = x := by unfold wrap64; omega
theorem dec_go (s : ByteArray) (pos : Nat) (h : pos < s.size) : Lib.decodeGo (s.extract pos s.size) = Utf8.decode s pos := by
  rw [Lib.decodeGo, if_neg (by rw [Lib.tail_size]; omega), Lib.tail_decode, Nat.add_zero]
theorem dec_f (s : ByteArray) (pos : Nat) (h : pos < s.size) : utf8_DecodeRuneInString.f (s.extract pos s.size) = some (((Utf8.decode s pos).1 : Int), ((Utf8.decode s pos).2 : Int)) := by
  rw [utf8_DecodeRuneInString.f, dec_go s pos h]
theorem width_le (s : ByteArray) (pos : Nat) (h : pos < s.size) : pos + (Utf8.decode s pos).2 ≤ s.size := by
  rw [Lib.decode_at]
  unfold Lib.decodeN
  repeat' split
  all_goals (simp only; omega)
theorem cut_cut (s : ByteArray) (pos n : Nat) (h : pos + n ≤ s.size) : (s.extract pos s.size).extract n (s.extract pos s.size).size = s.extract (pos + n) s.size := by
  rw [Lib.tail_size, Lib.extract_eq, Lib.extract_eq, Lib.extract_eq]
  congr 2
  have e : s.size = s.data.toList.length := Lib.size_eq s
  rw [List.take_of_length_le (by simp), List.take_of_length_le (by simp), List.take_of_length_le (by simp)]
  simp
theorem cut_all (s : ByteArray) : s.extract 0 s.size = s := by
  rw [Lib.extract_eq]
  have e : s.size = s.data.toList.length := Lib.size_eq s
  rw [List.drop_zero, Nat.sub_zero, List.take_of_length_le (by omega)]
theorem lettersD (s : ByteArray) (hs : s.size < 17592186044416) : glyph_Runes.f s = some (Kd.letters s) := by rw [glyph_Runes.f, if_pos hs]

theorem ref_runes (s : ByteArray) (hs : s.size ≤ 1000) : ∀ (d pos : Nat) (acc : List Int), s.size - pos ≤ d → pos ≤ s.size → acc.length ≤ pos →
    Ev (fun k => lazarusref7_Runes.l0 k (s.extract pos s.size) acc) (acc ++ Kd.letN s (s.size - pos) pos)
  | d, pos, acc, hd, hp, ha => by
    have hz := Lib.tail_size s pos
    by_cases hlt : pos < s.size
    · obtain ⟨d, rfl⟩ : ∃ d', d = d' + 1 := ⟨d - 1, by omega⟩
      have hw := width_le s pos hlt
      have hw1 := Kd.width_pos s pos hlt
      refine Ev.step (fun k => by rw [lazarusref7_Runes.l0, if_pos (by omega), dec_f s pos hlt]) ?_
      simp only [Option.bind_some]
      refine Ev.congr (fun k => by rw [if_pos (by omega), if_pos (by omega), if_pos (by omega), show (((Utf8.decode s pos).2 : Nat) : Int).toNat = (Utf8.decode s pos).2 by omega, cut_cut s pos _ hw]) ?_
      have ih := ref_runes s hs d (pos + (Utf8.decode s pos).2) (acc ++ [((Utf8.decode s pos).1 : Int)]) (by omega) hw (by simp; omega)
      rw [Kd.letN_at s pos hlt]
      simpa using ih
    · rw [Kd.letN_end s _ _ hlt, List.append_nil]
      exact Ev.step (fun k => by rw [lazarusref7_Runes.l0, if_neg (by omega)]) (Ev.now _)
theorem ref_runes_f (s : ByteArray) (hs : s.size ≤ 1000) : Ev (fun k => lazarusref7_Runes.f k s) (Kd.letters s) := by
  have h := ref_runes s hs s.size 0 [] (by omega) (by omega) (by simp)
  rw [cut_all, List.nil_append, Nat.sub_zero] at h
  exact h

def charsOf (q : Bool) (l : List Int) : List S57 := l.map (fun c => (⟨c, q⟩ : S57))
theorem ref_chars_l (q : Bool) (l : List Int) (hl : l.length ≤ 1000) : ∀ (d : Nat) (x7 : Nat), x7 + d = l.length → Ev (fun k => lazarusref13_Chars.l0 k q l (charsOf q (l.take x7)) (x7 : Int)) (charsOf q l)
  | 0, x7, hd => by
    rw [List.take_of_length_le (by omega)]
    exact Ev.step (fun k => by rw [lazarusref13_Chars.l0, if_neg (by omega)]) (Ev.now _)
  | d + 1, x7, hd => by
    have hj : x7 < l.length := by omega
    have er : rd l (x7 : Int) = l[x7] := by rw [rd]; simp [List.getD_eq_getElem?_getD, hj]
    have ih := ref_chars_l q l hl d (x7 + 1) (by omega)
    have hc : (charsOf q (l.take x7)).length ≤ 1000 := by unfold charsOf; rw [List.length_map, List.length_take]; omega
    have e : charsOf q (l.take (x7 + 1)) = charsOf q (l.take x7) ++ [(⟨l[x7], q⟩ : S57)] := by
      unfold charsOf
      rw [List.take_succ_eq_append_getElem hj, List.map_append]
      rfl
    rw [e] at ih
    exact Ev.step (fun k => by rw [lazarusref13_Chars.l0, if_pos (by omega), if_pos (by omega), if_pos (by omega), er, w64 (by omega) (by omega), show (x7 : Int) + 1 = ((x7 + 1 : Nat) : Int) by omega]) ih
theorem letters_le (s : ByteArray) : (Kd.letters s).length ≤ s.size := Kd.letN_len s s.size 0
theorem ref_chars (s : ByteArray) (q : Bool) (hs : s.size ≤ 1000) : Ev (fun k => lazarusref13_Chars.f k s q) (charsOf q (Kd.letters s)) := by
  have hl := letters_le s
  exact Ev.bind (ref_runes_f s hs) (ref_chars_l q (Kd.letters s) (by omega) _ 0 (Nat.zero_add _))

theorem ref_text_l (l : List S57) (hl : l.length ≤ 1000) : ∀ (d : Nat) (x4 : Nat), x4 + d = l.length → Ev (fun k => lazarusref13_Text.l0 k l ((l.take x4).map (·.f0)) (x4 : Int)) (runesBytes (l.map (·.f0)))
  | 0, x4, hd => by
    rw [List.take_of_length_le (by omega)]
    exact Ev.step (fun k => by rw [lazarusref13_Text.l0, if_neg (by omega)]) (Ev.now _)
  | d + 1, x4, hd => by
    have hj : x4 < l.length := by omega
    have er : rd_T57 l (x4 : Int) = l[x4] := by unfold rd_T57; simp [List.getD_eq_getElem?_getD, hj]
    have ih := ref_text_l l hl d (x4 + 1) (by omega)
    have hc : ((l.take x4).map (·.f0)).length ≤ 1000 := by rw [List.length_map, List.length_take]; omega
    have e : (l.take (x4 + 1)).map (·.f0) = (l.take x4).map (·.f0) ++ [l[x4].f0] := by
      rw [List.take_succ_eq_append_getElem hj, List.map_append]
      rfl
    rw [e] at ih
    exact Ev.step (fun k => by rw [lazarusref13_Text.l0, if_pos (by omega), if_pos (by omega), if_pos (by omega), er, w64 (by omega) (by omega), show (x4 : Int) + 1 = ((x4 + 1 : Nat) : Int) by omega]) ih
theorem ref_text (l : List S57) (hl : l.length ≤ 1000) : Ev (fun k => lazarusref13_Text.f k l) (runesBytes (l.map (·.f0))) := ref_text_l l hl l.length 0 (Nat.zero_add _)
theorem f0_chars (q : Bool) (l : List Int) : (charsOf q l).map (·.f0) = l := by unfold charsOf; rw [List.map_map]; exact List.map_id l
theorem ref_text_chars (s : ByteArray) (q : Bool) (hs : s.size ≤ 1000) : Ev (fun k => lazarusref13_Text.f k (charsOf q (Kd.letters s))) (runesBytes (Kd.letters s)) := by
  have h := ref_text (charsOf q (Kd.letters s)) (by unfold charsOf; rw [List.length_map]; have := letters_le s; omega)
  rwa [f0_chars] at h
theorem texts_ev (l : List ByteArray) (hl : l.length < 4611686018427387904) : ∀ (d : Nat) (x5 : Int), 0 ≤ x5 → x5 + d = l.length → Ev (fun k => lazarusref14_Texts.l0 k l l x5) true
  | 0, x5, h0, hd => Ev.step (fun k => by rw [lazarusref14_Texts.l0, if_neg (by omega)]) (Ev.now _)
  | d + 1, x5, h0, hd => Ev.step (fun k => by rw [lazarusref14_Texts.l0, if_pos (by omega), if_pos h0, if_pos (by omega), if_pos rfl, w64 (by omega) (by omega)]) (texts_ev l hl d (x5 + 1) (by omega) (by omega))

def T (s : ByteArray) : ByteArray := runesBytes (Kd.letters s)
def C (s : ByteArray) : List S57 := charsOf true (Kd.letters s)
def s0 : split_Fields.St := ⟨[], [], false⟩
theorem known_at : lazaruslaw15_known.f 60 = some true := by decide +kernel
theorem known_ev : Ev (fun k => lazaruslaw15_known.f k) true := Ev.of lazaruslaw15_known.mono known_at
theorem quote_l1 (l : List ByteArray) (hl : l.length ≤ 20) (hw : ∀ s ∈ l, s.size ≤ 60) : ∀ (d : Nat) (x8 : Nat), x8 + d = l.length → Ev (fun k => lazaruslaw15_SplitQuote.l1 k (l.map T) (l.map C) ((l.take x8).map T) (x8 : Int)) true
  | 0, x8, hd => by
    rw [List.take_of_length_le (by omega)]
    refine Ev.step (fun k => by rw [lazaruslaw15_SplitQuote.l1, if_neg (by rw [List.length_map]; omega)]) ?_
    refine Ev.bind (a := true) (Ev.congr (fun k => by rw [lazarusref14_Texts.f, if_pos rfl]) (texts_ev (l.map T) (by rw [List.length_map]; omega) l.length 0 (by omega) (by rw [List.length_map]; omega))) ?_
    refine Ev.congr (fun k => if_pos rfl) ?_
    exact Ev.bind known_ev (Ev.now _)
  | d + 1, x8, hd => by
    have hj : x8 < l.length := by omega
    have er : rd_L8 (l.map C) (x8 : Int) = C l[x8] := by unfold rd_L8; simp [List.getD_eq_getElem?_getD, hj]
    have ih := quote_l1 l hl hw d (x8 + 1) (by omega)
    have hc : ((l.take x8).map T).length ≤ 20 := by rw [List.length_map, List.length_take]; omega
    have e : (l.take (x8 + 1)).map T = (l.take x8).map T ++ [T l[x8]] := by
      rw [List.take_succ_eq_append_getElem hj, List.map_append]
      rfl
    rw [e] at ih
    refine Ev.step (fun k => by rw [lazaruslaw15_SplitQuote.l1, if_pos (by rw [List.length_map]; omega), if_pos (by omega), er]) ?_
    refine Ev.bind (ref_text_chars l[x8] true (by have := hw _ (List.getElem_mem hj); omega)) ?_
    exact Ev.congr (fun k => by rw [if_pos (by omega), w64 (by omega) (by omega), show (x8 : Int) + 1 = ((x8 + 1 : Nat) : Int) by omega]; rfl) ih
theorem end_put (pre : List (List S57)) (c : List S57) : split_Fields.endS (split_Fields.putS c ⟨pre, [], false⟩) = ⟨pre ++ [c], [], false⟩ := rfl
theorem cost_snoc (l : List S42) (r : S42) : split_Fields.cost (l ++ [r]) = split_Fields.cost l + (2 * r.f0.size + 1) := by
  unfold split_Fields.cost
  rw [List.map_append, List.sum_append]
  simp
theorem quote_l0 (l : List ByteArray) (hl : l.length ≤ 20) : ∀ (d : Nat) (x5 : Nat) (x3 : List S42), x5 + d = l.length → (∀ s ∈ l.take x5, s.size ≤ 60) → (x5 = 0 → x3 = []) → split_Fields.endS (x3.foldl split_Fields.runS s0) = ⟨(l.take x5).map C, [], false⟩ →
    split_Fields.cost x3 ≤ 200 * x5 → x3.length ≤ 2 * x5 → Ev (fun k => lazaruslaw15_SplitQuote.l0 k l x3 ((l.take x5).map T) (x5 : Int)) true
  | 0, x5, x3, hd, hw, h0, hs, hc, hx => by
    have ht : l.take x5 = l := List.take_of_length_le (by omega)
    rw [ht] at hw hs ⊢
    have hf : split_Fields.f x3 = some (l.map C) := by
      rw [split_Fields.f, if_pos (by omega), show (⟨[], [], false⟩ : split_Fields.St) = s0 from rfl, hs]
    refine Ev.step (fun k => by rw [lazaruslaw15_SplitQuote.l0, if_neg (by omega), hf]) ?_
    exact quote_l1 l hl hw l.length 0 (by omega)
  | d + 1, x5, x3, hd, hw, h0, hs, hc, hx => by
    have hj : x5 < l.length := by omega
    have er : rdOf ByteArray.empty l (x5 : Int) = l[x5] := by unfold rdOf; simp [List.getD_eq_getElem?_getD, hj]
    have hx4 : ((l.take x5).map T).length ≤ 20 := by rw [List.length_map, List.length_take]; omega
    have eT : (l.take (x5 + 1)).map T = (l.take x5).map T ++ [T l[x5]] := by
      rw [List.take_succ_eq_append_getElem hj, List.map_append]
      rfl
    have eC : (l.take (x5 + 1)).map C = (l.take x5).map C ++ [C l[x5]] := by
      rw [List.take_succ_eq_append_getElem hj, List.map_append]
      rfl
    refine Ev.step (fun k => by rw [lazaruslaw15_SplitQuote.l0, if_pos (by omega), if_pos (by omega), er]) ?_
    by_cases hb : (l[x5].size : Int) > 60
    · exact Ev.congr (fun k => if_pos hb) (Ev.now _)
    refine Ev.congr (fun k => if_neg hb) ?_
    have hw' : ∀ s ∈ l.take (x5 + 1), s.size ≤ 60 := by
      intro s hs
      rw [List.take_succ_eq_append_getElem hj] at hs
      rcases List.mem_append.1 hs with hs | hs
      · exact hw s hs
      · obtain rfl : s = l[x5] := by simpa using hs
        omega
    have hch := ref_chars l[x5] true (by omega)
    have htx := ref_text_chars l[x5] true (by omega)
    by_cases hp : (x5 : Int) > 0
    · refine Ev.congr (fun k => by rw [if_pos hp, if_pos (by omega)]) ?_
      simp only [Option.bind_some]
      refine Ev.congr (fun k => if_pos (by rw [List.length_append]; simp; omega)) ?_
      refine Ev.bind hch (Ev.bind htx ?_)
      have ih := quote_l0 l hl d (x5 + 1) (x3 ++ [(⟨(⟨#[]⟩ : ByteArray), false, false, true⟩ : S42)] ++ [(⟨l[x5], true, ((Int.tmod (x5 : Int) 2) == 0), false⟩ : S42)]) (by omega) hw' (by omega)
        (by rw [List.foldl_append, List.foldl_append]
            show split_Fields.endS (split_Fields.putS (C l[x5]) (split_Fields.endS (x3.foldl split_Fields.runS s0))) = _
            rw [hs, end_put, eC])
        (by rw [cost_snoc, cost_snoc]; simp only; show _ + (2 * 0 + 1) + _ ≤ _; omega) (by simp only [List.length_append, List.length_cons, List.length_nil]; omega)
      rw [eT] at ih
      exact Ev.congr (fun k => by rw [if_pos (by omega), w64 (by omega) (by omega), show (x5 : Int) + 1 = ((x5 + 1 : Nat) : Int) by omega]; rfl) ih
    · obtain rfl : x5 = 0 := by omega
      obtain rfl := h0 rfl
      refine Ev.congr (fun k => by rw [if_neg hp, if_pos (by simp)]) ?_
      refine Ev.bind hch (Ev.bind htx ?_)
      have ih := quote_l0 l hl d (0 + 1) ([] ++ [(⟨l[0], true, ((Int.tmod ((0 : Nat) : Int) 2) == 0), false⟩ : S42)]) (by omega) hw' (by omega)
        (by show split_Fields.endS (split_Fields.putS (C l[0]) s0) = _
            rw [eC]
            exact end_put [] _)
        (by rw [cost_snoc]; simp only; show 0 + _ ≤ _; omega) (by simp)
      rw [eT] at ih
      exact Ev.congr (fun k => by rw [if_pos (by omega), w64 (by omega) (by omega)]; rfl) ih
theorem SplitQuote : ∀ (l0 : List ByteArray), (l0.length * 16 ≤ 140737488351232 ∧ ∀ y1 ∈ l0, y1.size ≤ 140737488351232) → ∃ k, lazaruslaw15_SplitQuote.f k l0 = some true := by
  intro l _
  by_cases hl : (l.length : Int) > 20
  · exact ⟨0, by rw [lazaruslaw15_SplitQuote.f, if_pos hl]⟩
  obtain ⟨k, hk⟩ := (quote_l0 l (by omega) l.length 0 [] (by omega) (by simp) (fun _ => rfl) rfl (by simp [split_Fields.cost]) (by simp)).rounds
  exact ⟨k, by rw [lazaruslaw15_SplitQuote.f, if_neg hl]; exact hk⟩

end Go.Proofs.YtnhmfeihnjdcpaaDoor.Pure
