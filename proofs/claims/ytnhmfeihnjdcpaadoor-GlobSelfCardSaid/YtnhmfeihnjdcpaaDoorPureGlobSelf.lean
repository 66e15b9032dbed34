/- A text, quoted, matches itself alone: the printed law answers true. No conditions beyond the laid tables of the library. -/
import Derived.Test.YtnhmfeihnjdcpaaDoorQGlobSelfx7
import Derived.Lib.RuneCountTail
namespace Go.Proofs.YtnhmfeihnjdcpaaDoor.Pure
open Go.RowKit Go.Proofs.YtnhmfeihnjdcpaaDoor.QGlobSelf Go.Proofs.YtnhmfeihnjdcpaaDoorW.PrintWords Go.Proofs.YtnhmfeihnjdcpaaDoorW.PrintLast
set_option linter.unusedVariables false

theorem w64 {x : Int} (h₀ : -9223372036854775808 ≤ x) (h₁ : x < 9223372036854775808) : wrap64 x = x := by unfold wrap64; omega
theorem dec_go (s : ByteArray) (pos : Nat) (h : pos < s.size) : Lib.decodeGo (s.extract pos s.size) = Utf8.decode s pos := by
  rw [Lib.decodeGo, if_neg (by rw [Lib.tail_size]; omega), Lib.tail_decode, Nat.add_zero]
theorem dec_f (s : ByteArray) (pos : Nat) (h : pos < s.size) : utf8_DecodeRuneInString.f (s.extract pos s.size) = some (((Utf8.decode s pos).1 : Int), ((Utf8.decode s pos).2 : Int)) := by
  rw [utf8_DecodeRuneInString.f, dec_go s pos h]
theorem width_le (s : ByteArray) (pos : Nat) (h : pos < s.size) : pos + (Utf8.decode s pos).2 ≤ s.size := by
  rw [Lib.decode_at]
  unfold Lib.decodeN
  repeat' split
  all_goals (simp only; omega)
theorem cut_cut (s : ByteArray) (pos n : Nat) (h : pos + n ≤ s.size) : (s.extract pos s.size).extract n (s.extract pos s.size).size = s.extract (pos + n) s.size := by
  rw [Lib.tail_size, Lib.extract_eq, Lib.extract_eq, Lib.extract_eq]
  congr 2
  have e : s.size = s.data.toList.length := Lib.size_eq s
  rw [List.take_of_length_le (by simp), List.take_of_length_le (by simp), List.take_of_length_le (by simp)]
  simp
theorem cut_all (s : ByteArray) : s.extract 0 s.size = s := by
  rw [Lib.extract_eq]
  have e : s.size = s.data.toList.length := Lib.size_eq s
  rw [List.drop_zero, Nat.sub_zero, List.take_of_length_le (by omega)]
theorem lettersD (s : ByteArray) (hs : s.size < 17592186044416) : glyph_Runes.f s = some (Kd.letters s) := by rw [glyph_Runes.f, if_pos hs]

theorem ref_runes (s : ByteArray) (hs : s.size ≤ 1000) : ∀ (d pos : Nat) (acc : List Int), s.size - pos ≤ d → pos ≤ s.size → acc.length ≤ pos →
    Ev (fun k => lazarusref7_Runes.l0 k (s.extract pos s.size) acc) (acc ++ Kd.letN s (s.size - pos) pos)
  | d, pos, acc, hd, hp, ha => by
    have hz := Lib.tail_size s pos
    by_cases hlt : pos < s.size
    · obtain ⟨d, rfl⟩ : ∃ d', d = d' + 1 := ⟨d - 1, by omega⟩
      have hw := width_le s pos hlt
      have hw1 := Kd.width_pos s pos hlt
      refine Ev.step (fun k => by rw [lazarusref7_Runes.l0, if_pos (by omega), dec_f s pos hlt]) ?_
      simp only [Option.bind_some]
      refine Ev.congr (fun k => by rw [if_pos (by omega), if_pos (by omega), if_pos (by omega), show (((Utf8.decode s pos).2 : Nat) : Int).toNat = (Utf8.decode s pos).2 by omega, cut_cut s pos _ hw]) ?_
      have ih := ref_runes s hs d (pos + (Utf8.decode s pos).2) (acc ++ [((Utf8.decode s pos).1 : Int)]) (by omega) hw (by simp; omega)
      rw [Kd.letN_at s pos hlt]
      simpa using ih
    · rw [Kd.letN_end s _ _ hlt, List.append_nil]
      exact Ev.step (fun k => by rw [lazarusref7_Runes.l0, if_neg (by omega)]) (Ev.now _)
theorem ref_runes_f (s : ByteArray) (hs : s.size ≤ 1000) : Ev (fun k => lazarusref7_Runes.f k s) (Kd.letters s) := by
  have h := ref_runes s hs s.size 0 [] (by omega) (by omega) (by simp)
  rw [cut_all, List.nil_append, Nat.sub_zero] at h
  exact h

def charsOf (q : Bool) (l : List Int) : List S57 := l.map (fun c => (⟨c, q⟩ : S57))
theorem ref_chars_l (q : Bool) (l : List Int) (hl : l.length ≤ 1000) : ∀ (d : Nat) (x7 : Nat), x7 + d = l.length → Ev (fun k => lazarusref13_Chars.l0 k q l (charsOf q (l.take x7)) (x7 : Int)) (charsOf q l)
  | 0, x7, hd => by
    rw [List.take_of_length_le (by omega)]
    exact Ev.step (fun k => by rw [lazarusref13_Chars.l0, if_neg (by omega)]) (Ev.now _)
  | d + 1, x7, hd => by
    have hj : x7 < l.length := by omega
    have er : rd l (x7 : Int) = l[x7] := by rw [rd]; simp [List.getD_eq_getElem?_getD, hj]
    have ih := ref_chars_l q l hl d (x7 + 1) (by omega)
    have hc : (charsOf q (l.take x7)).length ≤ 1000 := by unfold charsOf; rw [List.length_map, List.length_take]; omega
    have e : charsOf q (l.take (x7 + 1)) = charsOf q (l.take x7) ++ [(⟨l[x7], q⟩ : S57)] := by
      unfold charsOf
      rw [List.take_succ_eq_append_getElem hj, List.map_append]
      rfl
    rw [e] at ih
    exact Ev.step (fun k => by rw [lazarusref13_Chars.l0, if_pos (by omega), if_pos (by omega), if_pos (by omega), er, w64 (by omega) (by omega), show (x7 : Int) + 1 = ((x7 + 1 : Nat) : Int) by omega]) ih
theorem letters_le (s : ByteArray) : (Kd.letters s).length ≤ s.size := Kd.letN_len s s.size 0
theorem ref_chars (s : ByteArray) (q : Bool) (hs : s.size ≤ 1000) : Ev (fun k => lazarusref13_Chars.f k s q) (charsOf q (Kd.letters s)) := by
  have hl := letters_le s
  exact Ev.bind (ref_runes_f s hs) (ref_chars_l q (Kd.letters s) (by omega) _ 0 (Nat.zero_add _))

/-! What a pattern matches: after so many pieces, how many letters may be gone by. -/
def fitsB (p : S63) (c : Int) : Bool := p.f2.any (glob_piece_fits.p c) != p.f1
def manyR (R : Nat → Bool) : Nat → Bool
  | 0 => R 0
  | i + 1 => R (i + 1) || manyR R i
def stepR (text : List Int) (R : Nat → Bool) (p : S63) : Nat → Bool
  | 0 => if p.f0 = true then R 0 else false
  | i + 1 => if p.f0 = true then manyR R (i + 1) else (R i && fitsB p (text.getD i 0))
def row (R : Nat → Bool) (n : Nat) : List Bool := (List.range (n + 1)).map R
theorem row_len (R : Nat → Bool) (n : Nat) : (row R n).length = n + 1 := by simp [row]
theorem row_at (R : Nat → Bool) (n i : Nat) (h : i ≤ n) : rdOf false (row R n) (i : Int) = R i := by
  unfold rdOf row
  simp [List.getD_eq_getElem?_getD, List.getElem?_map, List.getElem?_range (show i < n + 1 by omega)]
/-- A row that is filled up to a place. -/
def part (R : Nat → Bool) (n i : Nat) : List Bool := (List.range (n + 1)).map fun j => decide (j < i) && R j
theorem part_len (R : Nat → Bool) (n i : Nat) : (part R n i).length = n + 1 := by simp [part]
theorem part_at (R : Nat → Bool) (n i j : Nat) (h : j ≤ n) (hj : j < i) : rdOf false (part R n i) (j : Int) = R j := by
  unfold rdOf part
  simp [List.getD_eq_getElem?_getD, List.getElem?_map, List.getElem?_range (show j < n + 1 by omega), hj]
theorem part_set (R : Nat → Bool) (n i : Nat) (b : Bool) (hb : b = R i) : (part R n i).set i b = part R n (i + 1) := by
  subst hb
  apply List.ext_getElem
  · simp [part]
  · intro j h1 h2
    rw [List.getElem_set]
    simp only [part, List.getElem_map, List.getElem_range]
    by_cases hij : i = j
    · subst hij
      simp
    · rw [if_neg hij]
      have : decide (j < i) = decide (j < i + 1) := by
        apply decide_eq_decide.2
        omega
      rw [this]
theorem part_full (R : Nat → Bool) (n : Nat) : part R n (n + 1) = row R n := by
  apply List.map_congr_left
  intro j hj
  rw [List.mem_range] at hj
  simp [hj]
theorem part_zero (R : Nat → Bool) (n : Nat) : part R n 0 = List.replicate (n + 1) false := by
  rw [part, List.eq_replicate_iff]
  exact ⟨by simp, fun b hb => by obtain ⟨j, _, rfl⟩ := List.mem_map.1 hb; simp⟩
theorem part_idle (R : Nat → Bool) (n : Nat) (h : R 0 = false) : part R n 0 = part R n 1 := by
  apply List.map_congr_left
  intro j _
  cases j with
  | zero => simp [h]
  | succ j => simp
theorem rd_i (text : List Int) (i : Nat) : rd text (i : Int) = text.getD i 0 := by rw [rd]; rfl
/-- The inner loop: one piece. -/
theorem match_l1 (text : List Int) (hn : text.length ≤ 1000) (R : Nat → Bool) (ps : List S63) (np x22 : Int) (p : S63) (r : Bool)
    (hk : Ev (fun k => glob_Match.l0 k text (row (stepR text R p) text.length) ps np (wrap64 (x22 + 1))) r) : ∀ (d i : Nat), i + d = text.length + 1 →
    Ev (fun k => glob_Match.l1 k text (row R text.length) (part (stepR text R p) text.length i) ps np x22 ((text.length + 1 : Nat) : Int) (i : Int) p.f0 p.f1 p.f2) r
  | 0, i, hd => by
    obtain rfl : i = text.length + 1 := by omega
    rw [part_full]
    exact Ev.step (fun k => by rw [glob_Match.l1, if_neg (by omega)]) hk
  | d + 1, i, hd => by
    have ih := match_l1 text hn R ps np x22 p r hk d (i + 1) (by omega)
    have hl := part_len (stepR text R p) text.length i
    have hr := row_len R text.length
    have ew : wrap64 ((i : Int) + 1) = ((i + 1 : Nat) : Int) := by rw [w64 (by omega) (by omega)]; omega
    have ei : ((i : Int)).toNat = i := by omega
    refine Ev.step (fun k => by rw [glob_Match.l1, if_pos (by omega)]) ?_
    cases hm : p.f0 with
    | true =>
      refine Ev.congr (fun k => by rw [if_pos rfl, if_pos (by omega), if_pos (by omega), row_at R _ i (by omega)]) ?_
      cases hR : R i with
      | true =>
        refine Ev.congr (fun k => by rw [if_pos rfl, if_pos (by omega), ei, part_set _ _ i true (by cases i with | zero => simp [stepR, hm, hR] | succ i => simp [stepR, hm, hR, manyR]), ew]) ?_
        rw [hm] at ih
        exact ih
      | false =>
        refine Ev.congr (fun k => if_neg (by simp)) ?_
        cases i with
        | zero =>
          refine Ev.congr (fun k => by rw [if_neg (by omega), if_pos (by omega), ei, part_set _ _ 0 false (by simp [stepR, hm, hR]), ew]) ?_
          rw [hm] at ih
          exact ih
        | succ i =>
          have e1 : wrap64 (((i + 1 : Nat) : Int) - 1) = (i : Int) := by rw [w64 (by omega) (by omega)]; omega
          have e2 : stepR text R p i = manyR R i := by cases i with | zero => simp [stepR, hm, manyR] | succ i => simp [stepR, hm]
          refine Ev.congr (fun k => by rw [if_pos (by omega), e1, if_pos (by omega), if_pos (by omega), if_pos (by omega), ei, part_at _ _ _ i (by omega) (by omega), part_set _ _ (i + 1) _ (by rw [e2]; simp [stepR, hm, hR, manyR]), ew]) ?_
          rw [hm] at ih
          exact ih
    | false =>
      refine Ev.congr (fun k => if_neg (by simp)) ?_
      cases i with
      | zero =>
        rw [part_idle _ _ (by simp [stepR, hm])]
        refine Ev.congr (fun k => by rw [if_neg (by omega), ew]) ?_
        rw [hm] at ih
        exact ih
      | succ i =>
        have e1 : wrap64 (((i + 1 : Nat) : Int) - 1) = (i : Int) := by rw [w64 (by omega) (by omega)]; omega
        refine Ev.congr (fun k => by rw [if_pos (by omega), e1, if_pos (by omega), if_pos (by omega), row_at R _ i (by omega)]) ?_
        cases hR : R i with
        | true =>
          refine Ev.congr (fun k => by rw [if_pos rfl, if_pos (by omega), glob_piece_fits.f, rd_i]) ?_
          simp only [Option.bind_some]
          refine Ev.congr (fun k => by rw [if_pos (by omega), if_pos (by omega), ei, part_set _ _ (i + 1) _ (by simp [stepR, hm, hR, fitsB]), ew]) ?_
          rw [hm] at ih
          exact ih
        | false =>
          refine Ev.congr (fun k => by rw [if_neg (by simp), if_pos (by omega), if_pos (by omega), ei, part_set _ _ (i + 1) false (by simp [stepR, hm, hR]), ew]) ?_
          rw [hm] at ih
          exact ih
theorem match_l0 (text : List Int) (hn : text.length ≤ 1000) (ps : List S63) (hps : ps.length ≤ 1000) : ∀ (d j : Nat) (R : Nat → Bool), j + d = ps.length →
    Ev (fun k => glob_Match.l0 k text (row R text.length) ps (ps.length : Int) (j : Int)) ((ps.drop j).foldl (stepR text) R text.length)
  | 0, j, R, hd => by
    have hr := row_len R text.length
    rw [List.drop_of_length_le (by omega)]
    exact Ev.step (fun k => by rw [glob_Match.l0, if_neg (by omega), if_pos (by omega), if_pos (by omega), row_at R _ _ (Nat.le_refl _)]; rfl) (Ev.now _)
  | d + 1, j, R, hd => by
    have hj : j < ps.length := by omega
    have er : rd_T63 ps (j : Int) = ps[j] := by unfold rd_T63; simp [List.getD_eq_getElem?_getD, hj]
    have ih := match_l0 text hn ps hps d (j + 1) (stepR text R ps[j]) (by omega)
    have hr := row_len R text.length
    have e1 : wrap64 ((text.length : Int) + 1) = ((text.length + 1 : Nat) : Int) := by rw [w64 (by omega) (by omega)]; omega
    rw [List.drop_eq_getElem_cons hj, List.foldl_cons]
    refine Ev.step (fun k => by rw [glob_Match.l0, if_pos (by omega), if_pos (by omega), if_pos (by omega), e1, if_pos (by omega), if_pos (by omega), er]) ?_
    simp only [Option.bind_some]
    have h1 := match_l1 text hn R ps (ps.length : Int) (j : Int) ps[j] _ (by rw [w64 (by omega) (by omega), show (j : Int) + 1 = ((j + 1 : Nat) : Int) by omega]; exact ih) (text.length + 1) 0 (by omega)
    rw [part_zero] at h1
    refine Ev.congr (fun k => ?_) h1
    rw [show (((text.length + 1 : Nat) : Int)).toNat = text.length + 1 by omega, List.length_replicate]
    rfl
def start : Nat → Bool := fun i => i == 0
theorem row_start (n : Nat) : (List.replicate (n + 1) false).set 0 true = row start n := by
  apply List.ext_getElem
  · simp [row]
  · intro j h1 h2
    rw [List.getElem_set]
    simp only [row, List.getElem_map, List.getElem_range, List.getElem_replicate, start]
    by_cases h : 0 = j
    · subst h; simp
    · rw [if_neg h]
      symm
      rw [beq_eq_false_iff_ne]
      omega
theorem match_f (p : List S57) (s : ByteArray) (k : Nat) (hs : s.size ≤ 1000) : glob_Match.f k p s = (glob_pieces.f k p).bind fun ps => glob_Match.l0 k (Kd.letters s) (row start (Kd.letters s).length) ps (ps.length : Int) 0 := by
  have hl := letters_le s
  unfold glob_Match.f
  rw [lettersD s (by omega)]
  generalize Kd.letters s = L at hl ⊢
  rw [Option.bind_some]
  have e1 : wrap64 ((L.length : Int) + 1) = ((L.length + 1 : Nat) : Int) := by rw [w64 (by omega) (by omega)]; omega
  have e2 : (((L.length + 1 : Nat) : Int)).toNat = L.length + 1 := by omega
  have e3 : L.length + 1 ≤ 281474976710656 := by omega
  have e4 : (0 : Int) ≤ ((L.length + 1 : Nat) : Int) := by omega
  have e5 : (0 : Int) < (((List.replicate (L.length + 1) false).length : Nat) : Int) := by rw [List.length_replicate]; omega
  rw [e1, e2, if_pos e4, if_pos e3, Option.bind_some, if_pos e5, show (0 : Int).toNat = 0 from rfl, row_start]
/-- The whole of Match, where the pieces are known. -/
theorem match_ev (p : List S57) (s : ByteArray) (ps : List S63) (hs : s.size ≤ 1000) (hps : ps.length ≤ 1000) (hp : Ev (fun k => glob_pieces.f k p) ps) : Ev (fun k => glob_Match.f k p s) (ps.foldl (stepR (Kd.letters s)) start (Kd.letters s).length) := by
  have hl := letters_le s
  refine Ev.congr (fun k => match_f p s k hs) (Ev.bind hp ?_)
  exact match_l0 (Kd.letters s) (by omega) ps hps ps.length 0 start (by omega)
/-! The pieces of quoted letters, of a star, of a question mark. -/
def lit (c : Int) : S63 := ⟨false, false, [(⟨c, c⟩ : S76)]⟩
def pieceOf (x : S57) : S63 := if x.f1 = true then lit x.f0 else if x.f0 = 42 then ⟨true, false, []⟩ else if x.f0 = 63 then ⟨false, true, []⟩ else lit x.f0
theorem pieces_l0 (p : List S57) (hp : p.length ≤ 1000) (hb : ∀ x ∈ p, x.f1 = true ∨ x.f0 ≠ 91) : ∀ (d x4 : Nat), x4 + d = p.length → Ev (fun k => glob_pieces.l0 k p ((p.take x4).map pieceOf) (x4 : Int)) (p.map pieceOf)
  | 0, x4, hd => by
    rw [List.take_of_length_le (by omega)]
    exact Ev.step (fun k => by rw [glob_pieces.l0, if_neg (by omega)]) (Ev.now _)
  | d + 1, x4, hd => by
    have hj : x4 < p.length := by omega
    have er : rd_T57 p (x4 : Int) = p[x4] := by unfold rd_T57; simp [List.getD_eq_getElem?_getD, hj]
    have hm := hb _ (List.getElem_mem hj)
    have ih := pieces_l0 p hp hb d (x4 + 1) (by omega)
    have hc : ((p.take x4).map pieceOf).length ≤ 1000 := by rw [List.length_map, List.length_take]; omega
    have ew : wrap64 ((x4 : Int) + 1) = ((x4 + 1 : Nat) : Int) := by rw [w64 (by omega) (by omega)]; omega
    rw [List.take_succ_eq_append_getElem hj, List.map_append] at ih
    refine Ev.step (fun k => by rw [glob_pieces.l0, if_pos (by omega), if_pos (by omega), er]) ?_
    obtain ⟨⟨c, q⟩, hx⟩ : ∃ x, p[x4] = x := ⟨_, rfl⟩
    rw [hx] at ih hm ⊢
    cases q with
    | true =>
      have e : ([(⟨c, true⟩ : S57)].map pieceOf) = [lit c] := rfl
      rw [e] at ih
      have i1 : ∀ v, glob_is.f c true v = some false := fun v => by rw [glob_is.f, if_pos rfl]
      refine Ev.congr (fun k => by rw [i1, i1, i1]) ?_
      simp only [Option.bind_some]
      exact Ev.congr (fun k => by rw [if_neg (by simp), if_neg (by simp), if_neg (by simp), if_pos (by omega), ew]; rfl) ih
    | false =>
      have hc91 : (c == 91) = false := beq_eq_false_iff_ne.2 (hm.resolve_left (by simp))
      have i1 : ∀ v, glob_is.f c false v = some (c == v) := fun v => by rw [glob_is.f, if_neg (by simp)]
      refine Ev.congr (fun k => by rw [i1, i1, i1]) ?_
      simp only [Option.bind_some]
      by_cases h42 : c = 42
      · have e : ([(⟨c, false⟩ : S57)].map pieceOf) = [(⟨true, false, []⟩ : S63)] := by simp [pieceOf, h42]
        rw [e] at ih
        exact Ev.congr (fun k => by rw [if_pos (by simpa using h42), if_pos (by omega), ew]) ih
      · refine Ev.congr (fun k => if_neg (by simpa using h42)) ?_
        by_cases h63 : c = 63
        · have e : ([(⟨c, false⟩ : S57)].map pieceOf) = [(⟨false, true, []⟩ : S63)] := by simp [pieceOf, h63]
          rw [e] at ih
          exact Ev.congr (fun k => by rw [if_pos (by simpa using h63), if_pos (by omega), ew]) ih
        · have e : ([(⟨c, false⟩ : S57)].map pieceOf) = [lit c] := by simp [pieceOf, h42, h63]
          rw [e] at ih
          exact Ev.congr (fun k => by rw [if_neg (by simpa using h63), hc91, if_neg (by simp), if_pos (by omega), ew]; rfl) ih
theorem pieces_ev (p : List S57) (hp : p.length ≤ 1000) (hb : ∀ x ∈ p, x.f1 = true ∨ x.f0 ≠ 91) : Ev (fun k => glob_pieces.f k p) (p.map pieceOf) := pieces_l0 p hp hb p.length 0 (by omega)
theorem pieces_lits (l : List Int) : (charsOf true l).map pieceOf = l.map lit := by
  unfold charsOf
  rw [List.map_map]
  exact List.map_congr_left (fun c _ => rfl)
theorem fits_lit (c d : Int) : fitsB (lit c) d = (c == d) := by
  unfold fitsB lit glob_piece_fits.p
  simp only [List.any_cons, List.any_nil, Bool.or_false]
  by_cases h : c = d
  · subst h; simp
  · rw [beq_eq_false_iff_ne.2 h]
    have : (decide (c ≤ d) && decide (d ≤ c)) = false := by
      rw [Bool.and_eq_false_iff, decide_eq_false_iff_not, decide_eq_false_iff_not]
      omega
    rw [this]
    rfl
/-- Letters by hand: as many are gone by, and they are these. -/
theorem lits_at (text : List Int) : ∀ (m : Nat) (L : List Int) (R : Nat → Bool) (i : Nat), L.length = m → i ≤ text.length → ((L.map lit).foldl (stepR text) R i = (decide (L.length ≤ i) && (R (i - L.length) && ((text.drop (i - L.length)).take L.length == L))))
  | 0, L, R, i, hm, _ => by
    obtain rfl := List.eq_nil_of_length_eq_zero hm
    simp
  | m + 1, L, R, i, hm, hi => by
    obtain ⟨L, c, rfl⟩ : ∃ L' c, L = L' ++ [c] := by
      rcases List.eq_nil_or_concat L with rfl | ⟨L', c, rfl⟩
      · simp at hm
      · exact ⟨L', c, by simp⟩
    have hm' : L.length = m := by simpa using hm
    rw [List.map_append, List.foldl_append]
    show stepR text ((L.map lit).foldl (stepR text) R) (lit c) i = _
    cases i with
    | zero => simp [stepR, lit]
    | succ i =>
      rw [stepR, if_neg (by simp [lit]), lits_at text m L R i hm' (by omega), fits_lit, List.length_append, List.length_singleton, show i + 1 - (L.length + 1) = i - L.length by omega]
      by_cases hL : L.length ≤ i
      · have e1 : decide (L.length ≤ i) = true := decide_eq_true hL
        have e2 : decide (L.length + 1 ≤ i + 1) = true := decide_eq_true (by omega)
        rw [e1, e2, Bool.true_and, Bool.true_and]
        have hd : (text.drop (i - L.length)).take (L.length + 1) = (text.drop (i - L.length)).take L.length ++ [text.getD i 0] := by
          have hlt : L.length < (text.drop (i - L.length)).length := by rw [List.length_drop]; omega
          rw [List.take_succ_eq_append_getElem hlt, List.getElem_drop]
          congr 2
          rw [List.getD_eq_getElem?_getD, List.getElem?_eq_getElem (by omega)]
          simp only [Option.getD_some]
          congr 1
          omega
        rw [hd, Bool.and_assoc]
        congr 1
        rw [Bool.eq_iff_iff]
        simp only [Bool.and_eq_true, beq_iff_eq]
        constructor
        · rintro ⟨h1, h2⟩
          rw [h1, h2]
        · intro h
          have hlen : ((text.drop (i - L.length)).take L.length).length = L.length := by rw [List.length_take, List.length_drop]; omega
          have := List.append_inj h hlen
          exact ⟨this.1, by simpa using this.2.symm⟩
      · have e1 : decide (L.length ≤ i) = false := decide_eq_false hL
        have e2 : decide (L.length + 1 ≤ i + 1) = false := decide_eq_false (by omega)
        rw [e1, e2]
        rfl

theorem known_at : lazaruslaw13_known.f 60 = some true := by decide +kernel
theorem known_ev : Ev (fun k => lazaruslaw13_known.f k) true := Ev.of lazaruslaw13_known.mono known_at
theorem chars_ev (s : ByteArray) (q : Bool) (hs : s.size ≤ 1000) : Ev (fun k => glob_Chars.f k s q) (charsOf q (Kd.letters s)) := by
  have hl := letters_le s
  have h : ∀ (d x11 : Nat), x11 + d = (Kd.letters s).length → Ev (fun k => glob_Chars.l0 k q (charsOf q ((Kd.letters s).take x11)) (Kd.letters s) ((Kd.letters s).length : Int) (x11 : Int)) (charsOf q (Kd.letters s)) := by
    generalize Kd.letters s = L at hl ⊢
    intro d
    induction d with
    | zero =>
      intro x11 hd
      rw [List.take_of_length_le (by omega)]
      exact Ev.step (fun k => by rw [glob_Chars.l0, if_neg (by omega)]) (Ev.now _)
    | succ d ih =>
      intro x11 hd
      have hj : x11 < L.length := by omega
      have er : rd L (x11 : Int) = L[x11] := by rw [rd]; simp [List.getD_eq_getElem?_getD, hj]
      have h1 := ih (x11 + 1) (by omega)
      have hc : (charsOf q (L.take x11)).length ≤ 1000 := by unfold charsOf; rw [List.length_map, List.length_take]; omega
      have e : charsOf q (L.take (x11 + 1)) = charsOf q (L.take x11) ++ [(⟨L[x11], q⟩ : S57)] := by
        unfold charsOf
        rw [List.take_succ_eq_append_getElem hj, List.map_append]
        rfl
      rw [e] at h1
      exact Ev.step (fun k => by rw [glob_Chars.l0, if_pos (by omega), if_pos (by omega), if_pos (by omega), if_pos (by omega), er, w64 (by omega) (by omega), show (x11 : Int) + 1 = ((x11 + 1 : Nat) : Int) by omega]) h1
  refine Ev.congr (fun k => by rw [glob_Chars.f, lettersD s (by omega), Option.bind_some]) ?_
  exact h (Kd.letters s).length 0 (by omega)
theorem f0_chars (q : Bool) (l : List Int) : (charsOf q l).map (·.f0) = l := by unfold charsOf; rw [List.map_map]; exact List.map_id l
theorem chars_len (q : Bool) (l : List Int) : (charsOf q l).length = l.length := by unfold charsOf; rw [List.length_map]
/-- Letters by hand match just these. -/
theorem match_lits (l : List Int) (s : ByteArray) (hs : s.size ≤ 1000) (hl : l.length ≤ 1000) : Ev (fun k => glob_Match.f k (charsOf true l) s) (l == Kd.letters s) := by
  have h := match_ev (charsOf true l) s (l.map lit) hs (by rw [List.length_map]; omega) (by rw [← pieces_lits]; exact pieces_ev _ (by rw [chars_len]; omega) (fun x hx => by obtain ⟨c, _, rfl⟩ := List.mem_map.1 hx; exact .inl rfl))
  rw [lits_at (Kd.letters s) l.length l start _ rfl (Nat.le_refl _)] at h
  have e : (decide (l.length ≤ (Kd.letters s).length) && (start ((Kd.letters s).length - l.length) && (((Kd.letters s).drop ((Kd.letters s).length - l.length)).take l.length == l))) = (l == Kd.letters s) := by
    generalize Kd.letters s = t
    by_cases hlen : l.length = t.length
    · have e1 : t.length - l.length = 0 := by omega
      rw [e1, List.drop_zero, List.take_of_length_le (by omega), decide_eq_true (by omega)]
      simp only [start, beq_self_eq_true, Bool.true_and]
      rw [Bool.eq_iff_iff, beq_iff_eq, beq_iff_eq]
      exact eq_comm
    · have e1 : (l == t) = false := beq_eq_false_iff_ne.2 (fun h => hlen (by rw [h]))
      rw [e1]
      by_cases h1 : l.length ≤ t.length
      · have e2 : start (t.length - l.length) = false := by simp only [start, beq_eq_false_iff_ne]; omega
        rw [e2]
        simp
      · rw [decide_eq_false h1]
        rfl
  rw [e] at h
  exact h

theorem text_ev (l : List S57) (hl : l.length ≤ 1000) : Ev (fun k => glob_Text.f k l) (runesBytes (l.map (·.f0))) := by
  have h : ∀ (d x8 : Nat), x8 + d = l.length → Ev (fun k => glob_Text.l0 k ((l.take x8).map (·.f0)) l (l.length : Int) (x8 : Int)) (runesBytes (l.map (·.f0))) := by
    intro d
    induction d with
    | zero =>
      intro x8 hd
      rw [List.take_of_length_le (by omega)]
      exact Ev.step (fun k => by rw [glob_Text.l0, if_neg (by omega)]) (Ev.now _)
    | succ d ih =>
      intro x8 hd
      have hj : x8 < l.length := by omega
      have er : rd_T57 l (x8 : Int) = l[x8] := by unfold rd_T57; simp [List.getD_eq_getElem?_getD, hj]
      have h1 := ih (x8 + 1) (by omega)
      have hc : ((l.take x8).map (·.f0)).length ≤ 1000 := by rw [List.length_map, List.length_take]; omega
      have e : (l.take (x8 + 1)).map (·.f0) = (l.take x8).map (·.f0) ++ [l[x8].f0] := by
        rw [List.take_succ_eq_append_getElem hj, List.map_append]
        rfl
      rw [e] at h1
      exact Ev.step (fun k => by rw [glob_Text.l0, if_pos (by omega), if_pos (by omega), if_pos (by omega), if_pos (by omega), er, w64 (by omega) (by omega), show (x8 : Int) + 1 = ((x8 + 1 : Nat) : Int) by omega]) h1
  exact h l.length 0 (by omega)
theorem has_quoted (l : List Int) : glob_Has.f (charsOf true l) = some false := by
  rw [glob_Has.f]
  congr 1
  rw [List.any_eq_false]
  intro x hx
  obtain ⟨c, _, rfl⟩ := List.mem_map.1 hx
  simp [glob_Has.p]

theorem same13 (l : List S57) (hl : l.length < 4611686018427387904) : ∀ (d : Nat) (x5 : Int), 0 ≤ x5 → x5 + d = l.length → Ev (fun k => lazarusref13_Same.l0 k l l x5) true
  | 0, x5, h0, hd => Ev.step (fun k => by rw [lazarusref13_Same.l0, if_neg (by omega)]) (Ev.now _)
  | d + 1, x5, h0, hd => Ev.step (fun k => by rw [lazarusref13_Same.l0, if_pos (by omega), if_pos h0, if_pos (by omega), if_neg (by simp), w64 (by omega) (by omega)]) (same13 l hl d (x5 + 1) (by omega) (by omega))
theorem same13_f (l : List S57) (hl : l.length < 4611686018427387904) : Ev (fun k => lazarusref13_Same.f k l l) true := Ev.congr (fun k => by rw [lazarusref13_Same.f, if_pos rfl]) (same13 l hl l.length 0 (by omega) (by omega))
/-! Letters out of a text, and back: two texts' letters are written alike just if they are alike. -/
def Good (c : Int) : Prop := (0 ≤ c ∧ c < 55296) ∨ (57344 ≤ c ∧ c ≤ 1114111)
theorem dec_good (s : ByteArray) (pos : Nat) : Good ((Utf8.decode s pos).1 : Int) := by
  rw [Lib.decode_at]
  have hb := (s.get! pos).toNat_lt
  generalize (s.get! pos).toNat = b0 at *
  generalize (s.get! (pos + 1)).toNat = b1
  generalize (s.get! (pos + 2)).toNat = b2
  generalize (s.get! (pos + 3)).toNat = b3
  unfold Lib.decodeN Good
  repeat' split
  all_goals (simp only; omega)
theorem letN_good (s : ByteArray) : ∀ (d pos : Nat), ∀ c ∈ Kd.letN s d pos, Good c
  | 0, _, c, h => by simp [Kd.letN] at h
  | d + 1, pos, c, h => by
    rw [Kd.letN] at h
    split at h
    · rcases List.mem_cons.1 h with rfl | h
      · exact dec_good s pos
      · exact letN_good s d _ c h
    · simp at h
theorem letters_good (s : ByteArray) : ∀ c ∈ Kd.letters s, Good c := letN_good s s.size 0
/-- A letter's bytes. -/
def enc (c : Nat) : List Nat := if c < 128 then [c] else if c < 2048 then [192 + c / 64, 128 + c % 64] else if c < 65536 then [224 + c / 4096, 128 + c / 64 % 64, 128 + c % 64] else [240 + c / 262144, 128 + c / 4096 % 64, 128 + c / 64 % 64, 128 + c % 64]
theorem b8 (n : Nat) (h : n < 256) : (UInt8.ofNat n).toNat = n := by simp; omega
theorem encode_enc (c : Int) (h : Good c) : (Utf8.encode c).data.toList.map (·.toNat) = enc c.toNat := by
  have hv : Utf8.valid c = true := by
    unfold Good at h
    simp [Utf8.valid]
    omega
  unfold Good at h
  unfold Utf8.encode enc
  rw [hv]
  simp only [if_true]
  by_cases h1 : c.toNat < 128
  · rw [if_pos h1, if_pos h1]; simp; omega
  rw [if_neg h1, if_neg h1]
  by_cases h2 : c.toNat < 2048
  · rw [if_pos h2, if_pos h2]; simp; omega
  rw [if_neg h2, if_neg h2]
  by_cases h3 : c.toNat < 65536
  · rw [if_pos h3, if_pos h3]; simp; omega
  · rw [if_neg h3, if_neg h3]; simp; omega
theorem enc_split (c d : Nat) (hc : c ≤ 1114111) (hd : d ≤ 1114111) (s t : List Nat) (h : enc c ++ s = enc d ++ t) : c = d ∧ s = t := by
  unfold enc at h
  by_cases c1 : c < 128 <;> by_cases d1 : d < 128 <;> by_cases c2 : c < 2048 <;> by_cases d2 : d < 2048 <;> by_cases c3 : c < 65536 <;> by_cases d3 : d < 65536 <;> simp only [c1, d1, c2, d2, c3, d3, if_true, if_false, List.cons_append, List.nil_append, List.cons.injEq] at h <;> first | omega | (exact ⟨by omega, by first | exact h.2 | exact h.2.2 | exact h.2.2.2 | exact h.2.2.2.2⟩)
theorem enc_ne (n : Nat) : enc n ≠ [] := by
  unfold enc
  by_cases h1 : n < 128
  · rw [if_pos h1]; simp
  rw [if_neg h1]
  by_cases h2 : n < 2048
  · rw [if_pos h2]; simp
  rw [if_neg h2]
  by_cases h3 : n < 65536
  · rw [if_pos h3]; simp
  · rw [if_neg h3]; simp
theorem enc_inj : ∀ (l m : List Int), (∀ c ∈ l, Good c) → (∀ c ∈ m, Good c) → (l.map fun c => enc c.toNat).flatten = (m.map fun c => enc c.toNat).flatten → l = m
  | [], [], _, _, _ => rfl
  | [], d :: m, _, _, h => by
    exfalso
    have := enc_ne d.toNat
    simp only [List.map_nil, List.flatten_nil, List.map_cons, List.flatten_cons] at h
    exact this (List.append_eq_nil_iff.1 h.symm).1
  | c :: l, [], _, _, h => by
    exfalso
    have := enc_ne c.toNat
    simp only [List.map_nil, List.flatten_nil, List.map_cons, List.flatten_cons] at h
    exact this (List.append_eq_nil_iff.1 h).1
  | c :: l, d :: m, hl, hm, h => by
    simp only [List.map_cons, List.flatten_cons] at h
    have gc := hl c (by simp)
    have gd := hm d (by simp)
    unfold Good at gc gd
    obtain ⟨h1, h2⟩ := enc_split _ _ (by omega) (by omega) _ _ h
    have := enc_inj l m (fun x hx => hl x (by simp [hx])) (fun x hx => hm x (by simp [hx])) h2
    rw [this, show c = d by omega]
theorem runes_enc (l : List Int) (hl : ∀ c ∈ l, Good c) : (runesBytes l).data.toList.map (·.toNat) = (l.map fun c => enc c.toNat).flatten := by
  have h : ∀ (l : List Int) (r : ByteArray), (∀ c ∈ l, Good c) → (l.foldl (fun r n => r ++ Utf8.encode n) r).data.toList.map (·.toNat) = r.data.toList.map (·.toNat) ++ (l.map fun c => enc c.toNat).flatten := by
    intro l
    induction l with
    | nil => intro r _; simp
    | cons c l ih =>
      intro r hc
      rw [List.foldl_cons, ih _ (fun x hx => hc x (by simp [hx]))]
      have e := encode_enc c (hc c (by simp))
      rw [ByteArray.data_append, Array.toList_append, List.map_append, e]
      simp
  exact (h l ByteArray.empty hl).trans rfl
theorem text_inj (s t : ByteArray) : ((runesBytes (Kd.letters s)).toList == (runesBytes (Kd.letters t)).toList) = (Kd.letters s == Kd.letters t) := by
  rw [Bool.eq_iff_iff, beq_iff_eq, beq_iff_eq, Lib.toList_data, Lib.toList_data]
  constructor
  · intro h
    apply enc_inj _ _ (letters_good s) (letters_good t)
    rw [← runes_enc _ (letters_good s), ← runes_enc _ (letters_good t), h]
  · intro h
    rw [h]
theorem GlobSelf : ∀ (a0 : ByteArray) (a1 : ByteArray), a0.size ≤ 140737488351232 → a1.size ≤ 140737488351232 → ∃ k, lazaruslaw13_GlobSelf.f k a0 a1 = some true := by
  intro s t _ _
  by_cases h1 : (s.size : Int) > 60
  · exact ⟨1, by rw [lazaruslaw13_GlobSelf.f, if_pos h1, lazaruslaw13_GlobSelf.j0, if_pos rfl]⟩
  by_cases h2 : (t.size : Int) > 60
  · exact ⟨1, by rw [lazaruslaw13_GlobSelf.f, if_neg h1, lazaruslaw13_GlobSelf.j0, if_pos (decide_eq_true h2)]⟩
  have hls := letters_le s
  have hlt := letters_le t
  have hts := text_ev (charsOf true (Kd.letters s)) (by rw [chars_len]; omega)
  have htt := text_ev (charsOf true (Kd.letters t)) (by rw [chars_len]; omega)
  rw [f0_chars] at hts htt
  have hms := match_lits (Kd.letters s) s (by omega) (by omega)
  rw [beq_self_eq_true] at hms
  refine Ev.rounds (g := fun k => lazaruslaw13_GlobSelf.f k s t) (Ev.congr (fun k => by rw [lazaruslaw13_GlobSelf.f, if_neg h1]) ?_)
  refine Ev.step (fun k => by rw [lazaruslaw13_GlobSelf.j0, if_neg (by simpa using h2)]) ?_
  refine Ev.bind (chars_ev s true (by omega)) (Ev.bind (ref_chars s true (by omega)) (Ev.bind (same13_f _ (by rw [chars_len]; omega)) ?_))
  refine Ev.congr (fun k => if_pos rfl) ?_
  refine Ev.bind hms ?_
  refine Ev.congr (fun k => by rw [if_pos rfl, has_quoted, Option.bind_some, if_neg (by simp)]) ?_
  refine Ev.bind (match_lits (Kd.letters s) t (by omega) (by omega)) (Ev.bind hts (Ev.bind (chars_ev t true (by omega)) (Ev.bind htt ?_)))
  refine Ev.congr (fun k => if_pos (by rw [text_inj]; simp)) ?_
  exact Ev.bind known_ev (Ev.now _)

end Go.Proofs.YtnhmfeihnjdcpaaDoor.Pure
