/- Any runs' fields; all as one: the printed law answers true. No conditions beyond the laid tables of the library. -/
import Derived.Test.YtnhmfeihnjdcpaaDoorQSplitFieldsx6
import Derived.Lib.RuneCountTail
namespace Go.Proofs.YtnhmfeihnjdcpaaDoor.Pure
open Go.RowKit Go.Proofs.YtnhmfeihnjdcpaaDoor.QSplitFields Go.Proofs.YtnhmfeihnjdcpaaDoorW.PrintWords Go.Proofs.YtnhmfeihnjdcpaaDoorW.PrintLast
set_option linter.unusedVariables false

theorem w64 {x : Int} (h₀ : -9223372036854775808 ≤ x) (h₁ : x < 9223372036854775808) : wrap64 x = x := by unfold wrap64; omega
theorem dec_go (s : ByteArray) (pos : Nat) (h : pos < s.size) : Lib.decodeGo (s.extract pos s.size) = Utf8.decode s pos := by
  rw [Lib.decodeGo, if_neg (by rw [Lib.tail_size]; omega), Lib.tail_decode, Nat.add_zero]
theorem dec_f (s : ByteArray) (pos : Nat) (h : pos < s.size) : utf8_DecodeRuneInString.f (s.extract pos s.size) = some (((Utf8.decode s pos).1 : Int), ((Utf8.decode s pos).2 : Int)) := by
  rw [utf8_DecodeRuneInString.f, dec_go s pos h]
theorem width_le (s : ByteArray) (pos : Nat) (h : pos < s.size) : pos + (Utf8.decode s pos).2 ≤ s.size := by
  rw [Lib.decode_at]
  unfold Lib.decodeN
  repeat' split
  all_goals (simp only; omega)
theorem cut_cut (s : ByteArray) (pos n : Nat) (h : pos + n ≤ s.size) : (s.extract pos s.size).extract n (s.extract pos s.size).size = s.extract (pos + n) s.size := by
  rw [Lib.tail_size, Lib.extract_eq, Lib.extract_eq, Lib.extract_eq]
  congr 2
  have e : s.size = s.data.toList.length := Lib.size_eq s
  rw [List.take_of_length_le (by simp), List.take_of_length_le (by simp), List.take_of_length_le (by simp)]
  simp
theorem cut_all (s : ByteArray) : s.extract 0 s.size = s := by
  rw [Lib.extract_eq]
  have e : s.size = s.data.toList.length := Lib.size_eq s
  rw [List.drop_zero, Nat.sub_zero, List.take_of_length_le (by omega)]
theorem lettersD (s : ByteArray) (hs : s.size < 17592186044416) : glyph_Runes.f s = some (Kd.letters s) := by rw [glyph_Runes.f, if_pos hs]

theorem ref_runes (s : ByteArray) (hs : s.size ≤ 1000) : ∀ (d pos : Nat) (acc : List Int), s.size - pos ≤ d → pos ≤ s.size → acc.length ≤ pos →
    Ev (fun k => lazarusref7_Runes.l0 k (s.extract pos s.size) acc) (acc ++ Kd.letN s (s.size - pos) pos)
  | d, pos, acc, hd, hp, ha => by
    have hz := Lib.tail_size s pos
    by_cases hlt : pos < s.size
    · obtain ⟨d, rfl⟩ : ∃ d', d = d' + 1 := ⟨d - 1, by omega⟩
      have hw := width_le s pos hlt
      have hw1 := Kd.width_pos s pos hlt
      refine Ev.step (fun k => by rw [lazarusref7_Runes.l0, if_pos (by omega), dec_f s pos hlt]) ?_
      simp only [Option.bind_some]
      refine Ev.congr (fun k => by rw [if_pos (by omega), if_pos (by omega), if_pos (by omega), show (((Utf8.decode s pos).2 : Nat) : Int).toNat = (Utf8.decode s pos).2 by omega, cut_cut s pos _ hw]) ?_
      have ih := ref_runes s hs d (pos + (Utf8.decode s pos).2) (acc ++ [((Utf8.decode s pos).1 : Int)]) (by omega) hw (by simp; omega)
      rw [Kd.letN_at s pos hlt]
      simpa using ih
    · rw [Kd.letN_end s _ _ hlt, List.append_nil]
      exact Ev.step (fun k => by rw [lazarusref7_Runes.l0, if_neg (by omega)]) (Ev.now _)
theorem ref_runes_f (s : ByteArray) (hs : s.size ≤ 1000) : Ev (fun k => lazarusref7_Runes.f k s) (Kd.letters s) := by
  have h := ref_runes s hs s.size 0 [] (by omega) (by omega) (by simp)
  rw [cut_all, List.nil_append, Nat.sub_zero] at h
  exact h

def charsOf (q : Bool) (l : List Int) : List S57 := l.map (fun c => (⟨c, q⟩ : S57))
theorem ref_chars_l (q : Bool) (l : List Int) (hl : l.length ≤ 1000) : ∀ (d : Nat) (x7 : Nat), x7 + d = l.length → Ev (fun k => lazarusref13_Chars.l0 k q l (charsOf q (l.take x7)) (x7 : Int)) (charsOf q l)
  | 0, x7, hd => by
    rw [List.take_of_length_le (by omega)]
    exact Ev.step (fun k => by rw [lazarusref13_Chars.l0, if_neg (by omega)]) (Ev.now _)
  | d + 1, x7, hd => by
    have hj : x7 < l.length := by omega
    have er : rd l (x7 : Int) = l[x7] := by rw [rd]; simp [List.getD_eq_getElem?_getD, hj]
    have ih := ref_chars_l q l hl d (x7 + 1) (by omega)
    have hc : (charsOf q (l.take x7)).length ≤ 1000 := by unfold charsOf; rw [List.length_map, List.length_take]; omega
    have e : charsOf q (l.take (x7 + 1)) = charsOf q (l.take x7) ++ [(⟨l[x7], q⟩ : S57)] := by
      unfold charsOf
      rw [List.take_succ_eq_append_getElem hj, List.map_append]
      rfl
    rw [e] at ih
    exact Ev.step (fun k => by rw [lazarusref13_Chars.l0, if_pos (by omega), if_pos (by omega), if_pos (by omega), er, w64 (by omega) (by omega), show (x7 : Int) + 1 = ((x7 + 1 : Nat) : Int) by omega]) ih
theorem letters_le (s : ByteArray) : (Kd.letters s).length ≤ s.size := Kd.letN_len s s.size 0
theorem ref_chars (s : ByteArray) (q : Bool) (hs : s.size ≤ 1000) : Ev (fun k => lazarusref13_Chars.f k s q) (charsOf q (Kd.letters s)) := by
  have hl := letters_le s
  exact Ev.bind (ref_runes_f s hs) (ref_chars_l q (Kd.letters s) (by omega) _ 0 (Nat.zero_add _))

def conv (r : S42) : S72 := ⟨r.f0, r.f1, r.f2, r.f3⟩
theorem known_at : lazaruslaw15_known.f 60 = some true := by decide +kernel
theorem known_ev : Ev (fun k => lazaruslaw15_known.f k) true := Ev.of lazaruslaw15_known.mono known_at
theorem blank7 (c : Int) : lazarusref7_Blank.f c = some (split_Fields.blank c) := split_Fields.blank_f c
theorem runs_ev (l : List S42) (hl : l.length ≤ 1000) : ∀ (d : Nat) (x4 : Nat), x4 + d = l.length → Ev (fun k => lazaruslaw15_runs.l0 k l ((l.take x4).map conv) (x4 : Int)) (l.map conv)
  | 0, x4, hd => by
    rw [List.take_of_length_le (by omega)]
    exact Ev.step (fun k => by rw [lazaruslaw15_runs.l0, if_neg (by omega)]) (Ev.now _)
  | d + 1, x4, hd => by
    have hj : x4 < l.length := by omega
    have er : rd_T42 l (x4 : Int) = l[x4] := by unfold rd_T42; simp [List.getD_eq_getElem?_getD, hj]
    have ih := runs_ev l hl d (x4 + 1) (by omega)
    have hc : ((l.take x4).map conv).length ≤ 1000 := by rw [List.length_map, List.length_take]; omega
    have e : (l.take (x4 + 1)).map conv = (l.take x4).map conv ++ [(⟨l[x4].f0, l[x4].f1, l[x4].f2, l[x4].f3⟩ : S72)] := by
      rw [List.take_succ_eq_append_getElem hj, List.map_append]
      rfl
    rw [e] at ih
    exact Ev.step (fun k => by rw [lazaruslaw15_runs.l0, if_pos (by omega), if_pos (by omega), if_pos (by omega), er, w64 (by omega) (by omega), show (x4 : Int) + 1 = ((x4 + 1 : Nat) : Int) by omega]) ih
/-- One letter, as the document puts it. -/
def stepQ (q sp : Bool) (s : split_Fields.St) (c : Int) : split_Fields.St := if (sp && !q && split_Fields.blank c) = true then split_Fields.endS s else split_Fields.putS [⟨c, q⟩] s
theorem stepQ_plain (sp : Bool) : ∀ (l : List Int) (s : split_Fields.St), l.foldl (stepQ false sp) s = split_Fields.plainS sp l s
  | [], s => rfl
  | c :: l, s => by
    have e : stepQ false sp s c = split_Fields.stepS sp s c := by unfold stepQ split_Fields.stepS; simp
    show l.foldl (stepQ false sp) (stepQ false sp s c) = l.foldl (split_Fields.stepS sp) (split_Fields.stepS sp s c)
    rw [e]
    exact stepQ_plain sp l _
theorem stepQ_quote (sp : Bool) : ∀ (l : List Int) (fs : List (List S57)) (now : List S57), l.foldl (stepQ true sp) ⟨fs, now, true⟩ = ⟨fs, now ++ charsOf true l, true⟩
  | [], fs, now => by simp [charsOf]
  | c :: l, fs, now => by
    have e : stepQ true sp ⟨fs, now, true⟩ c = ⟨fs, now ++ [⟨c, true⟩], true⟩ := by unfold stepQ; simp [split_Fields.putS]
    rw [List.foldl_cons, e, stepQ_quote sp l]
    simp [charsOf]
theorem wt_stepQ (q sp : Bool) (s : split_Fields.St) (c : Int) : split_Fields.wt (stepQ q sp s c) ≤ split_Fields.wt s + 2 := by
  unfold stepQ
  split
  · have := split_Fields.wt_end s; omega
  · have := split_Fields.wt_put [⟨c, q⟩] s; simp at this; omega
theorem ref_l1 (x0 : List S72) (x6 : Int) (t0 : ByteArray) (q sp br : Bool) (L : List Int) (hL : L.length ≤ 1000) (r : List (List S57)) : ∀ (d : Nat) (x9 : Nat) (s : split_Fields.St), x9 + d = L.length → split_Fields.wt s + 2 * d ≤ 100000 →
    (∀ s', s' = (L.drop x9).foldl (stepQ q sp) s → Ev (fun k => lazarusref15_Fields.l0 k x0 s'.fs s'.now s'.begun (wrap64 (x6 + 1))) r) → Ev (fun k => lazarusref15_Fields.l1 k x0 s.fs s.now s.begun x6 (charsOf q L) (x9 : Int) t0 q sp br) r
  | 0, x9, s, hd, hw, h => by
    have hlen : (charsOf q L).length = L.length := by simp [charsOf]
    refine Ev.step (fun k => by rw [lazarusref15_Fields.l1, if_neg (by omega)]) ?_
    exact h s (by rw [List.drop_of_length_le (by omega)]; rfl)
  | d + 1, x9, s, hd, hw, h => by
    have hlen : (charsOf q L).length = L.length := by simp [charsOf]
    have hj : x9 < L.length := by omega
    have er : rd_T57 (charsOf q L) (x9 : Int) = ⟨L[x9], q⟩ := by unfold rd_T57 charsOf; simp [List.getD_eq_getElem?_getD, hj]
    have hws := wt_stepQ q sp s L[x9]
    have ih := ref_l1 x0 x6 t0 q sp br L hL r d (x9 + 1) (stepQ q sp s L[x9]) (by omega) (by omega) (fun s' hs' => h s' (by rw [hs', List.drop_eq_getElem_cons hj]; rfl))
    have hfs : s.fs.length ≤ split_Fields.wt s := by unfold split_Fields.wt; omega
    have hnow : s.now.length ≤ split_Fields.wt s := by unfold split_Fields.wt; omega
    have ew : wrap64 ((x9 : Int) + 1) = ((x9 + 1 : Nat) : Int) := by rw [w64 (by omega) (by omega)]; omega
    -- the join behind the test
    have hj3 : ∀ b, b = (sp && !q && split_Fields.blank L[x9]) → Ev (fun k => lazarusref15_Fields.j3 k x0 s.fs s.now s.begun x6 (charsOf q L) (x9 : Int) b t0 q sp br) r := by
      intro b hb
      cases b with
      | true =>
        have e : stepQ q sp s L[x9] = split_Fields.endS s := by unfold stepQ; rw [← hb, if_pos rfl]
        rw [e] at ih
        refine Ev.step (fun k => by rw [lazarusref15_Fields.j3, if_pos rfl]) ?_
        cases hbg : s.begun with
        | true =>
          unfold split_Fields.endS at ih
          rw [hbg, if_pos rfl] at ih
          exact Ev.congr (fun k => by rw [if_pos rfl, if_pos (by omega), ew]) ih
        | false =>
          unfold split_Fields.endS at ih
          rw [hbg, if_neg (by simp)] at ih
          exact Ev.congr (fun k => by rw [if_neg (by simp), ew]) ih
      | false =>
        have e : stepQ q sp s L[x9] = split_Fields.putS [⟨L[x9], q⟩] s := by unfold stepQ; rw [← hb, if_neg (by simp)]
        rw [e] at ih
        exact Ev.step (fun k => by rw [lazarusref15_Fields.j3, if_neg (by simp), if_pos (by omega), if_pos (by omega), if_pos (by omega), er, ew]; rfl) ih
    refine Ev.step (fun k => by rw [lazarusref15_Fields.l1, if_pos (by omega)]) ?_
    cases sp with
    | false => exact Ev.congr (fun k => if_neg (by simp)) (hj3 false (by simp))
    | true =>
      refine Ev.congr (fun k => if_pos rfl) ?_
      cases q with
      | true => exact Ev.congr (fun k => if_pos rfl) (hj3 false (by simp))
      | false =>
        refine Ev.congr (fun k => by rw [if_neg (by simp), if_pos (by omega), er, blank7]) ?_
        simp only [Option.bind_some]
        exact hj3 _ (by simp)
theorem run_is (s : split_Fields.St) (r : S42) : split_Fields.runS s r = if r.f3 = true then split_Fields.endS s else (Kd.letters r.f0).foldl (stepQ r.f1 r.f2) (if r.f1 = true then ⟨s.fs, s.now, true⟩ else s) := by
  unfold split_Fields.runS
  split
  · rfl
  · cases h1 : r.f1 with
    | true =>
      rw [if_pos rfl, if_pos rfl, stepQ_quote]
      rfl
    | false => rw [if_neg (by simp), if_neg (by simp), stepQ_plain]
theorem ref_l0 (l : List S42) (hl : l.length ≤ 1000) (hw : ∀ r ∈ l, r.f0.size ≤ 300) : ∀ (d : Nat) (x6 : Nat) (s : split_Fields.St), x6 + d = l.length → split_Fields.wt s + 1000 * d ≤ 60000 →
    Ev (fun k => lazarusref15_Fields.l0 k (l.map conv) s.fs s.now s.begun (x6 : Int)) (split_Fields.endS ((l.drop x6).foldl split_Fields.runS s)).fs
  | 0, x6, s, hd, hb => by
    have hfs : s.fs.length ≤ split_Fields.wt s := by unfold split_Fields.wt; omega
    rw [List.drop_of_length_le (by omega)]
    refine Ev.step (fun k => by rw [lazarusref15_Fields.l0, if_neg (by rw [List.length_map]; omega)]) ?_
    show Ev _ (if s.begun = true then s.fs ++ [s.now] else s.fs)
    cases s.begun with
    | true => exact Ev.congr (fun k => by rw [if_pos rfl, if_pos (by omega)]; rfl) (Ev.now _)
    | false => exact Ev.congr (fun k => by rw [if_neg (by simp)]; rfl) (Ev.now _)
  | d + 1, x6, s, hd, hb => by
    have hj : x6 < l.length := by omega
    have er : rd_T72 (l.map conv) (x6 : Int) = conv l[x6] := by unfold rd_T72; simp [List.getD_eq_getElem?_getD, hj]
    have hsz := hw _ (List.getElem_mem hj)
    have hrun := split_Fields.wt_run s l[x6]
    have hfs : s.fs.length ≤ split_Fields.wt s := by unfold split_Fields.wt; omega
    have ih := ref_l0 l hl hw d (x6 + 1) (split_Fields.runS s l[x6]) (by omega) (by omega)
    have ew : wrap64 ((x6 : Int) + 1) = ((x6 + 1 : Nat) : Int) := by rw [w64 (by omega) (by omega)]; omega
    rw [List.drop_eq_getElem_cons hj, List.foldl_cons]
    obtain ⟨res, hres⟩ : ∃ res, (split_Fields.endS ((l.drop (x6 + 1)).foldl split_Fields.runS (split_Fields.runS s l[x6]))).fs = res := ⟨_, rfl⟩
    rw [hres] at ih ⊢
    rw [run_is s l[x6]] at ih
    refine Ev.step (fun k => by rw [lazarusref15_Fields.l0, if_pos (by rw [List.length_map]; omega), if_pos (by omega), er]) ?_
    obtain ⟨⟨t0, q, sp, br⟩, hr⟩ : ∃ r, l[x6] = r := ⟨_, rfl⟩
    rw [hr] at ih hsz
    rw [hr]
    simp only [conv] at ih ⊢
    cases br with
    | true =>
      rw [if_pos rfl] at ih
      refine Ev.congr (fun k => if_pos rfl) ?_
      unfold split_Fields.endS at ih
      cases hbg : s.begun with
      | true =>
        rw [hbg, if_pos rfl] at ih
        exact Ev.congr (fun k => by rw [if_pos rfl, if_pos (by omega), ew]) ih
      | false =>
        rw [hbg, if_neg (by simp)] at ih
        exact Ev.congr (fun k => by rw [if_neg (by simp), ew]) ih
    | false =>
      rw [if_neg (by simp)] at ih
      refine Ev.congr (fun k => if_neg (by simp)) ?_
      have hsz' : t0.size ≤ 300 := hsz
      have hll := letters_le t0
      have hch := ref_chars t0 q (by omega)
      cases q with
      | true =>
        rw [if_pos rfl] at ih
        refine Ev.congr (fun k => if_pos rfl) ?_
        refine Ev.step (fun k => by rw [lazarusref15_Fields.j1]) ?_
        refine Ev.bind hch ?_
        refine ref_l1 (l.map conv) (x6 : Int) t0 true sp false (Kd.letters t0) (by omega) res (Kd.letters t0).length 0 ⟨s.fs, s.now, true⟩ (by omega) (by unfold split_Fields.wt at hb ⊢; simp only; split at hb <;> simp <;> omega) ?_
        intro s' hs'
        rw [List.drop_zero] at hs'
        rw [hs', ew]
        exact ih
      | false =>
        rw [if_neg (by simp)] at ih
        refine Ev.congr (fun k => if_neg (by simp)) ?_
        refine Ev.step (fun k => by rw [lazarusref15_Fields.j1]) ?_
        refine Ev.bind hch ?_
        refine ref_l1 (l.map conv) (x6 : Int) t0 false sp false (Kd.letters t0) (by omega) res (Kd.letters t0).length 0 s (by omega) (by omega) ?_
        intro s' hs'
        rw [List.drop_zero] at hs'
        rw [hs', ew]
        exact ih
theorem same13 (l : List S57) (hl : l.length < 4611686018427387904) : ∀ (d : Nat) (x5 : Int), 0 ≤ x5 → x5 + d = l.length → Ev (fun k => lazarusref13_Same.l0 k l l x5) true
  | 0, x5, h0, hd => Ev.step (fun k => by rw [lazarusref13_Same.l0, if_neg (by omega)]) (Ev.now _)
  | d + 1, x5, h0, hd => Ev.step (fun k => by rw [lazarusref13_Same.l0, if_pos (by omega), if_pos h0, if_pos (by omega), if_neg (by simp), w64 (by omega) (by omega)]) (same13 l hl d (x5 + 1) (by omega) (by omega))
theorem same13_f (l : List S57) (hl : l.length < 4611686018427387904) : Ev (fun k => lazarusref13_Same.f k l l) true := Ev.congr (fun k => by rw [lazarusref13_Same.f, if_pos rfl]) (same13 l hl l.length 0 (by omega) (by omega))
theorem same15 (l : List (List S57)) (hl : l.length < 4611686018427387904) (hf : ∀ f ∈ l, f.length < 4611686018427387904) : ∀ (d : Nat) (x5 : Int), 0 ≤ x5 → x5 + d = l.length → Ev (fun k => lazarusref15_Same.l0 k l l x5) true
  | 0, x5, h0, hd => Ev.step (fun k => by rw [lazarusref15_Same.l0, if_neg (by omega)]) (Ev.now _)
  | d + 1, x5, h0, hd => by
    have hm : rd_L7 l x5 ∈ l := by
      have hj : x5.toNat < l.length := by omega
      have : rd_L7 l x5 = l[x5.toNat] := by unfold rd_L7; simp [List.getD_eq_getElem?_getD, hj]
      rw [this]; exact List.getElem_mem hj
    refine Ev.step (fun k => by rw [lazarusref15_Same.l0, if_pos (by omega), if_pos h0, if_pos (by omega)]) ?_
    refine Ev.bind (same13_f _ (hf _ hm)) ?_
    exact Ev.congr (fun k => by rw [if_pos rfl, w64 (by omega) (by omega)]) (same15 l hl hf d (x5 + 1) (by omega) (by omega))
/-- All letters as one field. -/
def joinOf (l : List S42) : List S57 := (l.map fun r => if r.f3 = true then [(⟨32, false⟩ : S57)] else charsOf r.f1 (Kd.letters r.f0)).flatten
theorem join_snoc (l : List S42) (r : S42) : joinOf (l ++ [r]) = joinOf l ++ (if r.f3 = true then [(⟨32, false⟩ : S57)] else charsOf r.f1 (Kd.letters r.f0)) := by
  unfold joinOf
  rw [List.map_append, List.flatten_append]
  simp
theorem join_len : ∀ (l : List S42), (∀ r ∈ l, r.f0.size ≤ 300) → (joinOf l).length ≤ 301 * l.length
  | [], _ => by simp [joinOf]
  | r :: l, h => by
    have ih := join_len l (fun r' hr => h r' (by simp [hr]))
    have h1 := h r (by simp)
    have h2 := letters_le r.f0
    have e : joinOf (r :: l) = (if r.f3 = true then [(⟨32, false⟩ : S57)] else charsOf r.f1 (Kd.letters r.f0)) ++ joinOf l := by unfold joinOf; simp
    rw [e, List.length_append, List.length_cons]
    split
    · simp only [List.length_cons, List.length_nil]; omega
    · rw [show (charsOf r.f1 (Kd.letters r.f0)).length = (Kd.letters r.f0).length by simp [charsOf]]; omega
theorem join_l0 (l : List S42) (hl : l.length ≤ 1000) (hw : ∀ r ∈ l, r.f0.size ≤ 300) : ∀ (d : Nat) (x8 : Nat), x8 + d = l.length → Ev (fun k => split_Join.l0 k (joinOf (l.take x8)) l (l.length : Int) (x8 : Int)) (joinOf l)
  | 0, x8, hd => by
    rw [List.take_of_length_le (by omega)]
    exact Ev.step (fun k => by rw [split_Join.l0, if_neg (by omega)]) (Ev.now _)
  | d + 1, x8, hd => by
    have hj : x8 < l.length := by omega
    have er : rd_T42 l (x8 : Int) = l[x8] := by unfold rd_T42; simp [List.getD_eq_getElem?_getD, hj]
    have hsz := hw _ (List.getElem_mem hj)
    have hlen := join_len (l.take x8) (fun r hr => hw r (List.mem_of_mem_take hr))
    have ht : (l.take x8).length ≤ 1000 := by rw [List.length_take]; omega
    have ew : wrap64 ((x8 : Int) + 1) = ((x8 + 1 : Nat) : Int) := by rw [w64 (by omega) (by omega)]; omega
    have ih := join_l0 l hl hw d (x8 + 1) (by omega)
    rw [List.take_succ_eq_append_getElem hj, join_snoc] at ih
    refine Ev.step (fun k => by rw [split_Join.l0, if_pos (by omega), if_pos (by omega), if_pos (by omega), er]) ?_
    cases hb : l[x8].f3 with
    | true =>
      rw [hb, if_pos rfl] at ih
      exact Ev.congr (fun k => by rw [if_pos rfl, if_pos (by omega), ew]) ih
    | false =>
      rw [hb, if_neg (by simp)] at ih
      refine Ev.congr (fun k => if_neg (by simp)) ?_
      have h2 := letters_le l[x8].f0
      have hcl : (charsOf l[x8].f1 (Kd.letters l[x8].f0)).length ≤ 300 := by simp only [charsOf, List.length_map]; omega
      refine Ev.bind (Ev.of (glob_Chars.mono _ _) (split_Fields.chars_f l[x8].f0 l[x8].f1 (by omega))) ?_
      exact Ev.congr (fun k => by rw [if_pos (by show _ + (charsOf l[x8].f1 (Kd.letters l[x8].f0)).length < _; omega), ew]; rfl) ih
theorem rjoin_l0 (l : List S42) (hl : l.length ≤ 1000) (hw : ∀ r ∈ l, r.f0.size ≤ 300) : ∀ (d : Nat) (x8 : Nat), x8 + d = l.length → Ev (fun k => lazarusref15_Join.l0 k (l.map conv) (joinOf (l.take x8)) (x8 : Int)) (joinOf l)
  | 0, x8, hd => by
    rw [List.take_of_length_le (by omega)]
    exact Ev.step (fun k => by rw [lazarusref15_Join.l0, if_neg (by rw [List.length_map]; omega)]) (Ev.now _)
  | d + 1, x8, hd => by
    have hj : x8 < l.length := by omega
    have er : rd_T72 (l.map conv) (x8 : Int) = conv l[x8] := by unfold rd_T72; simp [List.getD_eq_getElem?_getD, hj]
    have hsz := hw _ (List.getElem_mem hj)
    have hlen := join_len (l.take x8) (fun r hr => hw r (List.mem_of_mem_take hr))
    have ht : (l.take x8).length ≤ 1000 := by rw [List.length_take]; omega
    have ew : wrap64 ((x8 : Int) + 1) = ((x8 + 1 : Nat) : Int) := by rw [w64 (by omega) (by omega)]; omega
    have ih := rjoin_l0 l hl hw d (x8 + 1) (by omega)
    rw [List.take_succ_eq_append_getElem hj, join_snoc] at ih
    refine Ev.step (fun k => by rw [lazarusref15_Join.l0, if_pos (by rw [List.length_map]; omega), if_pos (by omega), er]) ?_
    by_cases hb : l[x8].f3 = true
    · rw [if_pos hb] at ih
      exact Ev.congr (fun k => by rw [if_pos (show (conv l[x8]).f3 = true from hb), if_pos (by omega), ew]) ih
    · rw [if_neg hb] at ih
      refine Ev.congr (fun k => if_neg (show ¬ (conv l[x8]).f3 = true from hb)) ?_
      have h2 := letters_le l[x8].f0
      have hcl : (charsOf l[x8].f1 (Kd.letters l[x8].f0)).length ≤ 300 := by simp only [charsOf, List.length_map]; omega
      refine Ev.bind (ref_chars l[x8].f0 l[x8].f1 (by omega)) ?_
      exact Ev.congr (fun k => by rw [if_pos (by omega), ew]) ih
def tot (s : split_Fields.St) : Nat := (s.fs.map List.length).sum + s.now.length
theorem tot_end (s : split_Fields.St) : tot (split_Fields.endS s) ≤ tot s := by
  obtain ⟨fs, now, b⟩ := s
  cases b <;> simp [tot, split_Fields.endS]
theorem tot_put (l : List S57) (s : split_Fields.St) : tot (split_Fields.putS l s) ≤ tot s + l.length := by
  simp [tot, split_Fields.putS]; omega
theorem tot_plain (sp : Bool) : ∀ (l : List Int) (s : split_Fields.St), tot (split_Fields.plainS sp l s) ≤ tot s + l.length
  | [], s => Nat.le_refl _
  | c :: l, s => by
    have h : tot (split_Fields.plainS sp l (split_Fields.stepS sp s c)) ≤ _ := tot_plain sp l (split_Fields.stepS sp s c)
    have h1 : tot (split_Fields.stepS sp s c) ≤ tot s + 1 := by
      unfold split_Fields.stepS
      split
      · have := tot_end s; omega
      · have := tot_put [⟨c, false⟩] s; simpa using this
    show tot (split_Fields.plainS sp l (split_Fields.stepS sp s c)) ≤ _
    simp only [List.length_cons]
    omega
theorem tot_run (s : split_Fields.St) (r : S42) : tot (split_Fields.runS s r) ≤ tot s + r.f0.size := by
  have hl := letters_le r.f0
  unfold split_Fields.runS
  split
  · have := tot_end s; omega
  · split
    · have := tot_put ((Kd.letters r.f0).map (fun c => (⟨c, true⟩ : S57))) s; simp at this; omega
    · have := tot_plain r.f2 (Kd.letters r.f0) s; omega
theorem tot_all : ∀ (l : List S42) (s : split_Fields.St), tot (l.foldl split_Fields.runS s) ≤ tot s + (l.map (fun r => r.f0.size)).sum
  | [], s => Nat.le_refl _
  | r :: l, s => by
    have h := tot_all l (split_Fields.runS s r)
    have := tot_run s r
    simp only [List.foldl_cons, List.map_cons, List.sum_cons]
    omega
theorem wt_all : ∀ (l : List S42) (s : split_Fields.St), split_Fields.wt (l.foldl split_Fields.runS s) ≤ split_Fields.wt s + split_Fields.cost l
  | [], s => Nat.le_refl _
  | r :: l, s => by
    have h := wt_all l (split_Fields.runS s r)
    have := split_Fields.wt_run s r
    simp only [List.foldl_cons, split_Fields.cost, List.map_cons, List.sum_cons] at h ⊢
    omega
theorem cost_le : ∀ (l : List S42), split_Fields.cost l = 2 * (l.map (fun r => r.f0.size)).sum + l.length
  | [] => rfl
  | r :: l => by
    have := cost_le l
    simp only [split_Fields.cost, List.map_cons, List.sum_cons, List.length_cons] at this ⊢
    omega
theorem le_sum : ∀ (l : List (List S57)), ∀ f ∈ l, f.length ≤ (l.map List.length).sum
  | a :: l, f, h => by
    simp only [List.map_cons, List.sum_cons]
    rcases List.mem_cons.1 h with rfl | h
    · omega
    · have := le_sum l f h; omega
theorem size_le_sum : ∀ (l : List S42), ∀ r ∈ l, r.f0.size ≤ (l.map (fun r => r.f0.size)).sum
  | a :: l, r, h => by
    simp only [List.map_cons, List.sum_cons]
    rcases List.mem_cons.1 h with rfl | h
    · omega
    · have := size_le_sum l r h; omega
theorem fields_end (l : List S42) (h51 : l.length ≤ 51) (hs : (l.map (fun r => r.f0.size)).sum ≤ 300) (x3 x4 : Int) (h4 : ¬ x4 < (l.length : Int)) : Ev (fun k => lazaruslaw15_SplitFields.l0 k l x3 x4) true := by
  have hw : ∀ r ∈ l, r.f0.size ≤ 300 := fun r hr => by have := size_le_sum l r hr; omega
  have hc := cost_le l
  have hwt := split_Fields.wt_end (l.foldl split_Fields.runS ⟨[], [], false⟩)
  have hwt2 := wt_all l ⟨[], [], false⟩
  have htt := tot_end (l.foldl split_Fields.runS ⟨[], [], false⟩)
  have htt2 := tot_all l ⟨[], [], false⟩
  have hi : split_Fields.wt ⟨[], [], false⟩ = 0 := rfl
  have hi2 : tot ⟨[], [], false⟩ = 0 := rfl
  have hr := ref_l0 l (by omega) hw l.length 0 ⟨[], [], false⟩ (by omega) (by omega)
  rw [List.drop_zero] at hr
  obtain ⟨s, hse⟩ : ∃ s, split_Fields.endS (l.foldl split_Fields.runS ⟨[], [], false⟩) = s := ⟨_, rfl⟩
  have hf : split_Fields.f l = some s.fs := by rw [split_Fields.f, if_pos (by omega), hse]
  rw [hse] at hwt htt hr
  have hlen : s.fs.length ≤ split_Fields.wt s := by unfold split_Fields.wt; omega
  have hsum : (s.fs.map List.length).sum ≤ tot s := by unfold tot; omega
  have hrn := runs_ev l (by omega) l.length 0 (by omega)
  have hjl := join_len l hw
  refine Ev.step (fun k => by rw [lazaruslaw15_SplitFields.l0, if_neg h4, hf]) ?_
  simp only [Option.bind_some]
  refine Ev.bind hrn (Ev.bind hr ?_)
  refine Ev.bind (a := true) (Ev.congr (fun k => by rw [lazarusref15_Same.f, if_pos rfl]) (same15 s.fs (by omega) (fun f hf => by have := le_sum s.fs f hf; omega) s.fs.length 0 (by omega) (by omega))) ?_
  refine Ev.congr (fun k => if_pos rfl) ?_
  refine Ev.bind (join_l0 l (by omega) hw l.length 0 (by omega)) ?_
  refine Ev.bind hrn (Ev.bind (rjoin_l0 l (by omega) hw l.length 0 (by omega)) ?_)
  refine Ev.bind (same13_f (joinOf l) (by omega)) ?_
  refine Ev.congr (fun k => if_pos rfl) ?_
  exact Ev.bind known_ev (Ev.now _)
theorem fields_l0 (l : List S42) (hw : ∀ r ∈ l, r.f0.size ≤ 140737488351232) : ∀ (d : Nat) (x3 x4 : Int), 0 ≤ x4 → x4 + d = l.length → x4 ≤ 51 → x3 = (((l.take x4.toNat).map (fun r => r.f0.size)).sum : Nat) → x3 ≤ 300 → Ev (fun k => lazaruslaw15_SplitFields.l0 k l x3 x4) true
  | 0, x3, x4, h0, hd, h51, h3, h300 => by
    rw [List.take_of_length_le (by omega)] at h3
    exact fields_end l (by omega) (by omega) x3 x4 (by omega)
  | d + 1, x3, x4, h0, hd, h51, h3, h300 => by
    have hj : x4.toNat < l.length := by omega
    have er : rd_T42 l x4 = l[x4.toNat] := by unfold rd_T42; simp [List.getD_eq_getElem?_getD, hj]
    have hm := hw l[x4.toNat] (List.getElem_mem hj)
    have e5 : wrap64 (x3 + (l[x4.toNat].f0.size : Int)) = x3 + (l[x4.toNat].f0.size : Int) := w64 (by omega) (by omega)
    refine Ev.step (fun k => by rw [lazaruslaw15_SplitFields.l0, if_pos (by omega), if_pos h0, er, e5]) ?_
    by_cases hb : x3 + (l[x4.toNat].f0.size : Int) > 300
    · exact Ev.congr (fun k => if_pos hb) (Ev.now _)
    refine Ev.congr (fun k => if_neg hb) ?_
    by_cases h50 : x4 > 50
    · exact Ev.congr (fun k => if_pos h50) (Ev.now _)
    refine Ev.congr (fun k => by rw [if_neg h50, w64 (by omega) (by omega)]) ?_
    refine fields_l0 l hw d _ (x4 + 1) (by omega) (by omega) (by omega) ?_ (by omega)
    rw [show (x4 + 1).toNat = x4.toNat + 1 by omega, List.take_succ_eq_append_getElem hj, List.map_append, List.sum_append, h3]
    simp
theorem SplitFields : ∀ (l0 : List S42), (l0.length * 24 ≤ 140737488351232 ∧ ∀ y2 ∈ l0, (y2.f0.size ≤ 140737488351232 ∧ True ∧ True ∧ True)) → ∃ k, lazaruslaw15_SplitFields.f k l0 = some true := by
  intro l hl
  exact (fields_l0 l (fun r hr => (hl.2 r hr).1) l.length 0 0 (by omega) (by omega) (by omega) rfl (by omega)).rounds

end Go.Proofs.YtnhmfeihnjdcpaaDoor.Pure
