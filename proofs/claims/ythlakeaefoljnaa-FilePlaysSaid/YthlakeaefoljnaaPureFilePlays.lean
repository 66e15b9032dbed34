/- The plain law of file. -/
import Derived.Test.YthlakeaefoljnaaQFilePlaysx7
namespace Go.Proofs.Ythlakeaefoljnaa.Pure
open Go.RowKit Go.Proofs.Ythlakeaefoljnaa.QFilePlays Go.Proofs.YthlakeaefoljnaaW.PrintWords Go.Proofs.YthlakeaefoljnaaW.PrintLast
set_option linter.unusedVariables false

theorem w64 {x : Int} (h₀ : -9223372036854775808 ≤ x) (h₁ : x < 9223372036854775808) : wrap64 x = x := by unfold wrap64; omega
theorem tl_inj {a b : ByteArray} (h : a.toList = b.toList) : a = b := by
  rw [Lib.toList_data, Lib.toList_data] at h
  obtain ⟨⟨x⟩⟩ := a
  obtain ⟨⟨y⟩⟩ := b
  simp only at h
  rw [h]
theorem tl_beq (a b : ByteArray) : (a.toList == b.toList) = decide (a = b) := by
  by_cases h : a = b
  · subst h; simp
  · rw [decide_eq_false h, beq_eq_false_iff_ne]
    exact fun e => h (tl_inj e)
/-! The order of texts. -/
theorem bl_irr : ∀ l : List UInt8, Op.bytesLess l l = false
  | [] => rfl
  | a :: l => by simp [Op.bytesLess, bl_irr l]
theorem bl_trans : ∀ x y z : List UInt8, Op.bytesLess x y = true → Op.bytesLess y z = true → Op.bytesLess x z = true
  | _, [], _, h, _ => by simp [Op.bytesLess] at h
  | [], _ :: _, [], _, h => by simp [Op.bytesLess] at h
  | [], _ :: _, _ :: _, _, _ => rfl
  | _ :: _, _ :: _, [], _, h => by simp [Op.bytesLess] at h
  | a :: x, b :: y, c :: z, h, h' => by
    simp only [Op.bytesLess, Bool.or_eq_true, Bool.and_eq_true, decide_eq_true_eq, beq_iff_eq] at h h' ⊢
    rcases h with h | ⟨rfl, h⟩
    · rcases h' with h' | ⟨rfl, h'⟩
      · exact .inl (UInt8.lt_trans h h')
      · exact .inl h
    · rcases h' with h' | ⟨rfl, h'⟩
      · exact .inl h'
      · exact .inr ⟨rfl, bl_trans x y z h h'⟩
theorem bl_tri : ∀ x y : List UInt8, Op.bytesLess x y = false → Op.bytesLess y x = false → x = y
  | [], [], _, _ => rfl
  | [], _ :: _, h, _ => by simp [Op.bytesLess] at h
  | _ :: _, [], _, h => by simp [Op.bytesLess] at h
  | a :: x, b :: y, h, h' => by
    simp only [Op.bytesLess, Bool.or_eq_false_iff, Bool.and_eq_false_iff, decide_eq_false_iff_not, beq_eq_false_iff_ne, ne_eq] at h h'
    have hab : a = b := by
      have h1 := UInt8.not_lt.1 h.1
      have h2 := UInt8.not_lt.1 h'.1
      exact UInt8.le_antisymm h2 h1
    subst hab
    rcases h.2 with h1 | h1
    · exact absurd rfl h1
    rcases h'.2 with h2 | h2
    · exact absurd rfl h2
    rw [bl_tri x y h1 h2]
/-- Is a text ahead of another one? -/
def lt (a b : ByteArray) : Bool := Op.bytesLess a.toList b.toList
theorem lt_irr (a : ByteArray) : lt a a = false := bl_irr _
theorem lt_trans {a b c : ByteArray} (h : lt a b = true) (h' : lt b c = true) : lt a c = true := bl_trans _ _ _ h h'
theorem lt_asymm {a b : ByteArray} (h : lt a b = true) : lt b a = false := by
  cases h' : lt b a with
  | false => rfl
  | true => have := lt_trans h h'; rw [lt_irr] at this; cases this
theorem lt_tri {a b : ByteArray} (h : lt a b = false) (h' : lt b a = false) : a = b := tl_inj (bl_tri _ _ h h')
theorem cmpS_lt (a b : ByteArray) : decide (Kd.cmpS a b < 0) = lt a b := by
  unfold Kd.cmpS lt
  split
  · simp_all
  · rename_i h
    rw [Bool.not_eq_true] at h
    rw [h]
    split <;> simp
theorem cmpS_eq (a b : ByteArray) : (Kd.cmpS a b == 0) = decide (a = b) := by
  unfold Kd.cmpS
  by_cases h : a = b
  · subst h
    rw [if_neg (by rw [bl_irr]; simp), if_pos rfl]
    simp
  · rw [decide_eq_false h]
    split
    · rfl
    · rw [if_neg (fun e => h (tl_inj e))]
      rfl
/-! The search. -/
theorem bsr_spec (p : Nat → Bool) (hp : ∀ i j, i ≤ j → p j = true → p i = true) : ∀ (d lo hi : Nat), lo ≤ hi → hi - lo ≤ d →
    lo ≤ Kd.bsr p d lo hi ∧ Kd.bsr p d lo hi ≤ hi ∧ (∀ i, lo ≤ i → i < Kd.bsr p d lo hi → p i = true) ∧ (∀ i, Kd.bsr p d lo hi ≤ i → i < hi → p i = false)
  | 0, lo, hi, h, h' => by
    rw [Kd.bsr]
    exact ⟨Nat.le_refl _, h, fun i h1 h2 => by omega, fun i h1 h2 => by omega⟩
  | d + 1, lo, hi, h, h' => by
    rw [Kd.bsr]
    by_cases hl : lo < hi
    · rw [if_pos hl]
      by_cases hm : p ((lo + hi) / 2) = true
      · rw [if_pos hm]
        obtain ⟨a1, a2, a3, a4⟩ := bsr_spec p hp d ((lo + hi) / 2 + 1) hi (by omega) (by omega)
        refine ⟨by omega, a2, fun i h1 h2 => ?_, a4⟩
        by_cases hi2 : i ≤ (lo + hi) / 2
        · exact hp _ _ hi2 hm
        · exact a3 i (by omega) h2
      · rw [if_neg hm]
        obtain ⟨a1, a2, a3, a4⟩ := bsr_spec p hp d lo ((lo + hi) / 2) (by omega) (by omega)
        refine ⟨a1, by omega, a3, fun i h1 h2 => ?_⟩
        by_cases hi2 : i < (lo + hi) / 2
        · exact a4 i h1 hi2
        · cases hpi : p i with
          | false => rfl
          | true => exact absurd (hp _ _ (by omega) hpi) hm
    · rw [if_neg hl]
      exact ⟨Nat.le_refl _, h, fun i h1 h2 => by omega, fun i h1 h2 => by omega⟩
section
variable {α : Type} (nm : α → ByteArray)
/-- Are names in order, none twice? -/
def Srt : List α → Prop
  | [] => True
  | x :: l => (∀ y ∈ l, lt (nm x) (nm y) = true) ∧ Srt l
/-- How many names are ahead of one. -/
def cnt (l : List α) (s : ByteArray) : Nat := (l.takeWhile (fun x => lt (nm x) s)).length
def ins : List α → ByteArray → α → List α
  | [], _, v => [v]
  | x :: l, s, v => if lt (nm x) s = true then x :: ins l s v else if nm x = s then v :: l else v :: x :: l
def rem : List α → ByteArray → List α
  | [], _ => []
  | x :: l, s => if nm x = s then l else x :: rem l s
theorem srt_get (z : α) : ∀ (l : List α), Srt nm l → ∀ i j, i < j → j < l.length → lt (nm (l.getD i z)) (nm (l.getD j z)) = true
  | [], _, i, j, _, h => by simp at h
  | x :: l, h, 0, 0, hij, _ => by omega
  | x :: l, h, 0, j + 1, _, hj => by
    have hj' : j < l.length := by simpa using hj
    rw [List.getD_cons_zero, List.getD_cons_succ]
    refine h.1 _ ?_
    rw [List.getD_eq_getElem?_getD, List.getElem?_eq_getElem hj']
    exact List.getElem_mem hj'
  | x :: l, h, i + 1, 0, hij, _ => by omega
  | x :: l, h, i + 1, j + 1, hij, hj => by
    rw [List.getD_cons_succ, List.getD_cons_succ]
    exact srt_get z l h.2 i j (by omega) (by simpa using hj)
theorem cnt_le (s : ByteArray) : ∀ l : List α, cnt nm l s ≤ l.length
  | [] => Nat.le_refl _
  | x :: l => by
    unfold cnt
    rw [List.takeWhile_cons]
    split
    · have := cnt_le s l
      unfold cnt at this
      simp; omega
    · simp
theorem cnt_cons (x : α) (l : List α) (s : ByteArray) : cnt nm (x :: l) s = if lt (nm x) s = true then cnt nm l s + 1 else 0 := by
  unfold cnt
  rw [List.takeWhile_cons]
  split <;> simp
theorem cnt_before (z : α) (s : ByteArray) : ∀ (l : List α) (i : Nat), i < cnt nm l s → lt (nm (l.getD i z)) s = true
  | [], i, h => by simp [cnt] at h
  | x :: l, i, h => by
    rw [cnt_cons] at h
    split at h
    · rename_i hx
      cases i with
      | zero => exact hx
      | succ i => rw [List.getD_cons_succ]; exact cnt_before z s l i (by omega)
    · omega
theorem cnt_at (z : α) (s : ByteArray) : ∀ (l : List α), cnt nm l s < l.length → lt (nm (l.getD (cnt nm l s) z)) s = false
  | [], h => by simp at h
  | x :: l, h => by
    rw [cnt_cons] at h ⊢
    split at h
    · rename_i hx
      rw [if_pos hx, List.getD_cons_succ]
      exact cnt_at z s l (by simpa using h)
    · rename_i hx
      rw [if_neg hx, List.getD_cons_zero]
      simpa using hx
theorem find_cnt (z : α) (l : List α) (s : ByteArray) (h : Srt nm l) : Kd.bsr (fun m => decide (Kd.cmpS (nm (l.getD m z)) s < 0)) l.length 0 l.length = cnt nm l s := by
  have e : ∀ m, m < l.length → decide (Kd.cmpS (nm (l.getD m z)) s < 0) = lt (nm (l.getD m z)) s := fun m _ => cmpS_lt _ _
  obtain ⟨p, hp⟩ : ∃ p : Nat → Bool, p = fun m => decide (m < l.length) && lt (nm (l.getD m z)) s := ⟨_, rfl⟩
  have hmono : ∀ i j, i ≤ j → p j = true → p i = true := by
    intro i j hij hj
    rw [hp] at hj ⊢
    simp only [Bool.and_eq_true, decide_eq_true_eq] at hj ⊢
    refine ⟨by omega, ?_⟩
    by_cases hij' : i = j
    · subst hij'; exact hj.2
    · exact lt_trans (srt_get nm z l h i j (by omega) hj.1) hj.2
  have hcong : ∀ (d lo hi : Nat), hi ≤ l.length → Kd.bsr (fun m => decide (Kd.cmpS (nm (l.getD m z)) s < 0)) d lo hi = Kd.bsr p d lo hi := by
    intro d
    induction d with
    | zero => intro lo hi _; rfl
    | succ d ih =>
      intro lo hi hle
      rw [Kd.bsr, Kd.bsr]
      by_cases hl : lo < hi
      · rw [if_pos hl, if_pos hl]
        have e1 : p ((lo + hi) / 2) = decide (Kd.cmpS (nm (l.getD ((lo + hi) / 2) z)) s < 0) := by
          rw [hp, cmpS_lt]
          simp only
          rw [decide_eq_true (by omega : (lo + hi) / 2 < l.length), Bool.true_and]
        rw [e1, ih _ _ hle, ih _ _ (by omega)]
      · rw [if_neg hl, if_neg hl]
  rw [hcong _ _ _ (Nat.le_refl _)]
  obtain ⟨a1, a2, a3, a4⟩ := bsr_spec p hmono l.length 0 l.length (Nat.zero_le _) (by omega)
  generalize Kd.bsr p l.length 0 l.length = r at *
  have hc := cnt_le nm s l
  rcases Nat.lt_trichotomy r (cnt nm l s) with hlt | heq | hgt
  · have h1 := a4 r (Nat.le_refl _) (by omega)
    have h2 := cnt_before nm z s l r hlt
    rw [hp] at h1
    simp only [h2, Bool.and_true, decide_eq_false_iff_not] at h1
    omega
  · exact heq
  · have h1 := a3 (cnt nm l s) (Nat.zero_le _) hgt
    have h2 := cnt_at nm z s l (by omega)
    rw [hp] at h1
    simp only [h2, Bool.and_false] at h1
    cases h1
/-- Is a name there? -/
def has (l : List α) (s : ByteArray) : Bool := l.any (fun x => decide (nm x = s))
theorem has_cnt (z : α) (s : ByteArray) : ∀ (l : List α), Srt nm l → (decide (cnt nm l s < l.length) && decide (nm (l.getD (cnt nm l s) z) = s)) = has nm l s
  | [], _ => by simp [has, cnt]
  | x :: l, h => by
    rw [cnt_cons]
    unfold has
    rw [List.any_cons]
    split
    · rename_i hx
      have hne : nm x ≠ s := fun e => by rw [e, lt_irr] at hx; cases hx
      rw [decide_eq_false hne, Bool.false_or, List.getD_cons_succ]
      have := has_cnt z s l h.2
      unfold has at this
      rw [← this]
      simp
    · rename_i hx
      rw [List.getD_cons_zero]
      by_cases he : nm x = s
      · simp [he]
      · rw [decide_eq_false he, Bool.and_false, Bool.false_or, eq_comm, List.any_eq_false]
        intro y hy
        have h1 := h.1 y hy
        simp only [decide_eq_true_eq]
        intro e
        rw [e] at h1
        exact hx h1
theorem put_ins (z : α) (s : ByteArray) (v : α) : ∀ (l : List α), Srt nm l → (if has nm l s = true then l.set (cnt nm l s) v else l.take (cnt nm l s) ++ [v] ++ l.drop (cnt nm l s)) = ins nm l s v
  | [], _ => by simp [has, cnt, ins]
  | x :: l, h => by
    rw [cnt_cons, ins]
    by_cases hx : lt (nm x) s = true
    · have hne : nm x ≠ s := fun e => by rw [e, lt_irr] at hx; cases hx
      have hh : has nm (x :: l) s = has nm l s := by
        unfold has
        rw [List.any_cons, decide_eq_false hne, Bool.false_or]
      rw [if_pos hx, if_pos hx, hh, ← put_ins z s v l h.2]
      split
      · simp
      · simp
    · rw [if_neg hx, if_neg hx]
      by_cases he : nm x = s
      · rw [if_pos (show has nm (x :: l) s = true by simp [has, he]), if_pos he]
        simp
      · have hh : has nm (x :: l) s = false := by
          unfold has
          rw [List.any_eq_false]
          intro y hy
          simp only [decide_eq_true_eq]
          rcases List.mem_cons.1 hy with rfl | hy
          · exact he
          · intro e
            have h1 := h.1 y hy
            rw [e] at h1
            exact hx h1
        rw [hh, if_neg (by simp), if_neg he]
        simp
theorem cut_rem (z : α) (s : ByteArray) : ∀ (l : List α), Srt nm l → (if has nm l s = true then l.take (cnt nm l s) ++ l.drop (cnt nm l s + 1) else l) = rem nm l s
  | [], _ => by simp [has, rem]
  | x :: l, h => by
    rw [cnt_cons, rem]
    by_cases he : nm x = s
    · have hx : lt (nm x) s = false := by rw [he, lt_irr]
      rw [if_pos (show has nm (x :: l) s = true by simp [has, he]), if_pos he, if_neg (by rw [hx]; simp)]
      simp
    · have hh : has nm (x :: l) s = has nm l s := by
        unfold has
        rw [List.any_cons, decide_eq_false he, Bool.false_or]
      rw [if_neg he, hh, ← cut_rem z s l h.2]
      by_cases hx : lt (nm x) s = true
      · rw [if_pos hx]
        split
        · simp
        · rfl
      · have h0 : has nm l s = false := by
          unfold has
          rw [List.any_eq_false]
          intro y hy
          simp only [decide_eq_true_eq]
          intro e
          have h1 := h.1 y hy
          rw [e] at h1
          exact hx h1
        rw [h0, if_neg (by simp), if_neg (by simp)]
theorem ins_mem (s : ByteArray) (v : α) : ∀ (l : List α) (y : α), y ∈ ins nm l s v → y = v ∨ y ∈ l
  | [], y, h => by simpa [ins] using h
  | x :: l, y, h => by
    rw [ins] at h
    split at h
    · rcases List.mem_cons.1 h with rfl | h
      · exact .inr List.mem_cons_self
      · rcases ins_mem s v l y h with h | h
        · exact .inl h
        · exact .inr (List.mem_cons_of_mem _ h)
    · split at h
      · rcases List.mem_cons.1 h with rfl | h
        · exact .inl rfl
        · exact .inr (List.mem_cons_of_mem _ h)
      · rcases List.mem_cons.1 h with rfl | h
        · exact .inl rfl
        · exact .inr h
theorem ins_srt (s : ByteArray) (v : α) (hv : nm v = s) : ∀ (l : List α), Srt nm l → Srt nm (ins nm l s v)
  | [], _ => ⟨by simp, trivial⟩
  | x :: l, h => by
    rw [ins]
    by_cases hx : lt (nm x) s = true
    · rw [if_pos hx]
      refine ⟨fun y hy => ?_, ins_srt s v hv l h.2⟩
      rcases ins_mem nm s v l y hy with rfl | hy
      · rw [hv]; exact hx
      · exact h.1 y hy
    · rw [if_neg hx]
      by_cases he : nm x = s
      · rw [if_pos he]
        exact ⟨fun y hy => by rw [hv, ← he]; exact h.1 y hy, h.2⟩
      · rw [if_neg he]
        have hsx : lt s (nm x) = true := by
          cases hq : lt s (nm x) with
          | true => rfl
          | false => exact absurd (lt_tri (by simpa using hx) hq) he
        refine ⟨fun y hy => ?_, h⟩
        rw [hv]
        rcases List.mem_cons.1 hy with rfl | hy
        · exact hsx
        · exact lt_trans hsx (h.1 y hy)
theorem rem_mem (s : ByteArray) : ∀ (l : List α) (y : α), y ∈ rem nm l s → y ∈ l
  | [], y, h => by simp [rem] at h
  | x :: l, y, h => by
    rw [rem] at h
    split at h
    · exact List.mem_cons_of_mem _ h
    · rcases List.mem_cons.1 h with rfl | h
      · exact List.mem_cons_self
      · exact List.mem_cons_of_mem _ (rem_mem s l y h)
theorem rem_srt (s : ByteArray) : ∀ (l : List α), Srt nm l → Srt nm (rem nm l s)
  | [], _ => trivial
  | x :: l, h => by
    rw [rem]
    split
    · exact h.2
    · exact ⟨fun y hy => h.1 y (rem_mem nm s l y hy), rem_srt s l h.2⟩
theorem ins_len (s : ByteArray) (v : α) : ∀ (l : List α), (ins nm l s v).length ≤ l.length + 1
  | [] => by simp [ins]
  | x :: l => by
    rw [ins]
    have := ins_len s v l
    split
    · simp; omega
    · split <;> simp
theorem ins_has (s : ByteArray) (v : α) (hv : nm v = s) : ∀ (l : List α), has nm (ins nm l s v) s = true
  | [] => by simp [ins, has, hv]
  | x :: l => by
    rw [ins]
    have ih := ins_has s v hv l
    unfold has at ih ⊢
    split
    · rw [List.any_cons, ih, Bool.or_true]
    · split <;> simp [hv]
theorem ins_at (z : α) (s : ByteArray) (v : α) (hv : nm v = s) : ∀ (l : List α), Srt nm l → (ins nm l s v).getD (cnt nm (ins nm l s v) s) z = v
  | [], _ => by
    rw [ins, cnt_cons, hv, lt_irr, if_neg (by simp)]
    rfl
  | x :: l, h => by
    rw [ins]
    by_cases hx : lt (nm x) s = true
    · rw [if_pos hx, cnt_cons, if_pos hx, List.getD_cons_succ]
      exact ins_at z s v hv l h.2
    · rw [if_neg hx]
      have hz : ∀ L : List α, (v :: L).getD (cnt nm (v :: L) s) z = v := fun L => by
        rw [cnt_cons, hv, lt_irr, if_neg (by simp)]
        rfl
      split
      · exact hz _
      · exact hz _
/-- Of names that are unlike it does not matter which is put first. -/
theorem ins_comm (s t : ByteArray) (v u : α) (hv : nm v = s) (hu : nm u = t) (hne : s ≠ t) : ∀ (l : List α), Srt nm l → ins nm (ins nm l s v) t u = ins nm (ins nm l t u) s v
  | [], _ => by
    simp only [ins]
    rw [hv, hu]
    by_cases h1 : lt s t = true
    · rw [if_pos h1, if_neg (by rw [lt_asymm h1]; simp), if_neg hne.symm]
    · rw [if_neg h1, if_neg hne]
      have h2 : lt t s = true := by
        cases hq : lt t s with
        | true => rfl
        | false => exact absurd (lt_tri (by simpa using h1) hq) hne
      rw [if_pos h2]
  | x :: l, h => by
    have tri : ∀ {a b : ByteArray}, ¬ lt a b = true → a ≠ b → lt b a = true := fun {a b} h1 hn => by
      cases hq : lt b a with
      | true => rfl
      | false => exact absurd (lt_tri (by simpa using h1) hq) hn
    have ih := ins_comm s t v u hv hu hne l h.2
    by_cases a1 : lt (nm x) s = true
    · by_cases a2 : lt (nm x) t = true
      · simp only [ins, if_pos a1, if_pos a2, ih]
      · have hts : lt t s = true := by
          by_cases he : nm x = t
          · rw [← he]; exact a1
          · exact lt_trans (tri a2 he) a1
        by_cases he : nm x = t
        · simp only [ins, if_pos a1, if_neg a2, if_pos he, hu, if_pos hts]
        · simp only [ins, if_pos a1, if_neg a2, if_neg he, hu, if_pos hts]
    · by_cases a2 : lt (nm x) t = true
      · have hst : lt s t = true := by
          by_cases he : nm x = s
          · rw [← he]; exact a2
          · exact lt_trans (tri a1 he) a2
        by_cases he : nm x = s
        · simp only [ins, if_neg a1, if_pos a2, if_pos he, hv, if_pos hst]
        · simp only [ins, if_neg a1, if_pos a2, if_neg he, hv, if_pos hst]
      · by_cases e1 : nm x = s
        · have e2 : nm x ≠ t := fun e => hne (e1.symm.trans e)
          have hts : lt t s = true := by rw [← e1]; exact tri a2 e2
          have hst := lt_asymm hts
          simp only [ins, if_neg a1, if_neg a2, if_pos e1, if_neg e2, hv, hu, hst, if_neg hne, hts, if_true, Bool.false_eq_true, if_false]
        · by_cases e2 : nm x = t
          · have hst : lt s t = true := by rw [← e2]; exact tri a1 e1
            have hts := lt_asymm hst
            simp only [ins, if_neg a1, if_neg a2, if_pos e2, if_neg e1, hv, hu, hst, hts, if_neg hne.symm, if_true, Bool.false_eq_true, if_false]
          · by_cases h1 : lt s t = true
            · have h2 := lt_asymm h1
              simp only [ins, if_neg a1, if_neg a2, if_neg e2, if_neg e1, hv, hu, h1, h2, if_neg hne.symm, if_true, Bool.false_eq_true, if_false]
            · have h2 := tri h1 hne
              rw [Bool.not_eq_true] at h1
              simp only [ins, if_neg a1, if_neg a2, if_neg e2, if_neg e1, hv, hu, h1, h2, if_neg hne, if_true, Bool.false_eq_true, if_false]
end

/-! file -/
def nameOk (s : ByteArray) : Bool := !(s.size == 0) && decide ((s.size : Int) ≤ 4000) && !file_isName.bad s
theorem isName_f (s : ByteArray) : file_isName.f s = some (nameOk s) := rfl
theorem bad_hit (s : ByteArray) (i : Nat) (h : i < s.size) (hno : Lib.NoAny s.data.toList [47, 0] i) (hc : ([47, 0] : List UInt8).contains (s[i]'h) = true) : file_isName.bad s = true := by
  rw [file_isName.bad, Lib.indexAny_hit hno (Lib.data_getElem? s i h) hc]
  simp
theorem fcl (l : List S90) (h : l.length < 4398046511104) : api_File_55.f l = some l := by
  rw [api_File_55.f, Option.bind_some, if_pos (by simpa using h), List.nil_append]
theorem fi (l : List S90) (s : ByteArray) (h : Srt S90.f0 l) : file_find.find_i l s = cnt S90.f0 l s := find_cnt S90.f0 z90 l s h
theorem fh (l : List S90) (s : ByteArray) (h : Srt S90.f0 l) : file_find.hit l s = has S90.f0 l s := by
  rw [file_find.hit, fi l s h, cmpS_eq]
  exact has_cnt S90.f0 z90 s l h
theorem put_all (l : List S90) (n v : ByteArray) (hl : l.length < 1099511627776) (hs : Srt S90.f0 l) :
    file_Put.f l n v = some (if nameOk n = true then (if (v.size : Int) > 4000 then ([], 3) else if has S90.f0 l n = false ∧ (l.length : Int) ≥ 20 then ([], 3) else (ins S90.f0 l n ⟨n, v⟩, 0)) else ([], 1)) := by
  rw [file_Put.f, isName_f, Option.bind_some, if_pos hl, file_Put.put, fi l n hs, fh l n hs, put_ins S90.f0 z90 n ⟨n, v⟩ l hs]
  repeat' split
  all_goals rfl
theorem put_f (l : List S90) (n v : ByteArray) (hl : l.length < 1099511627776) (hs : Srt S90.f0 l) (hn : nameOk n = true) (hv : v.size ≤ 4000) (hh : has S90.f0 l n = true ∨ l.length < 20) :
    file_Put.f l n v = some (ins S90.f0 l n ⟨n, v⟩, 0) := by
  rw [put_all l n v hl hs, if_pos hn, if_neg (by omega), if_neg (fun e => by
    rcases hh with hh | hh
    · rw [hh] at e; cases e.1
    · omega)]
theorem get_f (l : List S90) (n : ByteArray) (hl : l.length < 4398046511104) (hs : Srt S90.f0 l) :
    file_Get.f l n = some (if has S90.f0 l n = true then ((l.getD (cnt S90.f0 l n) z90).f1, true) else (⟨#[]⟩, false)) := by
  rw [file_Get.f, file_find.f, if_pos (by omega), Option.bind_some, fh l n hs, fi l n hs]
  cases hh : has S90.f0 l n with
  | false => rw [if_neg (by simp), if_neg (by simp)]
  | true =>
    have h1 := has_cnt S90.f0 z90 n l hs
    rw [hh, Bool.and_eq_true, decide_eq_true_eq] at h1
    rw [if_pos rfl, if_pos (by omega), if_pos (by omega), if_pos rfl]
    rfl
theorem fsame_l0 (l : List S90) (hl : l.length < 9223372036854775807) : ∀ (d i : Nat), i + d = l.length → Ev (fun k => lazarusref17_Same.l0 k l l (i : Int)) true
  | 0, i, h => Ev.step (fun k => by rw [lazarusref17_Same.l0, if_neg (by omega)]) (Ev.now true)
  | d + 1, i, h => by
    refine Ev.step (f := fun k => lazarusref17_Same.l0 k l l ((i + 1 : Nat) : Int)) (fun k => ?_) (fsame_l0 l hl d (i + 1) (by omega))
    rw [lazarusref17_Same.l0, if_pos (by omega), if_pos (by omega), if_pos (by omega), if_neg (by simp), w64 (by omega) (by omega)]
    rfl
theorem fsame (l : List S90) (hl : l.length < 9223372036854775807) : Ev (fun k => lazarusref17_Same.f k l l) true :=
  Ev.congr (fun k => by rw [lazarusref17_Same.f, if_pos rfl]; rfl) (fsame_l0 l hl l.length 0 (by omega))
/-! a text into which another one is written -/
theorem len_fill (l : List UInt8) (n : Nat) : (file_Write.fill l n).length = max l.length n := by
  rw [file_Write.fill, List.length_append, List.length_replicate]
  omega
theorem len_over (l d : List UInt8) (n : Nat) : (file_Write.over l d n).length = max l.length (n + d.length) := by
  have := len_fill l (n + d.length)
  rw [file_Write.over, List.length_append, List.length_append, List.length_take, List.length_drop]
  omega
theorem fill_id (l : List UInt8) (n : Nat) (h : n ≤ l.length) : file_Write.fill l n = l := by
  rw [file_Write.fill, show n - l.length = 0 by omega, List.replicate_zero, List.append_nil]
theorem over_mid (l d : List UInt8) (n : Nat) : ((file_Write.over l d n).drop n).take d.length = d := by
  have := len_fill l (n + d.length)
  rw [file_Write.over, List.append_assoc, List.drop_left' (by rw [List.length_take]; omega), List.take_left' rfl]
theorem over_take (l d : List UInt8) (n k : Nat) (h1 : k ≤ n) (h2 : k ≤ l.length) : (file_Write.over l d n).take k = l.take k := by
  have := len_fill l (n + d.length)
  rw [file_Write.over, List.append_assoc, List.take_append_of_le_length (by rw [List.length_take]; omega), List.take_take, Nat.min_eq_left h1, file_Write.fill, List.take_append_of_le_length h2]
theorem over_drop (l d : List UInt8) (n : Nat) (h : n + d.length ≤ l.length) : (file_Write.over l d n).drop (n + d.length) = l.drop (n + d.length) := by
  have := len_fill l (n + d.length)
  rw [file_Write.over, List.drop_left' (by rw [List.length_append, List.length_take]; omega), fill_id l _ h]
theorem over_over (l d : List UInt8) (n : Nat) : file_Write.over (file_Write.over l d n) d n = file_Write.over l d n := by
  have h1 := len_over l d n
  have h2 := len_fill l (n + d.length)
  rw [file_Write.over, fill_id (file_Write.over l d n) _ (by omega)]
  have e1 : (file_Write.over l d n).take n = (file_Write.fill l (n + d.length)).take n := by
    rw [file_Write.over, List.append_assoc, List.take_left' (by rw [List.length_take]; omega)]
  have e2 : (file_Write.over l d n).drop (n + d.length) = (file_Write.fill l (n + d.length)).drop (n + d.length) := by
    rw [file_Write.over, List.drop_left' (by rw [List.length_append, List.length_take]; omega)]
  rw [e1, e2]
  rfl
theorem mk_size (l : List UInt8) : (⟨l.toArray⟩ : ByteArray).size = l.length := by rw [Lib.size_eq]
theorem write_f (l : List S90) (n : ByteArray) (m : Nat) (d : ByteArray) (hl : l.length < 1099511627776) (hs : Srt S90.f0 l) (hn : nameOk n = true) (hh : has S90.f0 l n = true) (hm : m + d.size ≤ 4000) (ho : (l.getD (cnt S90.f0 l n) z90).f1.size ≤ 4000) :
    file_Write.f l n (m : Int) d = some (ins S90.f0 l n ⟨n, ⟨(file_Write.over (l.getD (cnt S90.f0 l n) z90).f1.data.toList d.data.toList m).toArray⟩⟩, 0) := by
  rw [file_Write.f, get_f l n (by omega) hs, if_pos hh, Option.bind_some, if_pos rfl, if_pos (by omega), if_neg (by omega), if_pos (by omega), if_neg (by omega), if_pos (by show (l.getD (cnt S90.f0 l n) z90).f1.size < _; omega)]
  rw [Int.toNat_natCast]
  refine put_f l n _ hl hs hn ?_ (.inl hh)
  have e1 := Lib.size_eq (l.getD (cnt S90.f0 l n) z90).f1
  have e2 := Lib.size_eq d
  rw [mk_size, len_over]
  show max (l.getD (cnt S90.f0 l n) z90).f1.data.toList.length (m + d.data.toList.length) ≤ 4000
  omega
theorem nameF : nameOk ⟨#[102]⟩ = true := by decide
/-- One file: found, there. -/
theorem one_has (n v : ByteArray) : has S90.f0 [⟨n, v⟩] n = true := by simp [has]
theorem one_cnt (n v : ByteArray) : cnt S90.f0 [⟨n, v⟩] n = 0 := by rw [cnt_cons, if_neg (by rw [lt_irr]; simp)]
theorem one_srt (n v : ByteArray) : Srt S90.f0 [⟨n, v⟩] := ⟨by simp, trivial⟩
theorem one_ins (n v u : ByteArray) : ins S90.f0 [⟨n, v⟩] n ⟨n, u⟩ = [⟨n, u⟩] := by
  simp only [ins]
  rw [if_neg (by rw [lt_irr]; simp), if_pos trivial]
theorem put_one (n v : ByteArray) (hn : nameOk n = true) (hv : v.size ≤ 4000) : file_Put.f [] n v = some ([⟨n, v⟩], 0) := put_f [] n v (by simp) trivial hn hv (.inr (by simp))
theorem write_one (n v : ByteArray) (m : Nat) (d : ByteArray) (hn : nameOk n = true) (hm : m + d.size ≤ 4000) (hv : v.size ≤ 4000) :
    file_Write.f [⟨n, v⟩] n (m : Int) d = some ([⟨n, ⟨(file_Write.over v.data.toList d.data.toList m).toArray⟩⟩], 0) := by
  have h := write_f [⟨n, v⟩] n m d (by simp) (one_srt n v) hn (one_has n v) hm (by rw [one_cnt]; exact hv)
  rw [one_cnt, one_ins] at h
  exact h
theorem get_one (n v : ByteArray) : file_Get.f [⟨n, v⟩] n = some (v, true) := by
  rw [get_f _ _ (by simp) (one_srt n v), if_pos (one_has n v), one_cnt]
  rfl
theorem is_one (n v : ByteArray) (hn : nameOk n = true) (hv : v.size ≤ 4000) : Ev (fun k => file_Is.f k [⟨n, v⟩]) true := by
  refine Ev.step (f := fun k => file_Is.l0 k [⟨n, v⟩] [⟨n, v⟩] 1 1) (fun k => ?_) (Ev.step (f := fun _ => some true) (fun k => ?_) (Ev.now true))
  · show file_Is.l0 (k + 1) [⟨n, v⟩] [⟨n, v⟩] 1 0 = _
    rw [file_Is.l0, if_pos (by omega), if_pos (by omega), if_pos (by simp), isName_f]
    have e : rd_T90 [(⟨n, v⟩ : S90)] 0 = ⟨n, v⟩ := rfl
    rw [e, hn, Option.bind_some, if_pos rfl, if_neg (by show ¬ ((v.size : Int) > 4000); omega), if_neg (by omega), w64 (by omega) (by omega)]
    rfl
  · rw [file_Is.l0, if_neg (by omega)]
    rfl
theorem fknown : Ev (fun k => lazaruslaw17_known.f k) true := by
  have e1 : file_Put.f [] ⟨#[102]⟩ ⟨#[97, 98, 99]⟩ = some ([⟨⟨#[102]⟩, ⟨#[97, 98, 99]⟩⟩], 0) := put_one _ _ nameF (by decide)
  have e2 : file_Write.f [⟨⟨#[102]⟩, ⟨#[97, 98, 99]⟩⟩] ⟨#[102]⟩ 1 ⟨#[88]⟩ = some ([⟨⟨#[102]⟩, ⟨#[97, 88, 99]⟩⟩], 0) := write_one ⟨#[102]⟩ ⟨#[97, 98, 99]⟩ 1 ⟨#[88]⟩ nameF (by decide) (by decide)
  refine Ev.congr (fun k => by rw [lazaruslaw17_known.f, e1, Option.bind_some, e2, Option.bind_some, get_one, Option.bind_some, if_pos rfl, if_pos rfl, if_pos rfl, if_pos (by rw [Lib.toList_data])]) ?_
  exact Ev.bind (is_one _ _ nameF (by decide)) (Ev.now true)

theorem refname_l0 (s : ByteArray) (hs : s.size < 9223372036854775807) : ∀ (d i : Nat), i + d = s.size → Lib.NoAny s.data.toList [47, 0] i → Ev (fun k => lazarusref17_Name.l0 k s (i : Int)) (nameOk s)
  | 0, i, h, hno => by
    have hb : file_isName.bad s = false := by
      rw [file_isName.bad, Lib.indexAny_none (by rw [← Lib.size_eq, show s.size = i by omega]; exact hno)]
      rfl
    refine Ev.step (f := fun _ => some (nameOk s)) (fun k => ?_) (Ev.now _)
    rw [lazarusref17_Name.l0, if_neg (by omega), nameOk, hb]
    by_cases h0 : s.size = 0
    · rw [if_neg (by omega)]
      simp [h0]
    · rw [if_pos (by omega), beq_eq_false_iff_ne.2 h0]
      simp
  | d + 1, i, h, hno => by
    have hi : i < s.size := by omega
    have hbt : bt s (i : Int) = ((s[i]'hi).toNat : Int) := (bt_at s (i : Int) hi).symm
    by_cases h47 : (s[i]'hi) = 47
    · refine Ev.step (f := fun _ => some (nameOk s)) (fun k => ?_) (Ev.now _)
      rw [lazarusref17_Name.l0, if_pos (by omega), if_pos (by omega), hbt, h47, if_pos (by rfl), nameOk, bad_hit s i hi hno (by rw [h47]; rfl)]
      simp
    · by_cases h00 : (s[i]'hi) = 0
      · refine Ev.step (f := fun _ => some (nameOk s)) (fun k => ?_) (Ev.now _)
        rw [lazarusref17_Name.l0, if_pos (by omega), if_pos (by omega), hbt, h00, if_neg (by decide), if_pos (by rfl), nameOk, bad_hit s i hi hno (by rw [h00]; rfl)]
        simp
      · have n47 : ¬ (((s[i]'hi).toNat : Int) = 47) := fun e => h47 (UInt8.toNat_inj.1 (show (s[i]'hi).toNat = 47 by omega))
        have n0 : ¬ (((s[i]'hi).toNat : Int) = 0) := fun e => h00 (UInt8.toNat_inj.1 (show (s[i]'hi).toNat = 0 by omega))
        refine Ev.step (f := fun k => lazarusref17_Name.l0 k s ((i + 1 : Nat) : Int)) (fun k => ?_) (refname_l0 s hs d (i + 1) (by omega) (hno.succ (Lib.data_getElem? s i hi) (by
          have e1 : ((s[i]'hi) == 47) = false := beq_eq_false_iff_ne.2 h47
          have e2 : ((s[i]'hi) == 0) = false := beq_eq_false_iff_ne.2 h00
          simp [List.contains, List.elem, e1, e2])))
        rw [lazarusref17_Name.l0, if_pos (by omega), if_pos (by omega), hbt, if_neg n47, if_neg n0, w64 (by omega) (by omega)]
        rfl
theorem refname (s : ByteArray) (hs : s.size < 9223372036854775807) : Ev (fun k => lazarusref17_Name.f k s) (nameOk s) := refname_l0 s hs s.size 0 (by omega) (Lib.NoAny.zero _ _)

/-! the document's own functions -/
theorem idx_cnt (n : ByteArray) : ∀ (l : List S90) (i : Nat), Srt S90.f0 l → Kd.idxN (fun x : S90 => decide (x.f0 = n)) l i = if has S90.f0 l n = true then ((i + cnt S90.f0 l n : Nat) : Int) else -1
  | [], i, _ => by simp [Kd.idxN, has]
  | x :: l, i, h => by
    rw [Kd.idxN, cnt_cons]
    by_cases he : x.f0 = n
    · rw [decide_eq_true he, if_pos rfl, if_pos (by simp [has, he]), if_neg (by rw [he, lt_irr]; simp)]
      rfl
    · have hh : has S90.f0 (x :: l) n = has S90.f0 l n := by
        unfold has
        rw [List.any_cons, decide_eq_false he, Bool.false_or]
      rw [decide_eq_false he, if_neg (by simp), idx_cnt n l (i + 1) h.2, hh]
      by_cases hl : has S90.f0 l n = true
      · rw [if_pos hl, if_pos hl]
        have hx : lt x.f0 n = true := by
          unfold has at hl
          rw [List.any_eq_true] at hl
          obtain ⟨y, hy, hyn⟩ := hl
          have := h.1 y hy
          rwa [of_decide_eq_true hyn] at this
        rw [if_pos hx]
        congr 1
        omega
      · rw [if_neg hl, if_neg hl]
theorem find_l0 (l : List S90) (n : ByteArray) (hl : l.length < 9223372036854775807) : ∀ (d i : Nat), i + d = l.length → Ev (fun k => lazarusref17_Find.l0 k l n (i : Int)) (Kd.idxN (fun x : S90 => decide (x.f0 = n)) (l.drop i) i)
  | 0, i, h => by
    rw [Kd.idxN_end _ _ _ (by omega)]
    exact Ev.step (fun k => by rw [lazarusref17_Find.l0, if_neg (by omega)]) (Ev.now _)
  | d + 1, i, h => by
    rw [Kd.idxN_at _ l z90 i (by omega)]
    have er : rd_T90 l (i : Int) = l.getD i z90 := rfl
    by_cases he : (l.getD i z90).f0 = n
    · rw [if_pos (decide_eq_true he)]
      exact Ev.step (fun k => by rw [lazarusref17_Find.l0, if_pos (by omega), if_pos (by omega), er, if_pos (by rw [he])]) (Ev.now _)
    · rw [if_neg (by simpa using he)]
      refine Ev.step (f := fun k => lazarusref17_Find.l0 k l n ((i + 1 : Nat) : Int)) (fun k => ?_) (find_l0 l n hl d (i + 1) (by omega))
      rw [lazarusref17_Find.l0, if_pos (by omega), if_pos (by omega), er, if_neg (fun e => he (tl_inj e)), w64 (by omega) (by omega)]
      rfl
theorem find_ev (l : List S90) (n : ByteArray) (hl : l.length < 9223372036854775807) (hs : Srt S90.f0 l) : Ev (fun k => lazarusref17_Find.f k l n) (if has S90.f0 l n = true then ((cnt S90.f0 l n : Nat) : Int) else -1) := by
  have h := find_l0 l n hl l.length 0 (by omega)
  rw [List.drop_zero, idx_cnt n l 0 hs, Nat.zero_add] at h
  exact h
theorem refget_ev (l : List S90) (n : ByteArray) (hl : l.length < 4398046511104) (hs : Srt S90.f0 l) : Ev (fun k => lazarusref17_Get.f k l n) (if has S90.f0 l n = true then ((l.getD (cnt S90.f0 l n) z90).f1, true) else (⟨#[]⟩, false)) := by
  have hf := find_ev l n (by omega) hs
  cases hh : has S90.f0 l n with
  | false =>
    rw [hh, if_neg (by simp)] at hf
    rw [if_neg (by simp)]
    refine Ev.bind hf ?_
    exact Ev.congr (fun k => if_pos (by omega)) (Ev.now _)
  | true =>
    have h1 := has_cnt S90.f0 z90 n l hs
    rw [hh, Bool.and_eq_true, decide_eq_true_eq] at h1
    rw [hh, if_pos rfl] at hf
    rw [if_pos rfl]
    refine Ev.bind hf ?_
    exact Ev.congr (fun k => by rw [if_neg (by omega), if_pos (by omega), if_pos (by omega)]; rfl) (Ev.now _)
theorem rd_drop (l : List S90) (i : Nat) (h : i < l.length) : l.drop i = l.getD i z90 :: l.drop (i + 1) := by
  rw [List.drop_eq_getElem_cons h]
  simp [List.getD_eq_getElem?_getD, h]
theorem put_done (l : List S90) (n v : ByteArray) (hl : l.length < 1099511627776) : ∀ (d i : Nat) (o : List S90), i + d = l.length → o.length ≤ i + 1 → (∀ y ∈ l.drop i, y.f0 ≠ n) → Ev (fun k => lazarusref17_Put.l0 k l n v o true (i : Int)) (o ++ l.drop i, 0)
  | 0, i, o, h, ho, hne => by
    rw [List.drop_eq_nil_of_le (by omega), List.append_nil]
    exact Ev.step (fun k => by rw [lazarusref17_Put.l0, if_neg (by omega), if_pos rfl]) (Ev.now _)
  | d + 1, i, o, h, ho, hne => by
    have er : rd_T90 l (i : Int) = l.getD i z90 := rfl
    have hd := rd_drop l i (by omega)
    have hx : (l.getD i z90).f0 ≠ n := hne _ (by rw [hd]; exact List.mem_cons_self)
    have ih := put_done l n v hl d (i + 1) (o ++ [l.getD i z90]) (by omega) (by simp; omega) (fun y hy => hne y (by rw [hd]; exact List.mem_cons_of_mem _ hy))
    rw [hd, show o ++ (l.getD i z90 :: l.drop (i + 1)) = o ++ [l.getD i z90] ++ l.drop (i + 1) by simp]
    refine Ev.step (fun k => by rw [lazarusref17_Put.l0, if_pos (by omega), if_pos rfl]) ?_
    refine Ev.step (f := fun k => lazarusref17_Put.l0 k l n v (o ++ [l.getD i z90]) true ((i + 1 : Nat) : Int)) (fun k => ?_) ih
    rw [lazarusref17_Put.j2, if_neg (by simp), if_pos (by omega), if_pos (by omega), er, if_neg (fun e => hx (tl_inj e)), if_pos (by omega), w64 (by omega) (by omega)]
    rfl
theorem put_l0 (l : List S90) (n v : ByteArray) (hl : l.length < 1099511627776) : ∀ (d i : Nat) (o : List S90), i + d = l.length → o.length ≤ i → Srt S90.f0 (l.drop i) → Ev (fun k => lazarusref17_Put.l0 k l n v o false (i : Int)) (o ++ ins S90.f0 (l.drop i) n ⟨n, v⟩, 0)
  | 0, i, o, h, ho, hs => by
    rw [List.drop_eq_nil_of_le (by omega)]
    exact Ev.step (fun k => by rw [lazarusref17_Put.l0, if_neg (by omega), if_neg (by simp), if_pos (by omega)]; rfl) (Ev.now _)
  | d + 1, i, o, h, ho, hs => by
    have er : rd_T90 l (i : Int) = l.getD i z90 := rfl
    have hd := rd_drop l i (by omega)
    rw [hd] at hs ⊢
    refine Ev.step (fun k => by rw [lazarusref17_Put.l0, if_pos (by omega), if_neg (by simp), if_pos (by omega), er]) ?_
    by_cases hx : lt (l.getD i z90).f0 n = true
    · have hx' : Op.bytesLess (l.getD i z90).f0.toList n.toList = true := hx
      have hne : (l.getD i z90).f0 ≠ n := fun e => by rw [e, lt_irr] at hx; cases hx
      have ih := put_l0 l n v hl d (i + 1) (o ++ [l.getD i z90]) (by omega) (by simp; omega) hs.2
      rw [hx', ins, if_pos hx]
      rw [show o ++ (l.getD i z90 :: ins S90.f0 (l.drop (i + 1)) n ⟨n, v⟩) = o ++ [l.getD i z90] ++ ins S90.f0 (l.drop (i + 1)) n ⟨n, v⟩ by simp]
      refine Ev.step (f := fun k => lazarusref17_Put.l0 k l n v (o ++ [l.getD i z90]) false ((i + 1 : Nat) : Int)) (fun k => ?_) ih
      rw [lazarusref17_Put.j2, if_neg (by simp), if_pos (by omega), if_pos (by omega), er, if_neg (fun e => hne (tl_inj e)), if_pos (by omega), w64 (by omega) (by omega)]
      rfl
    · have hx' : Op.bytesLess (l.getD i z90).f0.toList n.toList = false := by simpa [lt] using hx
      rw [hx', ins, if_neg hx]
      have hrest : ∀ y ∈ l.drop (i + 1), y.f0 ≠ n := fun y hy e => by
        have h1 := hs.1 y hy
        rw [e] at h1
        exact hx h1
      by_cases he : (l.getD i z90).f0 = n
      · rw [if_pos he]
        have ih := put_done l n v hl d (i + 1) (o ++ [⟨n, v⟩]) (by omega) (by simp; omega) hrest
        rw [show o ++ ((⟨n, v⟩ : S90) :: l.drop (i + 1)) = o ++ [⟨n, v⟩] ++ l.drop (i + 1) by simp]
        refine Ev.step (f := fun k => lazarusref17_Put.l0 k l n v (o ++ [⟨n, v⟩]) true ((i + 1 : Nat) : Int)) (fun k => ?_) ih
        rw [lazarusref17_Put.j2, if_pos (by simp), if_pos (by omega), Option.bind_some, if_pos (by omega), if_pos (by omega), er, if_pos (by rw [he]), w64 (by omega) (by omega)]
        rfl
      · rw [if_neg he]
        have ih := put_done l n v hl d (i + 1) (o ++ [⟨n, v⟩] ++ [l.getD i z90]) (by omega) (by simp; omega) hrest
        rw [show o ++ ((⟨n, v⟩ : S90) :: l.getD i z90 :: l.drop (i + 1)) = o ++ [⟨n, v⟩] ++ [l.getD i z90] ++ l.drop (i + 1) by simp]
        refine Ev.step (f := fun k => lazarusref17_Put.l0 k l n v (o ++ [⟨n, v⟩] ++ [l.getD i z90]) true ((i + 1 : Nat) : Int)) (fun k => ?_) ih
        rw [lazarusref17_Put.j2, if_pos (by simp), if_pos (by omega), Option.bind_some, if_pos (by omega), if_pos (by omega), er, if_neg (fun e => he (tl_inj e)), if_pos (by simp; omega), w64 (by omega) (by omega)]
        rfl
theorem refput_ev (l : List S90) (n v : ByteArray) (hn : n.size ≤ 140737488351232) (hl : l.length < 1099511627776) (hs : Srt S90.f0 l) :
    Ev (fun k => lazarusref17_Put.f k l n v) (if nameOk n = true then (if (v.size : Int) > 4000 then ([], 3) else if has S90.f0 l n = false ∧ (l.length : Int) ≥ 20 then ([], 3) else (ins S90.f0 l n ⟨n, v⟩, 0)) else ([], 1)) := by
  refine Ev.bind (refname n (by omega)) ?_
  cases hno : nameOk n with
  | false =>
    rw [if_neg (by simp)]
    exact Ev.congr (fun k => if_neg (by simp)) (Ev.now _)
  | true =>
    rw [if_pos rfl]
    refine Ev.congr (fun k => if_pos rfl) ?_
    have out : Ev (fun k => lazarusref17_Put.j0 k l n v true) ([], 3) := Ev.step (fun k => by rw [lazarusref17_Put.j0, if_pos rfl]) (Ev.now _)
    have go : Ev (fun k => lazarusref17_Put.j0 k l n v false) (ins S90.f0 l n ⟨n, v⟩, 0) := by
      have h := put_l0 l n v hl l.length 0 [] (by omega) (by simp) hs
      rw [List.drop_zero, List.nil_append] at h
      exact Ev.step (fun k => by rw [lazarusref17_Put.j0, if_neg (by simp)]; rfl) h
    by_cases hv : (v.size : Int) > 4000
    · rw [if_pos hv]
      exact Ev.congr (fun k => if_pos hv) out
    · rw [if_neg hv]
      refine Ev.congr (fun k => if_neg hv) ?_
      refine Ev.bind (find_ev l n (by omega) hs) ?_
      cases hh : has S90.f0 l n with
      | true =>
        rw [if_pos rfl, if_neg (by simp)]
        exact Ev.congr (fun k => if_neg (by omega)) go
      | false =>
        rw [if_neg (by simp)]
        refine Ev.congr (fun k => if_pos (by omega)) ?_
        by_cases h20 : (l.length : Int) ≥ 20
        · rw [if_pos ⟨rfl, h20⟩, decide_eq_true h20]
          exact out
        · rw [if_neg (fun e => h20 e.2), decide_eq_false h20]
          exact go
/-! Write -/
theorem ext_size (s : ByteArray) (a b : Nat) : (s.extract a b).size = min (b - a) (s.size - a) := by
  rw [Lib.size_eq, Lib.extract_eq, Lib.size_eq s]
  simp
theorem app_size (a b : ByteArray) : (a ++ b).size = a.size + b.size := by
  rw [Lib.size_eq, Lib.size_eq, Lib.size_eq]
  simp [ByteArray.data_append]
theorem ba_ext {a b : ByteArray} (h : a.data.toList = b.data.toList) : a = b := tl_inj (by rw [Lib.toList_data, Lib.toList_data, h])
theorem ext_data (s : ByteArray) (a b : Nat) : (s.extract a b).data.toList = (s.data.toList.drop a).take (b - a) := by
  rw [Lib.extract_eq]
theorem app_data (a b : ByteArray) : (a ++ b).data.toList = a.data.toList ++ b.data.toList := by simp [ByteArray.data_append]
theorem over_short (l d : List UInt8) (n : Nat) (h : l.length ≤ n + d.length) (F : List UInt8) (hF : F = l ++ List.replicate (n - l.length) 0) : file_Write.over l d n = F.take n ++ d := by
  have h2 := len_fill l (n + d.length)
  rw [file_Write.over, List.drop_eq_nil_of_le (by omega), List.append_nil]
  congr 1
  rw [hF, file_Write.fill, List.take_append, List.take_append, List.take_replicate, List.take_replicate]
  congr 2
  omega
theorem over_long (l d : List UInt8) (n : Nat) (h : n + d.length < l.length) : file_Write.over l d n = l.take n ++ d ++ l.drop (n + d.length) := by
  rw [file_Write.over, fill_id l _ (by omega)]
theorem refwrite_l0 (l : List S90) (n : ByteArray) (m : Nat) (d : ByteArray) (hn : n.size ≤ 140737488351232) (hl : l.length < 1099511627776) (hs : Srt S90.f0 l) (hm : m + d.size ≤ 4000) (s : ByteArray) (hss : s.size ≤ 4000) :
    ∀ (c : Nat) (x : ByteArray) (z : Nat), x.data.toList = s.data.toList ++ List.replicate z 0 → (z = 0 ∨ s.size + z ≤ m) → c = m - (s.size + z) → Ev (fun k => lazarusref17_Write.l0 k l n (m : Int) d x)
      (if nameOk n = true then (if (((⟨(file_Write.over s.data.toList d.data.toList m).toArray⟩ : ByteArray).size : Nat) : Int) > 4000 then ([], 3) else if has S90.f0 l n = false ∧ (l.length : Int) ≥ 20 then ([], 3) else (ins S90.f0 l n ⟨n, ⟨(file_Write.over s.data.toList d.data.toList m).toArray⟩⟩, 0)) else ([], 1))
  | c + 1, x, z, hx, hz, hc => by
    have hxs : x.size = s.size + z := by rw [Lib.size_eq, hx, List.length_append, List.length_replicate, ← Lib.size_eq]
    have ih := refwrite_l0 l n m d hn hl hs hm s hss c (x ++ ⟨#[0]⟩) (z + 1) (by rw [app_data, hx, List.append_assoc, List.replicate_succ']) (.inr (by omega)) (by omega)
    exact Ev.step (fun k => by rw [lazarusref17_Write.l0, if_pos (by omega), if_pos (by omega)]) ih
  | 0, x, z, hx, hz, hc => by
    have hxs : x.size = s.size + z := by rw [Lib.size_eq, hx, List.length_append, List.length_replicate, ← Lib.size_eq]
    have eD : d.size = d.data.toList.length := Lib.size_eq d
    have eS : s.size = s.data.toList.length := Lib.size_eq s
    have HW : Aside0 (wrap64 ((m : Int) + (d.size : Int)) = ((m + d.size : Nat) : Int)) := ⟨by rw [w64 (by omega) (by omega)]; push_cast; rfl⟩
    have s1 : (x.extract 0 ((m : Int)).toNat).size = m := by rw [ext_size, Int.toNat_natCast]; omega
    by_cases hlt : m + d.size < x.size
    · have hz0 : z = 0 := by omega
      subst hz0
      have hxl : x.data.toList = s.data.toList := by rw [hx]; simp
      have hov := over_long s.data.toList d.data.toList m (by omega)
      have e : (x.extract 0 ((m : Int)).toNat ++ d) ++ x.extract ((((m + d.size : Nat) : Int))).toNat x.size = ⟨(file_Write.over s.data.toList d.data.toList m).toArray⟩ := by
        apply ba_ext
        rw [app_data, app_data, ext_data, ext_data, hxl, Int.toNat_natCast, Int.toNat_natCast, List.drop_zero, Nat.sub_zero]
        show _ = file_Write.over s.data.toList d.data.toList m
        rw [hov, List.take_of_length_le (l := s.data.toList.drop (m + d.size)) (by rw [List.length_drop]; omega), eD]
      have s2 : ((x.extract 0 ((m : Int)).toNat) ++ d).size = m + d.size := by rw [app_size, s1]
      have s3 : (x.extract ((((m + d.size : Nat) : Int))).toNat x.size).size = x.size - (m + d.size) := by rw [ext_size, Int.toNat_natCast]; omega
      refine Ev.step (fun k => by rw [lazarusref17_Write.l0, if_neg (by omega), HW.out, if_pos (by omega), if_pos (by omega), if_pos (by omega), if_pos (by omega), if_pos (by omega), if_pos (by rw [s1]; omega), if_pos (by rw [s2, s3]; omega), e]) ?_
      exact Ev.bind (refput_ev l n _ hn hl hs) (Ev.now _)
    · have hov := over_short s.data.toList d.data.toList m (by omega) x.data.toList (by rw [hx]; congr 2; omega)
      have e : (x.extract 0 ((m : Int)).toNat ++ d) ++ (⟨#[]⟩ : ByteArray) = ⟨(file_Write.over s.data.toList d.data.toList m).toArray⟩ := by
        apply ba_ext
        rw [app_data, app_data, ext_data, Int.toNat_natCast, List.drop_zero, Nat.sub_zero]
        show _ = file_Write.over s.data.toList d.data.toList m
        rw [hov]
        exact List.append_nil _
      have s2 : ((x.extract 0 ((m : Int)).toNat) ++ d).size = m + d.size := by rw [app_size, s1]
      refine Ev.step (fun k => by rw [lazarusref17_Write.l0, if_neg (by omega), HW.out, if_neg (by omega), if_pos (by omega), if_pos (by omega), if_pos (by rw [s1]; omega), if_pos (by rw [s2]; omega), e]) ?_
      exact Ev.bind (refput_ev l n _ hn hl hs) (Ev.now _)
/-- What Write answers. -/
def wr (l : List S90) (n : ByteArray) (a2 : Int) (d : ByteArray) : List S90 × Int :=
  if has S90.f0 l n = true then (if 0 ≤ a2 then (if a2 > 4000 then ([], 3) else if a2 + (d.size : Int) > 4000 then ([], 3) else
    (if nameOk n = true then (if (((⟨(file_Write.over (l.getD (cnt S90.f0 l n) z90).f1.data.toList d.data.toList a2.toNat).toArray⟩ : ByteArray).size : Nat) : Int) > 4000 then ([], 3) else if has S90.f0 l n = false ∧ (l.length : Int) ≥ 20 then ([], 3) else (ins S90.f0 l n ⟨n, ⟨(file_Write.over (l.getD (cnt S90.f0 l n) z90).f1.data.toList d.data.toList a2.toNat).toArray⟩⟩, 0)) else ([], 1))) else ([], 1)) else ([], 1)
theorem write_all (l : List S90) (n : ByteArray) (a2 : Int) (d : ByteArray) (hd : d.size ≤ 140737488351232) (hl : l.length < 1099511627776) (hs : Srt S90.f0 l) (ho : has S90.f0 l n = true → (l.getD (cnt S90.f0 l n) z90).f1.size ≤ 4000) :
    file_Write.f l n a2 d = some (wr l n a2 d) := by
  rw [file_Write.f, get_f l n (by omega) hs, wr]
  cases hh : has S90.f0 l n with
  | false =>
    rw [if_neg (by simp), Option.bind_some, if_neg (by simp), if_neg (by simp)]
  | true =>
    have ho' := ho hh
    rw [if_pos rfl, Option.bind_some, if_pos rfl, if_pos rfl]
    by_cases h0 : 0 ≤ a2
    · rw [if_pos h0, if_pos h0]
      by_cases h4 : a2 > 4000
      · rw [if_pos h4, if_pos h4]
      · rw [if_neg h4, if_neg h4, if_pos (by omega)]
        by_cases h5 : a2 + (d.size : Int) > 4000
        · rw [if_pos h5, if_pos h5]
        · rw [if_neg h5, if_neg h5, if_pos (by show (l.getD (cnt S90.f0 l n) z90).f1.size < _; omega), put_all l n _ hl hs, hh]
    · rw [if_neg h0, if_neg h0]
theorem refwrite_ev (l : List S90) (n : ByteArray) (a2 : Int) (d : ByteArray) (hn : n.size ≤ 140737488351232) (hd : d.size ≤ 140737488351232) (hl : l.length < 1099511627776) (hs : Srt S90.f0 l) (ho : has S90.f0 l n = true → (l.getD (cnt S90.f0 l n) z90).f1.size ≤ 4000) :
    Ev (fun k => lazarusref17_Write.f k l n a2 d) (wr l n a2 d) := by
  refine Ev.bind (refget_ev l n (by omega) hs) ?_
  rw [wr]
  have out1 : ∀ x, Ev (fun k => lazarusref17_Write.j0 k l n a2 d x true) ([], 1) := fun x => Ev.step (fun k => by rw [lazarusref17_Write.j0, if_pos rfl]) (Ev.now _)
  have out3 : ∀ x, Ev (fun k => lazarusref17_Write.j1 k l n a2 d x true) ([], 3) := fun x => Ev.step (fun k => by rw [lazarusref17_Write.j1, if_pos rfl]) (Ev.now _)
  cases hh : has S90.f0 l n with
  | false =>
    rw [if_neg (by simp), if_neg (by simp)]
    exact Ev.congr (fun k => if_neg (by simp)) (out1 _)
  | true =>
    have ho' := ho hh
    rw [if_pos rfl, if_pos rfl]
    refine Ev.congr (fun k => if_pos rfl) ?_
    by_cases h0 : 0 ≤ a2
    · obtain ⟨m, rfl⟩ : ∃ m : Nat, a2 = (m : Int) := ⟨a2.toNat, by omega⟩
      rw [if_pos h0, decide_eq_false (by omega)]
      by_cases h4 : (m : Int) > 4000
      · rw [if_pos h4]
        exact Ev.step (fun k => by rw [lazarusref17_Write.j0, if_neg (by simp), if_pos h4]) (out3 _)
      · rw [if_neg h4]
        have hw : wrap64 (4000 - (m : Int)) = 4000 - (m : Int) := w64 (by omega) (by omega)
        by_cases h5 : (m : Int) + (d.size : Int) > 4000
        · rw [if_pos h5]
          exact Ev.step (fun k => by rw [lazarusref17_Write.j0, if_neg (by simp), if_neg h4, hw, decide_eq_true (by omega)]) (out3 _)
        · rw [if_neg h5]
          refine Ev.step (fun k => by rw [lazarusref17_Write.j0, if_neg (by simp), if_neg h4, hw, decide_eq_false (by omega)]) ?_
          refine Ev.step (fun k => by rw [lazarusref17_Write.j1, if_neg (by simp)]) ?_
          have h := refwrite_l0 l n m d hn hl hs (by omega) (l.getD (cnt S90.f0 l n) z90).f1 ho' (m - ((l.getD (cnt S90.f0 l n) z90).f1.size + 0)) (l.getD (cnt S90.f0 l n) z90).f1 0 (by simp) (.inl rfl) rfl
          rw [hh] at h
          exact h
    · rw [if_neg h0, decide_eq_true (by omega)]
      exact out1 _

/-! every script -/
def Good (l : List S90) : Prop := Srt S90.f0 l ∧ (∀ y ∈ l, nameOk y.f0 = true ∧ y.f1.size ≤ 4000) ∧ l.length ≤ 20
def pt (l : List S90) (n v : ByteArray) : List S90 × Int := if nameOk n = true then (if (v.size : Int) > 4000 then ([], 3) else if has S90.f0 l n = false ∧ (l.length : Int) ≥ 20 then ([], 3) else (ins S90.f0 l n ⟨n, v⟩, 0)) else ([], 1)
theorem ins_len_has (l : List S90) (n : ByteArray) (v : S90) (hs : Srt S90.f0 l) (hh : has S90.f0 l n = true) : (ins S90.f0 l n v).length = l.length := by
  rw [← put_ins S90.f0 z90 n v l hs, if_pos hh, List.length_set]
theorem pt_good {l : List S90} (hg : Good l) (n v : ByteArray) (h : (pt l n v).2 = 0) : Good (pt l n v).1 := by
  unfold pt at h ⊢
  by_cases h1 : nameOk n = true
  · rw [if_pos h1] at h ⊢
    by_cases h2 : (v.size : Int) > 4000
    · rw [if_pos h2] at h; cases h
    · rw [if_neg h2] at h ⊢
      by_cases h3 : has S90.f0 l n = false ∧ (l.length : Int) ≥ 20
      · rw [if_pos h3] at h; cases h
      · rw [if_neg h3]
        refine ⟨ins_srt S90.f0 n ⟨n, v⟩ rfl l hg.1, fun y hy => ?_, ?_⟩
        · rcases ins_mem S90.f0 n ⟨n, v⟩ l y hy with rfl | hy
          · exact ⟨h1, by show v.size ≤ 4000; omega⟩
          · exact hg.2.1 y hy
        · have := hg.2.2
          cases hh : has S90.f0 l n with
          | true => show (ins S90.f0 l n ⟨n, v⟩).length ≤ 20; rw [ins_len_has l n _ hg.1 hh]; exact this
          | false =>
            have := ins_len S90.f0 n ⟨n, v⟩ l
            have : ¬ ((l.length : Int) ≥ 20) := fun e => h3 ⟨hh, e⟩
            show (ins S90.f0 l n ⟨n, v⟩).length ≤ 20
            omega
  · rw [if_neg h1] at h; cases h
theorem wr_good {l : List S90} (hg : Good l) (n : ByteArray) (a2 : Int) (d : ByteArray) (h : (wr l n a2 d).2 = 0) : Good (wr l n a2 d).1 := by
  unfold wr at h ⊢
  by_cases h1 : has S90.f0 l n = true
  · rw [if_pos h1] at h ⊢
    by_cases h2 : 0 ≤ a2
    · rw [if_pos h2] at h ⊢
      by_cases h3 : a2 > 4000
      · rw [if_pos h3] at h; cases h
      · rw [if_neg h3] at h ⊢
        by_cases h4 : a2 + (d.size : Int) > 4000
        · rw [if_pos h4] at h; cases h
        · rw [if_neg h4] at h ⊢
          exact pt_good hg n _ h
    · rw [if_neg h2] at h; cases h
  · rw [if_neg h1] at h; cases h
theorem good_data {l : List S90} (hg : Good l) (i : Nat) : (l.getD i z90).f1.size ≤ 4000 := by
  rw [List.getD_eq_getElem?_getD]
  cases h : l[i]? with
  | none => exact Nat.zero_le _
  | some y => exact (hg.2.1 y (List.mem_of_getElem? h)).2
theorem is_l0 {l : List S90} (hg : Good l) : ∀ (d i : Nat), i + d = l.length → Ev (fun k => file_Is.l0 k l l (l.length : Int) (i : Int)) true
  | 0, i, h => by
    have := hg.2.2
    refine Ev.step (f := fun _ => some true) (fun k => ?_) (Ev.now true)
    rw [file_Is.l0, if_neg (by omega), decide_eq_true (by omega)]
  | d + 1, i, h => by
    have hlen := hg.2.2
    have hi : i < l.length := by omega
    have e : rd_T90 l (i : Int) = l.getD i z90 := rfl
    have hm : l.getD i z90 ∈ l := by
      rw [List.getD_eq_getElem?_getD, List.getElem?_eq_getElem hi]
      exact List.getElem_mem hi
    have h1 := hg.2.1 _ hm
    refine Ev.step (f := fun k => file_Is.l0 k l l (l.length : Int) ((i + 1 : Nat) : Int)) (fun k => ?_) (is_l0 hg d (i + 1) (by omega))
    rw [file_Is.l0, if_pos (by omega), if_pos (by omega), if_pos (by omega), isName_f, e, h1.1, Option.bind_some, if_pos rfl, if_neg (by omega)]
    by_cases h0 : i = 0
    · subst h0
      rw [if_neg (by omega), w64 (by omega) (by omega)]
      rfl
    · have hw : wrap64 ((i : Int) - 1) = ((i - 1 : Nat) : Int) := by rw [w64 (by omega) (by omega)]; omega
      have hlt := srt_get S90.f0 z90 l hg.1 (i - 1) i (by omega) hi
      have e2 : rd_T90 l ((i - 1 : Nat) : Int) = l.getD (i - 1) z90 := rfl
      rw [if_pos (by omega), hw, if_pos (by omega), if_pos (by omega), e2, if_pos (show Op.bytesLess _ _ = true from hlt), w64 (by omega) (by omega)]
      rfl
theorem is_ev {l : List S90} (hg : Good l) : Ev (fun k => file_Is.f k l) true := is_l0 hg l.length 0 (by omega)
theorem take_name (l : List S90) (i : Nat) (hi : i < l.length) : (l.take i).map S90.f0 ++ [(l.getD i z90).f0] = (l.take (i + 1)).map S90.f0 := by
  rw [List.take_succ_eq_append_getElem hi, List.map_append, List.getD_eq_getElem?_getD, List.getElem?_eq_getElem hi]
  rfl
theorem names_l0 {l : List S90} (hl : l.length ≤ 20) : ∀ (d i : Nat), i + d = l.length → Ev (fun k => file_Names.l0 k ((l.take i).map S90.f0) l (l.length : Int) (i : Int)) (l.map S90.f0)
  | 0, i, h => by
    refine Ev.step (f := fun _ => some (l.map S90.f0)) (fun k => ?_) (Ev.now _)
    rw [file_Names.l0, if_neg (by omega), List.take_of_length_le (by omega)]
  | d + 1, i, h => by
    have hi : i < l.length := by omega
    have e : rd_T90 l (i : Int) = l.getD i z90 := rfl
    refine Ev.step (f := fun k => file_Names.l0 k ((l.take (i + 1)).map S90.f0) l (l.length : Int) ((i + 1 : Nat) : Int)) (fun k => ?_) (names_l0 hl d (i + 1) (by omega))
    rw [file_Names.l0, if_pos (by omega), if_pos (by omega), if_pos (by omega), if_pos (by rw [List.length_map, List.length_take]; omega), e, take_name l i hi, w64 (by omega) (by omega)]
    rfl
theorem refnames_l0 {l : List S90} (hl : l.length ≤ 20) : ∀ (d i : Nat), i + d = l.length → Ev (fun k => lazarusref17_Names.l0 k l ((l.take i).map S90.f0) (i : Int)) (l.map S90.f0)
  | 0, i, h => by
    refine Ev.step (f := fun _ => some (l.map S90.f0)) (fun k => ?_) (Ev.now _)
    rw [lazarusref17_Names.l0, if_neg (by omega), List.take_of_length_le (by omega)]
  | d + 1, i, h => by
    have hi : i < l.length := by omega
    have e : rd_T90 l (i : Int) = l.getD i z90 := rfl
    refine Ev.step (f := fun k => lazarusref17_Names.l0 k l ((l.take (i + 1)).map S90.f0) ((i + 1 : Nat) : Int)) (fun k => ?_) (refnames_l0 hl d (i + 1) (by omega))
    rw [lazarusref17_Names.l0, if_pos (by omega), if_pos (by omega), if_pos (by rw [List.length_map, List.length_take]; omega), e, take_name l i hi, w64 (by omega) (by omega)]
    rfl
theorem names_ev {l : List S90} (hl : l.length ≤ 20) : Ev (fun k => file_Names.f k l) (l.map S90.f0) := names_l0 hl l.length 0 (by omega)
theorem refnames_ev {l : List S90} (hl : l.length ≤ 20) : Ev (fun k => lazarusref17_Names.f k l) (l.map S90.f0) := refnames_l0 hl l.length 0 (by omega)
theorem ftexts_l0 (l : List ByteArray) (hl : l.length < 9223372036854775807) : ∀ (d i : Nat), i + d = l.length → Ev (fun k => lazarusref14_Texts.l0 k l l (i : Int)) true
  | 0, i, h => Ev.step (fun k => by rw [lazarusref14_Texts.l0, if_neg (by omega)]) (Ev.now true)
  | d + 1, i, h => by
    refine Ev.step (f := fun k => lazarusref14_Texts.l0 k l l ((i + 1 : Nat) : Int)) (fun k => ?_) (ftexts_l0 l hl d (i + 1) (by omega))
    rw [lazarusref14_Texts.l0, if_pos (by omega), if_pos (by omega), if_pos (by omega), if_pos rfl, w64 (by omega) (by omega)]
    rfl
theorem ftexts (l : List ByteArray) (hl : l.length < 9223372036854775807) : Ev (fun k => lazarusref14_Texts.f k l l) true :=
  Ev.congr (fun k => by rw [lazarusref14_Texts.f, if_pos rfl]; rfl) (ftexts_l0 l hl l.length 0 (by omega))
theorem plays_tail (acts : List S57) (l : List S90) (hg : Good l) (i : Int) (i' : Int) (hi : wrap64 (i + 1) = i') (a0 : Int) (a1 : ByteArray) (a2 : Int) (a3 : ByteArray) (h : Ev (fun k => lazaruslaw17_FilePlays.l0 k acts l l i') true) :
    Ev (fun k => lazaruslaw17_FilePlays.j3 k acts l l i a0 a1 a2 a3) true := by
  have hlen := hg.2.2
  refine Ev.step (fun k => by rw [lazaruslaw17_FilePlays.j3, get_f l a1 (by omega) hg.1, Option.bind_some]) ?_
  refine Ev.bind (refget_ev l a1 (by omega) hg.1) ?_
  refine Ev.congr (fun k => by rw [if_pos rfl, if_neg (by simp)]) ?_
  refine Ev.bind (fsame l (by omega)) ?_
  refine Ev.congr (fun k => if_pos rfl) ?_
  refine Ev.bind (is_ev hg) ?_
  refine Ev.congr (fun k => if_pos rfl) ?_
  refine Ev.bind (names_ev hlen) ?_
  refine Ev.bind (refnames_ev hlen) ?_
  refine Ev.bind (ftexts _ (by rw [List.length_map]; omega)) ?_
  refine Ev.congr (fun k => by rw [if_pos rfl, hi]) h
theorem plays_l0 (acts : List S57) (hacts : acts.length ≤ 60) (hb : ∀ y ∈ acts, y.f1.size ≤ 140737488351232 ∧ y.f3.size ≤ 140737488351232) : ∀ (d i : Nat) (l : List S90), i + d = acts.length → Good l → Ev (fun k => lazaruslaw17_FilePlays.l0 k acts l l (i : Int)) true
  | 0, i, l, h, hg => by
    refine Ev.step (fun k => by rw [lazaruslaw17_FilePlays.l0, if_neg (by omega)]) ?_
    exact Ev.bind fknown (Ev.now true)
  | d + 1, i, l, h, hg => by
    have hi : i < acts.length := by omega
    have hlen := hg.2.2
    have hm : rd_T57 acts (i : Int) ∈ acts := by
      have e : rd_T57 acts (i : Int) = acts.getD i z57 := rfl
      rw [e, List.getD_eq_getElem?_getD, List.getElem?_eq_getElem hi]
      exact List.getElem_mem hi
    obtain ⟨h1, h3⟩ := hb _ hm
    have hw : wrap64 ((i : Int) + 1) = ((i + 1 : Nat) : Int) := by rw [w64 (by omega) (by omega)]; rfl
    have ih := fun l hg => plays_l0 acts hacts hb d (i + 1) l (by omega) hg
    have tail := fun l hg a0 a1 a2 a3 => plays_tail acts l hg (i : Int) _ hw a0 a1 a2 a3 (ih l hg)
    have j2 : ∀ (P : List S90 × Int) (a0 : Int) (a1 : ByteArray) (a2 : Int) (a3 : ByteArray), (P.2 = 0 → Good P.1) → Ev (fun k => lazaruslaw17_FilePlays.j2 k acts l l (i : Int) P.2 P.2 P.1 P.1 a0 a1 a2 a3) true := by
      intro P a0 a1 a2 a3 hP
      by_cases h0 : P.2 = 0
      · exact Ev.step (fun k => by rw [lazaruslaw17_FilePlays.j2, if_pos rfl, if_pos h0]) (tail P.1 (hP h0) a0 a1 a2 a3)
      · exact Ev.step (fun k => by rw [lazaruslaw17_FilePlays.j2, if_pos rfl, if_neg h0]) (tail l hg a0 a1 a2 a3)
    generalize hA : rd_T57 acts (i : Int) = a at h1 h3
    have ho : has S90.f0 l a.f1 = true → (l.getD (cnt S90.f0 l a.f1) z90).f1.size ≤ 4000 := fun _ => good_data hg _
    have body : Ev (fun k => lazaruslaw17_FilePlays.j1 k acts l l (i : Int) false a.f0 a.f1 a.f2 a.f3) true := by
      by_cases k1 : a.f0 = 1
      · refine Ev.step (fun k => by rw [lazaruslaw17_FilePlays.j1, if_neg (by simp), if_pos k1, put_all l a.f1 a.f3 (by omega) hg.1, Option.bind_some]) ?_
        refine Ev.bind (refput_ev l a.f1 a.f3 h1 (by omega) hg.1) ?_
        exact j2 (pt l a.f1 a.f3) _ _ _ _ (pt_good hg a.f1 a.f3)
      · by_cases k2 : a.f0 = 2
        · refine Ev.step (fun k => by rw [lazaruslaw17_FilePlays.j1, if_neg (by simp), if_neg k1, if_pos k2, write_all l a.f1 a.f2 a.f3 h3 (by omega) hg.1 ho, Option.bind_some]) ?_
          refine Ev.bind (refwrite_ev l a.f1 a.f2 a.f3 h1 h3 (by omega) hg.1 ho) ?_
          exact j2 (wr l a.f1 a.f2 a.f3) _ _ _ _ (wr_good hg a.f1 a.f2 a.f3)
        · exact Ev.step (fun k => by rw [lazaruslaw17_FilePlays.j1, if_neg (by simp), if_neg k1, if_neg k2]) (j2 (l, 0) _ _ _ _ (fun _ => hg))
    by_cases hs : (a.f3.size : Int) > 300
    · by_cases h4 : (a.f3.size : Int) ≤ 4000
      · exact Ev.step (fun k => by rw [lazaruslaw17_FilePlays.l0, if_pos (by omega), if_pos (by omega), hA, if_pos hs, decide_eq_true h4]) (Ev.step (fun k => by rw [lazaruslaw17_FilePlays.j1, if_pos rfl]) (Ev.now true))
      · exact Ev.step (fun k => by rw [lazaruslaw17_FilePlays.l0, if_pos (by omega), if_pos (by omega), hA, if_pos hs, decide_eq_false h4]) body
    · exact Ev.step (fun k => by rw [lazaruslaw17_FilePlays.l0, if_pos (by omega), if_pos (by omega), hA, if_neg hs]) body
theorem FilePlays : ∀ (l0 : List S57), (l0.length * 48 ≤ 140737488351232 ∧ ∀ y2 ∈ l0, ((Lit.int .i64 y2.f0).wf = true ∧ y2.f1.size ≤ 140737488351232 ∧ (Lit.int .i64 y2.f2).wf = true ∧ y2.f3.size ≤ 140737488351232)) → ∃ k, lazaruslaw17_FilePlays.f k l0 = some true := by
  intro acts hb
  apply Ev.rounds
  by_cases h : (acts.length : Int) > 60
  · exact Ev.congr (fun k => by rw [lazaruslaw17_FilePlays.f, if_pos h]) (Ev.now true)
  · refine Ev.congr (fun k => by rw [lazaruslaw17_FilePlays.f, if_neg h]) ?_
    exact plays_l0 acts (by omega) (fun y hy => ⟨(hb.2 y hy).2.1, (hb.2 y hy).2.2.2⟩) acts.length 0 [] (by omega) ⟨trivial, (fun y hy => by cases hy), by simp⟩

end Go.Proofs.Ythlakeaefoljnaa.Pure
