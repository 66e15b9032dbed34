/- Contracts of the calls, by hand. -/
import Derived.Test.YtikninibkljnnaaQPortLinesx4
import Derived.RangeFuncNested
import Derived.RangeFuncBound
import Derived.RangeFuncCalls
import Derived.RangeFuncLeaves
import Derived.RangeFuncBox
import Derived.Shelf.Abstract
import Derived.Shelf.RegionOpen
import Derived.OwnWalkIn
import Derived.TacticsInMore
import Derived.LoopNIn
import Derived.LoopIn
import Derived.Sort.QuietIn
import Derived.Sort.CutIn
import Derived.Stop.RegionWithIn
import Derived.StillTailTactics
import Derived.StillTail
import Derived.Deep.RegionHeld
import Derived.StillTailTactics
namespace Go.Proofs.Ytikninibkljnnaa.Hnd
open Go.RowKit Go.Proofs.Ytikninibkljnnaa.QPortLines Go.Proofs.YtikninibkljnnaaW.PrintWords Go.Proofs.YtikninibkljnnaaW.PrintLast  Go.Shelf
set_option linter.unusedVariables false
set_option linter.unusedSimpArgs false
set_option linter.unusedVariables false
set_option linter.unusedSimpArgs false
theorem w64 {x : Int} (h₀ : -9223372036854775808 ≤ x) (h₁ : x < 9223372036854775808) : wrap64 x = x := by unfold wrap64; omega
theorem tl_inj {a b : ByteArray} (h : a.toList = b.toList) : a = b := by
  rw [Lib.toList_data, Lib.toList_data] at h
  obtain ⟨⟨x⟩⟩ := a
  obtain ⟨⟨y⟩⟩ := b
  simp only at h
  rw [h]
theorem tl_beq (a b : ByteArray) : (a.toList == b.toList) = decide (a = b) := by
  by_cases h : a = b
  · subst h; simp
  · rw [decide_eq_false h, beq_eq_false_iff_ne]
    exact fun e => h (tl_inj e)
/-! The order of texts. -/
theorem bl_irr : ∀ l : List UInt8, Op.bytesLess l l = false
  | [] => rfl
  | a :: l => by simp [Op.bytesLess, bl_irr l]
theorem bl_trans : ∀ x y z : List UInt8, Op.bytesLess x y = true → Op.bytesLess y z = true → Op.bytesLess x z = true
  | _, [], _, h, _ => by simp [Op.bytesLess] at h
  | [], _ :: _, [], _, h => by simp [Op.bytesLess] at h
  | [], _ :: _, _ :: _, _, _ => rfl
  | _ :: _, _ :: _, [], _, h => by simp [Op.bytesLess] at h
  | a :: x, b :: y, c :: z, h, h' => by
    simp only [Op.bytesLess, Bool.or_eq_true, Bool.and_eq_true, decide_eq_true_eq, beq_iff_eq] at h h' ⊢
    rcases h with h | ⟨rfl, h⟩
    · rcases h' with h' | ⟨rfl, h'⟩
      · exact .inl (UInt8.lt_trans h h')
      · exact .inl h
    · rcases h' with h' | ⟨rfl, h'⟩
      · exact .inl h'
      · exact .inr ⟨rfl, bl_trans x y z h h'⟩
theorem bl_tri : ∀ x y : List UInt8, Op.bytesLess x y = false → Op.bytesLess y x = false → x = y
  | [], [], _, _ => rfl
  | [], _ :: _, h, _ => by simp [Op.bytesLess] at h
  | _ :: _, [], _, h => by simp [Op.bytesLess] at h
  | a :: x, b :: y, h, h' => by
    simp only [Op.bytesLess, Bool.or_eq_false_iff, Bool.and_eq_false_iff, decide_eq_false_iff_not, beq_eq_false_iff_ne, ne_eq] at h h'
    have hab : a = b := by
      have h1 := UInt8.not_lt.1 h.1
      have h2 := UInt8.not_lt.1 h'.1
      exact UInt8.le_antisymm h2 h1
    subst hab
    rcases h.2 with h1 | h1
    · exact absurd rfl h1
    rcases h'.2 with h2 | h2
    · exact absurd rfl h2
    rw [bl_tri x y h1 h2]
/-- Is a text ahead of another one? -/
def lt (a b : ByteArray) : Bool := Op.bytesLess a.toList b.toList
theorem lt_irr (a : ByteArray) : lt a a = false := bl_irr _
theorem lt_trans {a b c : ByteArray} (h : lt a b = true) (h' : lt b c = true) : lt a c = true := bl_trans _ _ _ h h'
theorem lt_asymm {a b : ByteArray} (h : lt a b = true) : lt b a = false := by
  cases h' : lt b a with
  | false => rfl
  | true => have := lt_trans h h'; rw [lt_irr] at this; cases this
theorem lt_tri {a b : ByteArray} (h : lt a b = false) (h' : lt b a = false) : a = b := tl_inj (bl_tri _ _ h h')
theorem cmpS_lt (a b : ByteArray) : decide (Kd.cmpS a b < 0) = lt a b := by
  unfold Kd.cmpS lt
  split
  · simp_all
  · rename_i h
    rw [Bool.not_eq_true] at h
    rw [h]
    split <;> simp
theorem cmpS_eq (a b : ByteArray) : (Kd.cmpS a b == 0) = decide (a = b) := by
  unfold Kd.cmpS
  by_cases h : a = b
  · subst h
    rw [if_neg (by rw [bl_irr]; simp), if_pos rfl]
    simp
  · rw [decide_eq_false h]
    split
    · rfl
    · rw [if_neg (fun e => h (tl_inj e))]
      rfl
/-! The search. -/
theorem bsr_spec (p : Nat → Bool) (hp : ∀ i j, i ≤ j → p j = true → p i = true) : ∀ (d lo hi : Nat), lo ≤ hi → hi - lo ≤ d →
    lo ≤ Kd.bsr p d lo hi ∧ Kd.bsr p d lo hi ≤ hi ∧ (∀ i, lo ≤ i → i < Kd.bsr p d lo hi → p i = true) ∧ (∀ i, Kd.bsr p d lo hi ≤ i → i < hi → p i = false)
  | 0, lo, hi, h, h' => by
    rw [Kd.bsr]
    exact ⟨Nat.le_refl _, h, fun i h1 h2 => by omega, fun i h1 h2 => by omega⟩
  | d + 1, lo, hi, h, h' => by
    rw [Kd.bsr]
    by_cases hl : lo < hi
    · rw [if_pos hl]
      by_cases hm : p ((lo + hi) / 2) = true
      · rw [if_pos hm]
        obtain ⟨a1, a2, a3, a4⟩ := bsr_spec p hp d ((lo + hi) / 2 + 1) hi (by omega) (by omega)
        refine ⟨by omega, a2, fun i h1 h2 => ?_, a4⟩
        by_cases hi2 : i ≤ (lo + hi) / 2
        · exact hp _ _ hi2 hm
        · exact a3 i (by omega) h2
      · rw [if_neg hm]
        obtain ⟨a1, a2, a3, a4⟩ := bsr_spec p hp d lo ((lo + hi) / 2) (by omega) (by omega)
        refine ⟨a1, by omega, a3, fun i h1 h2 => ?_⟩
        by_cases hi2 : i < (lo + hi) / 2
        · exact a4 i h1 hi2
        · cases hpi : p i with
          | false => rfl
          | true => exact absurd (hp _ _ (by omega) hpi) hm
    · rw [if_neg hl]
      exact ⟨Nat.le_refl _, h, fun i h1 h2 => by omega, fun i h1 h2 => by omega⟩
section
variable {α : Type} (nm : α → ByteArray)
/-- Are names in order, none twice? -/
def Srt : List α → Prop
  | [] => True
  | x :: l => (∀ y ∈ l, lt (nm x) (nm y) = true) ∧ Srt l
/-- How many names are ahead of one. -/
def cnt (l : List α) (s : ByteArray) : Nat := (l.takeWhile (fun x => lt (nm x) s)).length
def ins : List α → ByteArray → α → List α
  | [], _, v => [v]
  | x :: l, s, v => if lt (nm x) s = true then x :: ins l s v else if nm x = s then v :: l else v :: x :: l
def rem : List α → ByteArray → List α
  | [], _ => []
  | x :: l, s => if nm x = s then l else x :: rem l s
theorem srt_get (z : α) : ∀ (l : List α), Srt nm l → ∀ i j, i < j → j < l.length → lt (nm (l.getD i z)) (nm (l.getD j z)) = true
  | [], _, i, j, _, h => by simp at h
  | x :: l, h, 0, 0, hij, _ => by omega
  | x :: l, h, 0, j + 1, _, hj => by
    have hj' : j < l.length := by simpa using hj
    rw [List.getD_cons_zero, List.getD_cons_succ]
    refine h.1 _ ?_
    rw [List.getD_eq_getElem?_getD, List.getElem?_eq_getElem hj']
    exact List.getElem_mem hj'
  | x :: l, h, i + 1, 0, hij, _ => by omega
  | x :: l, h, i + 1, j + 1, hij, hj => by
    rw [List.getD_cons_succ, List.getD_cons_succ]
    exact srt_get z l h.2 i j (by omega) (by simpa using hj)
theorem cnt_le (s : ByteArray) : ∀ l : List α, cnt nm l s ≤ l.length
  | [] => Nat.le_refl _
  | x :: l => by
    unfold cnt
    rw [List.takeWhile_cons]
    split
    · have := cnt_le s l
      unfold cnt at this
      simp; omega
    · simp
theorem cnt_cons (x : α) (l : List α) (s : ByteArray) : cnt nm (x :: l) s = if lt (nm x) s = true then cnt nm l s + 1 else 0 := by
  unfold cnt
  rw [List.takeWhile_cons]
  split <;> simp
theorem cnt_before (z : α) (s : ByteArray) : ∀ (l : List α) (i : Nat), i < cnt nm l s → lt (nm (l.getD i z)) s = true
  | [], i, h => by simp [cnt] at h
  | x :: l, i, h => by
    rw [cnt_cons] at h
    split at h
    · rename_i hx
      cases i with
      | zero => exact hx
      | succ i => rw [List.getD_cons_succ]; exact cnt_before z s l i (by omega)
    · omega
theorem cnt_at (z : α) (s : ByteArray) : ∀ (l : List α), cnt nm l s < l.length → lt (nm (l.getD (cnt nm l s) z)) s = false
  | [], h => by simp at h
  | x :: l, h => by
    rw [cnt_cons] at h ⊢
    split at h
    · rename_i hx
      rw [if_pos hx, List.getD_cons_succ]
      exact cnt_at z s l (by simpa using h)
    · rename_i hx
      rw [if_neg hx, List.getD_cons_zero]
      simpa using hx
theorem find_cnt (z : α) (l : List α) (s : ByteArray) (h : Srt nm l) : Kd.bsr (fun m => decide (Kd.cmpS (nm (l.getD m z)) s < 0)) l.length 0 l.length = cnt nm l s := by
  have e : ∀ m, m < l.length → decide (Kd.cmpS (nm (l.getD m z)) s < 0) = lt (nm (l.getD m z)) s := fun m _ => cmpS_lt _ _
  obtain ⟨p, hp⟩ : ∃ p : Nat → Bool, p = fun m => decide (m < l.length) && lt (nm (l.getD m z)) s := ⟨_, rfl⟩
  have hmono : ∀ i j, i ≤ j → p j = true → p i = true := by
    intro i j hij hj
    rw [hp] at hj ⊢
    simp only [Bool.and_eq_true, decide_eq_true_eq] at hj ⊢
    refine ⟨by omega, ?_⟩
    by_cases hij' : i = j
    · subst hij'; exact hj.2
    · exact lt_trans (srt_get nm z l h i j (by omega) hj.1) hj.2
  have hcong : ∀ (d lo hi : Nat), hi ≤ l.length → Kd.bsr (fun m => decide (Kd.cmpS (nm (l.getD m z)) s < 0)) d lo hi = Kd.bsr p d lo hi := by
    intro d
    induction d with
    | zero => intro lo hi _; rfl
    | succ d ih =>
      intro lo hi hle
      rw [Kd.bsr, Kd.bsr]
      by_cases hl : lo < hi
      · rw [if_pos hl, if_pos hl]
        have e1 : p ((lo + hi) / 2) = decide (Kd.cmpS (nm (l.getD ((lo + hi) / 2) z)) s < 0) := by
          rw [hp, cmpS_lt]
          simp only
          rw [decide_eq_true (by omega : (lo + hi) / 2 < l.length), Bool.true_and]
        rw [e1, ih _ _ hle, ih _ _ (by omega)]
      · rw [if_neg hl, if_neg hl]
  rw [hcong _ _ _ (Nat.le_refl _)]
  obtain ⟨a1, a2, a3, a4⟩ := bsr_spec p hmono l.length 0 l.length (Nat.zero_le _) (by omega)
  generalize Kd.bsr p l.length 0 l.length = r at *
  have hc := cnt_le nm s l
  rcases Nat.lt_trichotomy r (cnt nm l s) with hlt | heq | hgt
  · have h1 := a4 r (Nat.le_refl _) (by omega)
    have h2 := cnt_before nm z s l r hlt
    rw [hp] at h1
    simp only [h2, Bool.and_true, decide_eq_false_iff_not] at h1
    omega
  · exact heq
  · have h1 := a3 (cnt nm l s) (Nat.zero_le _) hgt
    have h2 := cnt_at nm z s l (by omega)
    rw [hp] at h1
    simp only [h2, Bool.and_false] at h1
    cases h1
/-- Is a name there? -/
def has (l : List α) (s : ByteArray) : Bool := l.any (fun x => decide (nm x = s))
theorem has_cnt (z : α) (s : ByteArray) : ∀ (l : List α), Srt nm l → (decide (cnt nm l s < l.length) && decide (nm (l.getD (cnt nm l s) z) = s)) = has nm l s
  | [], _ => by simp [has, cnt]
  | x :: l, h => by
    rw [cnt_cons]
    unfold has
    rw [List.any_cons]
    split
    · rename_i hx
      have hne : nm x ≠ s := fun e => by rw [e, lt_irr] at hx; cases hx
      rw [decide_eq_false hne, Bool.false_or, List.getD_cons_succ]
      have := has_cnt z s l h.2
      unfold has at this
      rw [← this]
      simp
    · rename_i hx
      rw [List.getD_cons_zero]
      by_cases he : nm x = s
      · simp [he]
      · rw [decide_eq_false he, Bool.and_false, Bool.false_or, eq_comm, List.any_eq_false]
        intro y hy
        have h1 := h.1 y hy
        simp only [decide_eq_true_eq]
        intro e
        rw [e] at h1
        exact hx h1
theorem put_ins (z : α) (s : ByteArray) (v : α) : ∀ (l : List α), Srt nm l → (if has nm l s = true then l.set (cnt nm l s) v else l.take (cnt nm l s) ++ [v] ++ l.drop (cnt nm l s)) = ins nm l s v
  | [], _ => by simp [has, cnt, ins]
  | x :: l, h => by
    rw [cnt_cons, ins]
    by_cases hx : lt (nm x) s = true
    · have hne : nm x ≠ s := fun e => by rw [e, lt_irr] at hx; cases hx
      have hh : has nm (x :: l) s = has nm l s := by
        unfold has
        rw [List.any_cons, decide_eq_false hne, Bool.false_or]
      rw [if_pos hx, if_pos hx, hh, ← put_ins z s v l h.2]
      split
      · simp
      · simp
    · rw [if_neg hx, if_neg hx]
      by_cases he : nm x = s
      · rw [if_pos (show has nm (x :: l) s = true by simp [has, he]), if_pos he]
        simp
      · have hh : has nm (x :: l) s = false := by
          unfold has
          rw [List.any_eq_false]
          intro y hy
          simp only [decide_eq_true_eq]
          rcases List.mem_cons.1 hy with rfl | hy
          · exact he
          · intro e
            have h1 := h.1 y hy
            rw [e] at h1
            exact hx h1
        rw [hh, if_neg (by simp), if_neg he]
        simp
theorem cut_rem (z : α) (s : ByteArray) : ∀ (l : List α), Srt nm l → (if has nm l s = true then l.take (cnt nm l s) ++ l.drop (cnt nm l s + 1) else l) = rem nm l s
  | [], _ => by simp [has, rem]
  | x :: l, h => by
    rw [cnt_cons, rem]
    by_cases he : nm x = s
    · have hx : lt (nm x) s = false := by rw [he, lt_irr]
      rw [if_pos (show has nm (x :: l) s = true by simp [has, he]), if_pos he, if_neg (by rw [hx]; simp)]
      simp
    · have hh : has nm (x :: l) s = has nm l s := by
        unfold has
        rw [List.any_cons, decide_eq_false he, Bool.false_or]
      rw [if_neg he, hh, ← cut_rem z s l h.2]
      by_cases hx : lt (nm x) s = true
      · rw [if_pos hx]
        split
        · simp
        · rfl
      · have h0 : has nm l s = false := by
          unfold has
          rw [List.any_eq_false]
          intro y hy
          simp only [decide_eq_true_eq]
          intro e
          have h1 := h.1 y hy
          rw [e] at h1
          exact hx h1
        rw [h0, if_neg (by simp), if_neg (by simp)]
theorem ins_mem (s : ByteArray) (v : α) : ∀ (l : List α) (y : α), y ∈ ins nm l s v → y = v ∨ y ∈ l
  | [], y, h => by simpa [ins] using h
  | x :: l, y, h => by
    rw [ins] at h
    split at h
    · rcases List.mem_cons.1 h with rfl | h
      · exact .inr List.mem_cons_self
      · rcases ins_mem s v l y h with h | h
        · exact .inl h
        · exact .inr (List.mem_cons_of_mem _ h)
    · split at h
      · rcases List.mem_cons.1 h with rfl | h
        · exact .inl rfl
        · exact .inr (List.mem_cons_of_mem _ h)
      · rcases List.mem_cons.1 h with rfl | h
        · exact .inl rfl
        · exact .inr h
theorem ins_srt (s : ByteArray) (v : α) (hv : nm v = s) : ∀ (l : List α), Srt nm l → Srt nm (ins nm l s v)
  | [], _ => ⟨by simp, trivial⟩
  | x :: l, h => by
    rw [ins]
    by_cases hx : lt (nm x) s = true
    · rw [if_pos hx]
      refine ⟨fun y hy => ?_, ins_srt s v hv l h.2⟩
      rcases ins_mem nm s v l y hy with rfl | hy
      · rw [hv]; exact hx
      · exact h.1 y hy
    · rw [if_neg hx]
      by_cases he : nm x = s
      · rw [if_pos he]
        exact ⟨fun y hy => by rw [hv, ← he]; exact h.1 y hy, h.2⟩
      · rw [if_neg he]
        have hsx : lt s (nm x) = true := by
          cases hq : lt s (nm x) with
          | true => rfl
          | false => exact absurd (lt_tri (by simpa using hx) hq) he
        refine ⟨fun y hy => ?_, h⟩
        rw [hv]
        rcases List.mem_cons.1 hy with rfl | hy
        · exact hsx
        · exact lt_trans hsx (h.1 y hy)
theorem rem_mem (s : ByteArray) : ∀ (l : List α) (y : α), y ∈ rem nm l s → y ∈ l
  | [], y, h => by simp [rem] at h
  | x :: l, y, h => by
    rw [rem] at h
    split at h
    · exact List.mem_cons_of_mem _ h
    · rcases List.mem_cons.1 h with rfl | h
      · exact List.mem_cons_self
      · exact List.mem_cons_of_mem _ (rem_mem s l y h)
theorem rem_srt (s : ByteArray) : ∀ (l : List α), Srt nm l → Srt nm (rem nm l s)
  | [], _ => trivial
  | x :: l, h => by
    rw [rem]
    split
    · exact h.2
    · exact ⟨fun y hy => h.1 y (rem_mem nm s l y hy), rem_srt s l h.2⟩
theorem ins_len (s : ByteArray) (v : α) : ∀ (l : List α), (ins nm l s v).length ≤ l.length + 1
  | [] => by simp [ins]
  | x :: l => by
    rw [ins]
    have := ins_len s v l
    split
    · simp; omega
    · split <;> simp
theorem ins_has (s : ByteArray) (v : α) (hv : nm v = s) : ∀ (l : List α), has nm (ins nm l s v) s = true
  | [] => by simp [ins, has, hv]
  | x :: l => by
    rw [ins]
    have ih := ins_has s v hv l
    unfold has at ih ⊢
    split
    · rw [List.any_cons, ih, Bool.or_true]
    · split <;> simp [hv]
theorem ins_at (z : α) (s : ByteArray) (v : α) (hv : nm v = s) : ∀ (l : List α), Srt nm l → (ins nm l s v).getD (cnt nm (ins nm l s v) s) z = v
  | [], _ => by
    rw [ins, cnt_cons, hv, lt_irr, if_neg (by simp)]
    rfl
  | x :: l, h => by
    rw [ins]
    by_cases hx : lt (nm x) s = true
    · rw [if_pos hx, cnt_cons, if_pos hx, List.getD_cons_succ]
      exact ins_at z s v hv l h.2
    · rw [if_neg hx]
      have hz : ∀ L : List α, (v :: L).getD (cnt nm (v :: L) s) z = v := fun L => by
        rw [cnt_cons, hv, lt_irr, if_neg (by simp)]
        rfl
      split
      · exact hz _
      · exact hz _
/-- Of names that are unlike it does not matter which is put first. -/
theorem ins_comm (s t : ByteArray) (v u : α) (hv : nm v = s) (hu : nm u = t) (hne : s ≠ t) : ∀ (l : List α), Srt nm l → ins nm (ins nm l s v) t u = ins nm (ins nm l t u) s v
  | [], _ => by
    simp only [ins]
    rw [hv, hu]
    by_cases h1 : lt s t = true
    · rw [if_pos h1, if_neg (by rw [lt_asymm h1]; simp), if_neg hne.symm]
    · rw [if_neg h1, if_neg hne]
      have h2 : lt t s = true := by
        cases hq : lt t s with
        | true => rfl
        | false => exact absurd (lt_tri (by simpa using h1) hq) hne
      rw [if_pos h2]
  | x :: l, h => by
    have tri : ∀ {a b : ByteArray}, ¬ lt a b = true → a ≠ b → lt b a = true := fun {a b} h1 hn => by
      cases hq : lt b a with
      | true => rfl
      | false => exact absurd (lt_tri (by simpa using h1) hq) hn
    have ih := ins_comm s t v u hv hu hne l h.2
    by_cases a1 : lt (nm x) s = true
    · by_cases a2 : lt (nm x) t = true
      · simp only [ins, if_pos a1, if_pos a2, ih]
      · have hts : lt t s = true := by
          by_cases he : nm x = t
          · rw [← he]; exact a1
          · exact lt_trans (tri a2 he) a1
        by_cases he : nm x = t
        · simp only [ins, if_pos a1, if_neg a2, if_pos he, hu, if_pos hts]
        · simp only [ins, if_pos a1, if_neg a2, if_neg he, hu, if_pos hts]
    · by_cases a2 : lt (nm x) t = true
      · have hst : lt s t = true := by
          by_cases he : nm x = s
          · rw [← he]; exact a2
          · exact lt_trans (tri a1 he) a2
        by_cases he : nm x = s
        · simp only [ins, if_neg a1, if_pos a2, if_pos he, hv, if_pos hst]
        · simp only [ins, if_neg a1, if_pos a2, if_neg he, hv, if_pos hst]
      · by_cases e1 : nm x = s
        · have e2 : nm x ≠ t := fun e => hne (e1.symm.trans e)
          have hts : lt t s = true := by rw [← e1]; exact tri a2 e2
          have hst := lt_asymm hts
          simp only [ins, if_neg a1, if_neg a2, if_pos e1, if_neg e2, hv, hu, hst, if_neg hne, hts, if_true, Bool.false_eq_true, if_false]
        · by_cases e2 : nm x = t
          · have hst : lt s t = true := by rw [← e2]; exact tri a1 e1
            have hts := lt_asymm hst
            simp only [ins, if_neg a1, if_neg a2, if_pos e2, if_neg e1, hv, hu, hst, hts, if_neg hne.symm, if_true, Bool.false_eq_true, if_false]
          · by_cases h1 : lt s t = true
            · have h2 := lt_asymm h1
              simp only [ins, if_neg a1, if_neg a2, if_neg e2, if_neg e1, hv, hu, h1, h2, if_neg hne.symm, if_true, Bool.false_eq_true, if_false]
            · have h2 := tri h1 hne
              rw [Bool.not_eq_true] at h1
              simp only [ins, if_neg a1, if_neg a2, if_neg e2, if_neg e1, hv, hu, h1, h2, if_neg hne, if_true, Bool.false_eq_true, if_false]
end
/-! file -/
def nameOk (s : ByteArray) : Bool := !(s.size == 0) && decide ((s.size : Int) ≤ 4000) && !file_isName.bad s
theorem isName_f (s : ByteArray) : file_isName.f s = some (nameOk s) := rfl
theorem bad_hit (s : ByteArray) (i : Nat) (h : i < s.size) (hno : Lib.NoAny s.data.toList [47, 0] i) (hc : ([47, 0] : List UInt8).contains (s[i]'h) = true) : file_isName.bad s = true := by
  rw [file_isName.bad, Lib.indexAny_hit hno (Lib.data_getElem? s i h) hc]
  simp
theorem fcl (l : List S55) (h : l.length < 4398046511104) : api_File_23.f l = some l := by
  rw [api_File_23.f, Option.bind_some, if_pos (by simpa using h), List.nil_append]
theorem fi (l : List S55) (s : ByteArray) (h : Srt S55.f0 l) : file_find.find_i l s = cnt S55.f0 l s := find_cnt S55.f0 z55 l s h
theorem fh (l : List S55) (s : ByteArray) (h : Srt S55.f0 l) : file_find.hit l s = has S55.f0 l s := by
  rw [file_find.hit, fi l s h, cmpS_eq]
  exact has_cnt S55.f0 z55 s l h
theorem put_all (l : List S55) (n v : ByteArray) (hl : l.length < 1099511627776) (hs : Srt S55.f0 l) :
    file_Put.f l n v = some (if nameOk n = true then (if (v.size : Int) > 4000 then ([], 3) else if has S55.f0 l n = false ∧ (l.length : Int) ≥ 20 then ([], 3) else (ins S55.f0 l n ⟨n, v⟩, 0)) else ([], 1)) := by
  rw [file_Put.f, isName_f, Option.bind_some, if_pos hl, file_Put.put, fi l n hs, fh l n hs, put_ins S55.f0 z55 n ⟨n, v⟩ l hs]
  repeat' split
  all_goals rfl
theorem put_f (l : List S55) (n v : ByteArray) (hl : l.length < 1099511627776) (hs : Srt S55.f0 l) (hn : nameOk n = true) (hv : v.size ≤ 4000) (hh : has S55.f0 l n = true ∨ l.length < 20) :
    file_Put.f l n v = some (ins S55.f0 l n ⟨n, v⟩, 0) := by
  rw [put_all l n v hl hs, if_pos hn, if_neg (by omega), if_neg (fun e => by
    rcases hh with hh | hh
    · rw [hh] at e; cases e.1
    · omega)]
theorem get_f (l : List S55) (n : ByteArray) (hl : l.length < 4398046511104) (hs : Srt S55.f0 l) :
    file_Get.f l n = some (if has S55.f0 l n = true then ((l.getD (cnt S55.f0 l n) z55).f1, true) else (⟨#[]⟩, false)) := by
  rw [file_Get.f, file_find.f, if_pos (by omega), Option.bind_some, fh l n hs, fi l n hs]
  cases hh : has S55.f0 l n with
  | false => rw [if_neg (by simp), if_neg (by simp)]
  | true =>
    have h1 := has_cnt S55.f0 z55 n l hs
    rw [hh, Bool.and_eq_true, decide_eq_true_eq] at h1
    rw [if_pos rfl, if_pos (by omega), if_pos (by omega), if_pos rfl]
    rfl
theorem len_fill (l : List UInt8) (n : Nat) : (file_Write.fill l n).length = max l.length n := by
  rw [file_Write.fill, List.length_append, List.length_replicate]
  omega
theorem len_over (l d : List UInt8) (n : Nat) : (file_Write.over l d n).length = max l.length (n + d.length) := by
  have := len_fill l (n + d.length)
  rw [file_Write.over, List.length_append, List.length_append, List.length_take, List.length_drop]
  omega
theorem fill_id (l : List UInt8) (n : Nat) (h : n ≤ l.length) : file_Write.fill l n = l := by
  rw [file_Write.fill, show n - l.length = 0 by omega, List.replicate_zero, List.append_nil]
theorem over_mid (l d : List UInt8) (n : Nat) : ((file_Write.over l d n).drop n).take d.length = d := by
  have := len_fill l (n + d.length)
  rw [file_Write.over, List.append_assoc, List.drop_left' (by rw [List.length_take]; omega), List.take_left' rfl]
theorem over_take (l d : List UInt8) (n k : Nat) (h1 : k ≤ n) (h2 : k ≤ l.length) : (file_Write.over l d n).take k = l.take k := by
  have := len_fill l (n + d.length)
  rw [file_Write.over, List.append_assoc, List.take_append_of_le_length (by rw [List.length_take]; omega), List.take_take, Nat.min_eq_left h1, file_Write.fill, List.take_append_of_le_length h2]
theorem over_drop (l d : List UInt8) (n : Nat) (h : n + d.length ≤ l.length) : (file_Write.over l d n).drop (n + d.length) = l.drop (n + d.length) := by
  have := len_fill l (n + d.length)
  rw [file_Write.over, List.drop_left' (by rw [List.length_append, List.length_take]; omega), fill_id l _ h]
theorem over_over (l d : List UInt8) (n : Nat) : file_Write.over (file_Write.over l d n) d n = file_Write.over l d n := by
  have h1 := len_over l d n
  have h2 := len_fill l (n + d.length)
  rw [file_Write.over, fill_id (file_Write.over l d n) _ (by omega)]
  have e1 : (file_Write.over l d n).take n = (file_Write.fill l (n + d.length)).take n := by
    rw [file_Write.over, List.append_assoc, List.take_left' (by rw [List.length_take]; omega)]
  have e2 : (file_Write.over l d n).drop (n + d.length) = (file_Write.fill l (n + d.length)).drop (n + d.length) := by
    rw [file_Write.over, List.drop_left' (by rw [List.length_append, List.length_take]; omega)]
  rw [e1, e2]
  rfl
theorem mk_size (l : List UInt8) : (⟨l.toArray⟩ : ByteArray).size = l.length := by rw [Lib.size_eq]
theorem write_f (l : List S55) (n : ByteArray) (m : Nat) (d : ByteArray) (hl : l.length < 1099511627776) (hs : Srt S55.f0 l) (hn : nameOk n = true) (hh : has S55.f0 l n = true) (hm : m + d.size ≤ 4000) (ho : (l.getD (cnt S55.f0 l n) z55).f1.size ≤ 4000) :
    file_Write.f l n (m : Int) d = some (ins S55.f0 l n ⟨n, ⟨(file_Write.over (l.getD (cnt S55.f0 l n) z55).f1.data.toList d.data.toList m).toArray⟩⟩, 0) := by
  rw [file_Write.f, get_f l n (by omega) hs, if_pos hh, Option.bind_some, if_pos rfl, if_pos (by omega), if_neg (by omega), if_pos (by omega), if_neg (by omega), if_pos (by show (l.getD (cnt S55.f0 l n) z55).f1.size < _; omega)]
  rw [Int.toNat_natCast]
  refine put_f l n _ hl hs hn ?_ (.inl hh)
  have e1 := Lib.size_eq (l.getD (cnt S55.f0 l n) z55).f1
  have e2 := Lib.size_eq d
  rw [mk_size, len_over]
  show max (l.getD (cnt S55.f0 l n) z55).f1.data.toList.length (m + d.data.toList.length) ≤ 4000
  omega
theorem nameF : nameOk ⟨#[102]⟩ = true := by decide
/-- One file: found, there. -/
theorem one_has (n v : ByteArray) : has S55.f0 [⟨n, v⟩] n = true := by simp [has]
theorem one_cnt (n v : ByteArray) : cnt S55.f0 [⟨n, v⟩] n = 0 := by rw [cnt_cons, if_neg (by rw [lt_irr]; simp)]
theorem one_srt (n v : ByteArray) : Srt S55.f0 [⟨n, v⟩] := ⟨by simp, trivial⟩
theorem one_ins (n v u : ByteArray) : ins S55.f0 [⟨n, v⟩] n ⟨n, u⟩ = [⟨n, u⟩] := by
  simp only [ins]
  rw [if_neg (by rw [lt_irr]; simp), if_pos trivial]
theorem put_one (n v : ByteArray) (hn : nameOk n = true) (hv : v.size ≤ 4000) : file_Put.f [] n v = some ([⟨n, v⟩], 0) := put_f [] n v (by simp) trivial hn hv (.inr (by simp))
theorem write_one (n v : ByteArray) (m : Nat) (d : ByteArray) (hn : nameOk n = true) (hm : m + d.size ≤ 4000) (hv : v.size ≤ 4000) :
    file_Write.f [⟨n, v⟩] n (m : Int) d = some ([⟨n, ⟨(file_Write.over v.data.toList d.data.toList m).toArray⟩⟩], 0) := by
  have h := write_f [⟨n, v⟩] n m d (by simp) (one_srt n v) hn (one_has n v) hm (by rw [one_cnt]; exact hv)
  rw [one_cnt, one_ins] at h
  exact h
theorem get_one (n v : ByteArray) : file_Get.f [⟨n, v⟩] n = some (v, true) := by
  rw [get_f _ _ (by simp) (one_srt n v), if_pos (one_has n v), one_cnt]
  rfl
end Go.Proofs.Ytikninibkljnnaa.Hnd
