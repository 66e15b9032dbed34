/- Contracts of the calls, by hand. -/
import Derived.Test.YtekebjkcolhcoaaQEnvOwnx
import Derived.RangeFuncNested
import Derived.RangeFuncBound
import Derived.RangeFuncCalls
import Derived.RangeFuncLeaves
import Derived.RangeFuncBox
import Derived.Shelf.Abstract
import Derived.Shelf.RegionOpen
import Derived.OwnWalkIn
import Derived.TacticsInMore
import Derived.LoopNIn
import Derived.LoopIn
import Derived.Sort.QuietIn
import Derived.Sort.CutIn
import Derived.Stop.RegionWithIn
import Derived.StillTailTactics
import Derived.StillTail
import Derived.Deep.RegionHeld
namespace Go.Proofs.Ytekebjkcolhcoaa.Hnd
open Go.RowKit Go.Proofs.Ytekebjkcolhcoaa.QEnvOwn Go.Proofs.YtekebjkcolhcoaaW.PrintWords Go.Proofs.YtekebjkcolhcoaaW.PrintLast  Go.Shelf
set_option linter.unusedVariables false
set_option linter.unusedSimpArgs false
set_option linter.unusedVariables false
set_option linter.unusedSimpArgs false
theorem w64 {x : Int} (h₀ : -9223372036854775808 ≤ x) (h₁ : x < 9223372036854775808) : wrap64 x = x := by unfold wrap64; omega
theorem tl_inj {a b : ByteArray} (h : a.toList = b.toList) : a = b := by
  rw [Lib.toList_data, Lib.toList_data] at h
  obtain ⟨⟨x⟩⟩ := a
  obtain ⟨⟨y⟩⟩ := b
  simp only at h
  rw [h]
theorem tl_beq (a b : ByteArray) : (a.toList == b.toList) = decide (a = b) := by
  by_cases h : a = b
  · subst h; simp
  · rw [decide_eq_false h, beq_eq_false_iff_ne]
    exact fun e => h (tl_inj e)
/-! The order of texts. -/
theorem bl_irr : ∀ l : List UInt8, Op.bytesLess l l = false
  | [] => rfl
  | a :: l => by simp [Op.bytesLess, bl_irr l]
theorem bl_trans : ∀ x y z : List UInt8, Op.bytesLess x y = true → Op.bytesLess y z = true → Op.bytesLess x z = true
  | _, [], _, h, _ => by simp [Op.bytesLess] at h
  | [], _ :: _, [], _, h => by simp [Op.bytesLess] at h
  | [], _ :: _, _ :: _, _, _ => rfl
  | _ :: _, _ :: _, [], _, h => by simp [Op.bytesLess] at h
  | a :: x, b :: y, c :: z, h, h' => by
    simp only [Op.bytesLess, Bool.or_eq_true, Bool.and_eq_true, decide_eq_true_eq, beq_iff_eq] at h h' ⊢
    rcases h with h | ⟨rfl, h⟩
    · rcases h' with h' | ⟨rfl, h'⟩
      · exact .inl (UInt8.lt_trans h h')
      · exact .inl h
    · rcases h' with h' | ⟨rfl, h'⟩
      · exact .inl h'
      · exact .inr ⟨rfl, bl_trans x y z h h'⟩
theorem bl_tri : ∀ x y : List UInt8, Op.bytesLess x y = false → Op.bytesLess y x = false → x = y
  | [], [], _, _ => rfl
  | [], _ :: _, h, _ => by simp [Op.bytesLess] at h
  | _ :: _, [], _, h => by simp [Op.bytesLess] at h
  | a :: x, b :: y, h, h' => by
    simp only [Op.bytesLess, Bool.or_eq_false_iff, Bool.and_eq_false_iff, decide_eq_false_iff_not, beq_eq_false_iff_ne, ne_eq] at h h'
    have hab : a = b := by
      have h1 := UInt8.not_lt.1 h.1
      have h2 := UInt8.not_lt.1 h'.1
      exact UInt8.le_antisymm h2 h1
    subst hab
    rcases h.2 with h1 | h1
    · exact absurd rfl h1
    rcases h'.2 with h2 | h2
    · exact absurd rfl h2
    rw [bl_tri x y h1 h2]
/-- Is a text ahead of another one? -/
def lt (a b : ByteArray) : Bool := Op.bytesLess a.toList b.toList
theorem lt_irr (a : ByteArray) : lt a a = false := bl_irr _
theorem lt_trans {a b c : ByteArray} (h : lt a b = true) (h' : lt b c = true) : lt a c = true := bl_trans _ _ _ h h'
theorem lt_asymm {a b : ByteArray} (h : lt a b = true) : lt b a = false := by
  cases h' : lt b a with
  | false => rfl
  | true => have := lt_trans h h'; rw [lt_irr] at this; cases this
theorem lt_tri {a b : ByteArray} (h : lt a b = false) (h' : lt b a = false) : a = b := tl_inj (bl_tri _ _ h h')
theorem cmpS_lt (a b : ByteArray) : decide (Kd.cmpS a b < 0) = lt a b := by
  unfold Kd.cmpS lt
  split
  · simp_all
  · rename_i h
    rw [Bool.not_eq_true] at h
    rw [h]
    split <;> simp
theorem cmpS_eq (a b : ByteArray) : (Kd.cmpS a b == 0) = decide (a = b) := by
  unfold Kd.cmpS
  by_cases h : a = b
  · subst h
    rw [if_neg (by rw [bl_irr]; simp), if_pos rfl]
    simp
  · rw [decide_eq_false h]
    split
    · rfl
    · rw [if_neg (fun e => h (tl_inj e))]
      rfl
/-! The search. -/
theorem bsr_spec (p : Nat → Bool) (hp : ∀ i j, i ≤ j → p j = true → p i = true) : ∀ (d lo hi : Nat), lo ≤ hi → hi - lo ≤ d →
    lo ≤ Kd.bsr p d lo hi ∧ Kd.bsr p d lo hi ≤ hi ∧ (∀ i, lo ≤ i → i < Kd.bsr p d lo hi → p i = true) ∧ (∀ i, Kd.bsr p d lo hi ≤ i → i < hi → p i = false)
  | 0, lo, hi, h, h' => by
    rw [Kd.bsr]
    exact ⟨Nat.le_refl _, h, fun i h1 h2 => by omega, fun i h1 h2 => by omega⟩
  | d + 1, lo, hi, h, h' => by
    rw [Kd.bsr]
    by_cases hl : lo < hi
    · rw [if_pos hl]
      by_cases hm : p ((lo + hi) / 2) = true
      · rw [if_pos hm]
        obtain ⟨a1, a2, a3, a4⟩ := bsr_spec p hp d ((lo + hi) / 2 + 1) hi (by omega) (by omega)
        refine ⟨by omega, a2, fun i h1 h2 => ?_, a4⟩
        by_cases hi2 : i ≤ (lo + hi) / 2
        · exact hp _ _ hi2 hm
        · exact a3 i (by omega) h2
      · rw [if_neg hm]
        obtain ⟨a1, a2, a3, a4⟩ := bsr_spec p hp d lo ((lo + hi) / 2) (by omega) (by omega)
        refine ⟨a1, by omega, a3, fun i h1 h2 => ?_⟩
        by_cases hi2 : i < (lo + hi) / 2
        · exact a4 i h1 hi2
        · cases hpi : p i with
          | false => rfl
          | true => exact absurd (hp _ _ (by omega) hpi) hm
    · rw [if_neg hl]
      exact ⟨Nat.le_refl _, h, fun i h1 h2 => by omega, fun i h1 h2 => by omega⟩
section
variable {α : Type} (nm : α → ByteArray)
/-- Are names in order, none twice? -/
def Srt : List α → Prop
  | [] => True
  | x :: l => (∀ y ∈ l, lt (nm x) (nm y) = true) ∧ Srt l
/-- How many names are ahead of one. -/
def cnt (l : List α) (s : ByteArray) : Nat := (l.takeWhile (fun x => lt (nm x) s)).length
def ins : List α → ByteArray → α → List α
  | [], _, v => [v]
  | x :: l, s, v => if lt (nm x) s = true then x :: ins l s v else if nm x = s then v :: l else v :: x :: l
def rem : List α → ByteArray → List α
  | [], _ => []
  | x :: l, s => if nm x = s then l else x :: rem l s
theorem srt_get (z : α) : ∀ (l : List α), Srt nm l → ∀ i j, i < j → j < l.length → lt (nm (l.getD i z)) (nm (l.getD j z)) = true
  | [], _, i, j, _, h => by simp at h
  | x :: l, h, 0, 0, hij, _ => by omega
  | x :: l, h, 0, j + 1, _, hj => by
    have hj' : j < l.length := by simpa using hj
    rw [List.getD_cons_zero, List.getD_cons_succ]
    refine h.1 _ ?_
    rw [List.getD_eq_getElem?_getD, List.getElem?_eq_getElem hj']
    exact List.getElem_mem hj'
  | x :: l, h, i + 1, 0, hij, _ => by omega
  | x :: l, h, i + 1, j + 1, hij, hj => by
    rw [List.getD_cons_succ, List.getD_cons_succ]
    exact srt_get z l h.2 i j (by omega) (by simpa using hj)
theorem cnt_le (s : ByteArray) : ∀ l : List α, cnt nm l s ≤ l.length
  | [] => Nat.le_refl _
  | x :: l => by
    unfold cnt
    rw [List.takeWhile_cons]
    split
    · have := cnt_le s l
      unfold cnt at this
      simp; omega
    · simp
theorem cnt_cons (x : α) (l : List α) (s : ByteArray) : cnt nm (x :: l) s = if lt (nm x) s = true then cnt nm l s + 1 else 0 := by
  unfold cnt
  rw [List.takeWhile_cons]
  split <;> simp
theorem cnt_before (z : α) (s : ByteArray) : ∀ (l : List α) (i : Nat), i < cnt nm l s → lt (nm (l.getD i z)) s = true
  | [], i, h => by simp [cnt] at h
  | x :: l, i, h => by
    rw [cnt_cons] at h
    split at h
    · rename_i hx
      cases i with
      | zero => exact hx
      | succ i => rw [List.getD_cons_succ]; exact cnt_before z s l i (by omega)
    · omega
theorem cnt_at (z : α) (s : ByteArray) : ∀ (l : List α), cnt nm l s < l.length → lt (nm (l.getD (cnt nm l s) z)) s = false
  | [], h => by simp at h
  | x :: l, h => by
    rw [cnt_cons] at h ⊢
    split at h
    · rename_i hx
      rw [if_pos hx, List.getD_cons_succ]
      exact cnt_at z s l (by simpa using h)
    · rename_i hx
      rw [if_neg hx, List.getD_cons_zero]
      simpa using hx
theorem find_cnt (z : α) (l : List α) (s : ByteArray) (h : Srt nm l) : Kd.bsr (fun m => decide (Kd.cmpS (nm (l.getD m z)) s < 0)) l.length 0 l.length = cnt nm l s := by
  have e : ∀ m, m < l.length → decide (Kd.cmpS (nm (l.getD m z)) s < 0) = lt (nm (l.getD m z)) s := fun m _ => cmpS_lt _ _
  obtain ⟨p, hp⟩ : ∃ p : Nat → Bool, p = fun m => decide (m < l.length) && lt (nm (l.getD m z)) s := ⟨_, rfl⟩
  have hmono : ∀ i j, i ≤ j → p j = true → p i = true := by
    intro i j hij hj
    rw [hp] at hj ⊢
    simp only [Bool.and_eq_true, decide_eq_true_eq] at hj ⊢
    refine ⟨by omega, ?_⟩
    by_cases hij' : i = j
    · subst hij'; exact hj.2
    · exact lt_trans (srt_get nm z l h i j (by omega) hj.1) hj.2
  have hcong : ∀ (d lo hi : Nat), hi ≤ l.length → Kd.bsr (fun m => decide (Kd.cmpS (nm (l.getD m z)) s < 0)) d lo hi = Kd.bsr p d lo hi := by
    intro d
    induction d with
    | zero => intro lo hi _; rfl
    | succ d ih =>
      intro lo hi hle
      rw [Kd.bsr, Kd.bsr]
      by_cases hl : lo < hi
      · rw [if_pos hl, if_pos hl]
        have e1 : p ((lo + hi) / 2) = decide (Kd.cmpS (nm (l.getD ((lo + hi) / 2) z)) s < 0) := by
          rw [hp, cmpS_lt]
          simp only
          rw [decide_eq_true (by omega : (lo + hi) / 2 < l.length), Bool.true_and]
        rw [e1, ih _ _ hle, ih _ _ (by omega)]
      · rw [if_neg hl, if_neg hl]
  rw [hcong _ _ _ (Nat.le_refl _)]
  obtain ⟨a1, a2, a3, a4⟩ := bsr_spec p hmono l.length 0 l.length (Nat.zero_le _) (by omega)
  generalize Kd.bsr p l.length 0 l.length = r at *
  have hc := cnt_le nm s l
  rcases Nat.lt_trichotomy r (cnt nm l s) with hlt | heq | hgt
  · have h1 := a4 r (Nat.le_refl _) (by omega)
    have h2 := cnt_before nm z s l r hlt
    rw [hp] at h1
    simp only [h2, Bool.and_true, decide_eq_false_iff_not] at h1
    omega
  · exact heq
  · have h1 := a3 (cnt nm l s) (Nat.zero_le _) hgt
    have h2 := cnt_at nm z s l (by omega)
    rw [hp] at h1
    simp only [h2, Bool.and_false] at h1
    cases h1
/-- Is a name there? -/
def has (l : List α) (s : ByteArray) : Bool := l.any (fun x => decide (nm x = s))
theorem has_cnt (z : α) (s : ByteArray) : ∀ (l : List α), Srt nm l → (decide (cnt nm l s < l.length) && decide (nm (l.getD (cnt nm l s) z) = s)) = has nm l s
  | [], _ => by simp [has, cnt]
  | x :: l, h => by
    rw [cnt_cons]
    unfold has
    rw [List.any_cons]
    split
    · rename_i hx
      have hne : nm x ≠ s := fun e => by rw [e, lt_irr] at hx; cases hx
      rw [decide_eq_false hne, Bool.false_or, List.getD_cons_succ]
      have := has_cnt z s l h.2
      unfold has at this
      rw [← this]
      simp
    · rename_i hx
      rw [List.getD_cons_zero]
      by_cases he : nm x = s
      · simp [he]
      · rw [decide_eq_false he, Bool.and_false, Bool.false_or, eq_comm, List.any_eq_false]
        intro y hy
        have h1 := h.1 y hy
        simp only [decide_eq_true_eq]
        intro e
        rw [e] at h1
        exact hx h1
theorem put_ins (z : α) (s : ByteArray) (v : α) : ∀ (l : List α), Srt nm l → (if has nm l s = true then l.set (cnt nm l s) v else l.take (cnt nm l s) ++ [v] ++ l.drop (cnt nm l s)) = ins nm l s v
  | [], _ => by simp [has, cnt, ins]
  | x :: l, h => by
    rw [cnt_cons, ins]
    by_cases hx : lt (nm x) s = true
    · have hne : nm x ≠ s := fun e => by rw [e, lt_irr] at hx; cases hx
      have hh : has nm (x :: l) s = has nm l s := by
        unfold has
        rw [List.any_cons, decide_eq_false hne, Bool.false_or]
      rw [if_pos hx, if_pos hx, hh, ← put_ins z s v l h.2]
      split
      · simp
      · simp
    · rw [if_neg hx, if_neg hx]
      by_cases he : nm x = s
      · rw [if_pos (show has nm (x :: l) s = true by simp [has, he]), if_pos he]
        simp
      · have hh : has nm (x :: l) s = false := by
          unfold has
          rw [List.any_eq_false]
          intro y hy
          simp only [decide_eq_true_eq]
          rcases List.mem_cons.1 hy with rfl | hy
          · exact he
          · intro e
            have h1 := h.1 y hy
            rw [e] at h1
            exact hx h1
        rw [hh, if_neg (by simp), if_neg he]
        simp
theorem cut_rem (z : α) (s : ByteArray) : ∀ (l : List α), Srt nm l → (if has nm l s = true then l.take (cnt nm l s) ++ l.drop (cnt nm l s + 1) else l) = rem nm l s
  | [], _ => by simp [has, rem]
  | x :: l, h => by
    rw [cnt_cons, rem]
    by_cases he : nm x = s
    · have hx : lt (nm x) s = false := by rw [he, lt_irr]
      rw [if_pos (show has nm (x :: l) s = true by simp [has, he]), if_pos he, if_neg (by rw [hx]; simp)]
      simp
    · have hh : has nm (x :: l) s = has nm l s := by
        unfold has
        rw [List.any_cons, decide_eq_false he, Bool.false_or]
      rw [if_neg he, hh, ← cut_rem z s l h.2]
      by_cases hx : lt (nm x) s = true
      · rw [if_pos hx]
        split
        · simp
        · rfl
      · have h0 : has nm l s = false := by
          unfold has
          rw [List.any_eq_false]
          intro y hy
          simp only [decide_eq_true_eq]
          intro e
          have h1 := h.1 y hy
          rw [e] at h1
          exact hx h1
        rw [h0, if_neg (by simp), if_neg (by simp)]
theorem ins_mem (s : ByteArray) (v : α) : ∀ (l : List α) (y : α), y ∈ ins nm l s v → y = v ∨ y ∈ l
  | [], y, h => by simpa [ins] using h
  | x :: l, y, h => by
    rw [ins] at h
    split at h
    · rcases List.mem_cons.1 h with rfl | h
      · exact .inr List.mem_cons_self
      · rcases ins_mem s v l y h with h | h
        · exact .inl h
        · exact .inr (List.mem_cons_of_mem _ h)
    · split at h
      · rcases List.mem_cons.1 h with rfl | h
        · exact .inl rfl
        · exact .inr (List.mem_cons_of_mem _ h)
      · rcases List.mem_cons.1 h with rfl | h
        · exact .inl rfl
        · exact .inr h
theorem ins_srt (s : ByteArray) (v : α) (hv : nm v = s) : ∀ (l : List α), Srt nm l → Srt nm (ins nm l s v)
  | [], _ => ⟨by simp, trivial⟩
  | x :: l, h => by
    rw [ins]
    by_cases hx : lt (nm x) s = true
    · rw [if_pos hx]
      refine ⟨fun y hy => ?_, ins_srt s v hv l h.2⟩
      rcases ins_mem nm s v l y hy with rfl | hy
      · rw [hv]; exact hx
      · exact h.1 y hy
    · rw [if_neg hx]
      by_cases he : nm x = s
      · rw [if_pos he]
        exact ⟨fun y hy => by rw [hv, ← he]; exact h.1 y hy, h.2⟩
      · rw [if_neg he]
        have hsx : lt s (nm x) = true := by
          cases hq : lt s (nm x) with
          | true => rfl
          | false => exact absurd (lt_tri (by simpa using hx) hq) he
        refine ⟨fun y hy => ?_, h⟩
        rw [hv]
        rcases List.mem_cons.1 hy with rfl | hy
        · exact hsx
        · exact lt_trans hsx (h.1 y hy)
theorem rem_mem (s : ByteArray) : ∀ (l : List α) (y : α), y ∈ rem nm l s → y ∈ l
  | [], y, h => by simp [rem] at h
  | x :: l, y, h => by
    rw [rem] at h
    split at h
    · exact List.mem_cons_of_mem _ h
    · rcases List.mem_cons.1 h with rfl | h
      · exact List.mem_cons_self
      · exact List.mem_cons_of_mem _ (rem_mem s l y h)
theorem rem_srt (s : ByteArray) : ∀ (l : List α), Srt nm l → Srt nm (rem nm l s)
  | [], _ => trivial
  | x :: l, h => by
    rw [rem]
    split
    · exact h.2
    · exact ⟨fun y hy => h.1 y (rem_mem nm s l y hy), rem_srt s l h.2⟩
theorem ins_len (s : ByteArray) (v : α) : ∀ (l : List α), (ins nm l s v).length ≤ l.length + 1
  | [] => by simp [ins]
  | x :: l => by
    rw [ins]
    have := ins_len s v l
    split
    · simp; omega
    · split <;> simp
theorem ins_has (s : ByteArray) (v : α) (hv : nm v = s) : ∀ (l : List α), has nm (ins nm l s v) s = true
  | [] => by simp [ins, has, hv]
  | x :: l => by
    rw [ins]
    have ih := ins_has s v hv l
    unfold has at ih ⊢
    split
    · rw [List.any_cons, ih, Bool.or_true]
    · split <;> simp [hv]
theorem ins_at (z : α) (s : ByteArray) (v : α) (hv : nm v = s) : ∀ (l : List α), Srt nm l → (ins nm l s v).getD (cnt nm (ins nm l s v) s) z = v
  | [], _ => by
    rw [ins, cnt_cons, hv, lt_irr, if_neg (by simp)]
    rfl
  | x :: l, h => by
    rw [ins]
    by_cases hx : lt (nm x) s = true
    · rw [if_pos hx, cnt_cons, if_pos hx, List.getD_cons_succ]
      exact ins_at z s v hv l h.2
    · rw [if_neg hx]
      have hz : ∀ L : List α, (v :: L).getD (cnt nm (v :: L) s) z = v := fun L => by
        rw [cnt_cons, hv, lt_irr, if_neg (by simp)]
        rfl
      split
      · exact hz _
      · exact hz _
/-- Of names that are unlike it does not matter which is put first. -/
theorem ins_comm (s t : ByteArray) (v u : α) (hv : nm v = s) (hu : nm u = t) (hne : s ≠ t) : ∀ (l : List α), Srt nm l → ins nm (ins nm l s v) t u = ins nm (ins nm l t u) s v
  | [], _ => by
    simp only [ins]
    rw [hv, hu]
    by_cases h1 : lt s t = true
    · rw [if_pos h1, if_neg (by rw [lt_asymm h1]; simp), if_neg hne.symm]
    · rw [if_neg h1, if_neg hne]
      have h2 : lt t s = true := by
        cases hq : lt t s with
        | true => rfl
        | false => exact absurd (lt_tri (by simpa using h1) hq) hne
      rw [if_pos h2]
  | x :: l, h => by
    have tri : ∀ {a b : ByteArray}, ¬ lt a b = true → a ≠ b → lt b a = true := fun {a b} h1 hn => by
      cases hq : lt b a with
      | true => rfl
      | false => exact absurd (lt_tri (by simpa using h1) hq) hn
    have ih := ins_comm s t v u hv hu hne l h.2
    by_cases a1 : lt (nm x) s = true
    · by_cases a2 : lt (nm x) t = true
      · simp only [ins, if_pos a1, if_pos a2, ih]
      · have hts : lt t s = true := by
          by_cases he : nm x = t
          · rw [← he]; exact a1
          · exact lt_trans (tri a2 he) a1
        by_cases he : nm x = t
        · simp only [ins, if_pos a1, if_neg a2, if_pos he, hu, if_pos hts]
        · simp only [ins, if_pos a1, if_neg a2, if_neg he, hu, if_pos hts]
    · by_cases a2 : lt (nm x) t = true
      · have hst : lt s t = true := by
          by_cases he : nm x = s
          · rw [← he]; exact a2
          · exact lt_trans (tri a1 he) a2
        by_cases he : nm x = s
        · simp only [ins, if_neg a1, if_pos a2, if_pos he, hv, if_pos hst]
        · simp only [ins, if_neg a1, if_pos a2, if_neg he, hv, if_pos hst]
      · by_cases e1 : nm x = s
        · have e2 : nm x ≠ t := fun e => hne (e1.symm.trans e)
          have hts : lt t s = true := by rw [← e1]; exact tri a2 e2
          have hst := lt_asymm hts
          simp only [ins, if_neg a1, if_neg a2, if_pos e1, if_neg e2, hv, hu, hst, if_neg hne, hts, if_true, Bool.false_eq_true, if_false]
        · by_cases e2 : nm x = t
          · have hst : lt s t = true := by rw [← e2]; exact tri a1 e1
            have hts := lt_asymm hst
            simp only [ins, if_neg a1, if_neg a2, if_pos e2, if_neg e1, hv, hu, hst, hts, if_neg hne.symm, if_true, Bool.false_eq_true, if_false]
          · by_cases h1 : lt s t = true
            · have h2 := lt_asymm h1
              simp only [ins, if_neg a1, if_neg a2, if_neg e2, if_neg e1, hv, hu, h1, h2, if_neg hne.symm, if_true, Bool.false_eq_true, if_false]
            · have h2 := tri h1 hne
              rw [Bool.not_eq_true] at h1
              simp only [ins, if_neg a1, if_neg a2, if_neg e2, if_neg e1, hv, hu, h1, h2, if_neg hne, if_true, Bool.false_eq_true, if_false]
end
theorem copied_f (l0 : List S71) (l1 : List ByteArray) (l2 : List S67) (h0 : l0.length < 4398046511104) (h1 : l1.length < 8796093022208) (h2 : l2.length < 5864062014805) : env_copied.f l0 l1 l2 = some (l0, l1, l2) := by
  rw [env_copied.f, api_Binding_53.f, Option.bind_some, if_pos (by simpa using h0), List.nil_append, Option.bind_some, slices_Clone_string_string.f, Option.bind_some, if_pos (by simpa using h1), List.nil_append, Option.bind_some, api_Fun_55.f, Option.bind_some, if_pos (by simpa using h2), List.nil_append, Option.bind_some]
theorem fv (l : List S71) (s : ByteArray) (h : Srt S71.f0 l) : api_Binding_40.find_i l s = cnt S71.f0 l s := find_cnt S71.f0 z71 l s h
theorem hv (l : List S71) (s : ByteArray) (h : Srt S71.f0 l) : api_Binding_40.hit l s = has S71.f0 l s := by
  rw [api_Binding_40.hit, fv l s h, cmpS_eq]
  exact has_cnt S71.f0 z71 s l h
theorem ff (l : List S67) (s : ByteArray) (h : Srt S67.f0 l) : api_Fun_46.find_i l s = cnt S67.f0 l s := find_cnt S67.f0 z67 l s h
theorem hf (l : List S67) (s : ByteArray) (h : Srt S67.f0 l) : api_Fun_46.hit l s = has S67.f0 l s := by
  rw [api_Fun_46.hit, ff l s h, cmpS_eq]
  exact has_cnt S67.f0 z67 s l h
theorem set_f (l0 : List S71) (l1 : List ByteArray) (l2 : List S67) (n v : ByteArray) (h0 : l0.length < 1099511627776) (h1 : l1.length < 8796093022208) (h2 : l2.length < 5864062014805) (hs : Srt S71.f0 l0) :
    env_Set.f l0 l1 l2 n v = some (ins S71.f0 l0 n ⟨n, v⟩, l1, l2) := by
  rw [env_Set.f, copied_f l0 l1 l2 (by omega) h1 h2, Option.bind_some, api_Binding_38.f, if_pos h0, Option.bind_some, api_Binding_38.put, fv l0 n hs, hv l0 n hs, put_ins S71.f0 z71 n ⟨n, v⟩ l0 hs]
theorem define_f (l0 : List S71) (l1 : List ByteArray) (l2 : List S67) (n : ByteArray) (v : Int) (h0 : l0.length < 4398046511104) (h1 : l1.length < 8796093022208) (h2 : l2.length < 1099511627776) (hs : Srt S67.f0 l2) :
    env_Define.f l0 l1 l2 n v = some (l0, l1, ins S67.f0 l2 n ⟨n, v⟩) := by
  rw [env_Define.f, copied_f l0 l1 l2 h0 h1 (by omega), Option.bind_some, api_Fun_36.f, if_pos h2, Option.bind_some, api_Fun_36.put, ff l2 n hs, hf l2 n hs, put_ins S67.f0 z67 n ⟨n, v⟩ l2 hs]
theorem unset_f (l0 : List S71) (l1 : List ByteArray) (l2 : List S67) (n : ByteArray) (h0 : l0.length < 4398046511104) (h1 : l1.length < 8796093022208) (h2 : l2.length < 5864062014805) (hs : Srt S71.f0 l0) :
    env_Unset.f l0 l1 l2 n = some (rem S71.f0 l0 n, l1, l2) := by
  rw [env_Unset.f, copied_f l0 l1 l2 h0 h1 h2, Option.bind_some, api_Binding_40.f, if_pos (show l0.length < _ by omega), Option.bind_some, env_Unset.cut, fv l0 n hs, hv l0 n hs, cut_rem S71.f0 z71 n l0 hs]
theorem get_f (l0 : List S71) (l1 : List ByteArray) (l2 : List S67) (n : ByteArray) (h0 : l0.length < 4398046511104) (hs : Srt S71.f0 l0) :
    env_Get.f l0 l1 l2 n = some (if has S71.f0 l0 n = true then ((l0.getD (cnt S71.f0 l0 n) z71).f1, true) else (⟨#[]⟩, false)) := by
  rw [env_Get.f, api_Binding_40.f, if_pos (by omega), Option.bind_some, hv l0 n hs, fv l0 n hs]
  cases hh : has S71.f0 l0 n with
  | false => rw [if_neg (by simp), if_neg (by simp)]
  | true =>
    have h1 := has_cnt S71.f0 z71 n l0 hs
    rw [hh, Bool.and_eq_true, decide_eq_true_eq] at h1
    rw [if_pos rfl, if_pos (by omega), if_pos (by omega), if_pos rfl]
    rfl
theorem ins_ne (s : ByteArray) {α : Type} (nm : α → ByteArray) (v : α) : ∀ l : List α, 0 < (ins nm l s v).length
  | [] => by simp [ins]
  | x :: l => by
    rw [ins]
    split
    · simp
    · split <;> simp
/-! What is one with itself. -/
theorem vars_l0 (l : List S71) (hl : l.length < 9223372036854775807) : ∀ (d i : Nat), i + d = l.length → Ev (fun k => lazarusref14_Vars.l0 k l l (i : Int)) true
  | 0, i, h => Ev.step (fun k => by rw [lazarusref14_Vars.l0, if_neg (by omega)]) (Ev.now true)
  | d + 1, i, h => by
    refine Ev.step (f := fun k => lazarusref14_Vars.l0 k l l ((i + 1 : Nat) : Int)) (fun k => ?_) (vars_l0 l hl d (i + 1) (by omega))
    rw [lazarusref14_Vars.l0, if_pos (by omega), if_pos (by omega), if_pos (by omega), if_neg (by simp), w64 (by omega) (by omega)]
    rfl
theorem texts_l0 (l : List ByteArray) (hl : l.length < 9223372036854775807) : ∀ (d i : Nat), i + d = l.length → Ev (fun k => lazarusref14_Texts.l0 k l l (i : Int)) true
  | 0, i, h => Ev.step (fun k => by rw [lazarusref14_Texts.l0, if_neg (by omega)]) (Ev.now true)
  | d + 1, i, h => by
    refine Ev.step (f := fun k => lazarusref14_Texts.l0 k l l ((i + 1 : Nat) : Int)) (fun k => ?_) (texts_l0 l hl d (i + 1) (by omega))
    rw [lazarusref14_Texts.l0, if_pos (by omega), if_pos (by omega), if_pos (by omega), if_pos rfl, w64 (by omega) (by omega)]
    rfl
theorem same_l0 (a : List S71) (b : List ByteArray) (l : List S67) (hl : l.length < 9223372036854775807) : ∀ (d i : Nat), i + d = l.length → Ev (fun k => lazarusref14_Same.l0 k (i : Int) a b l a b l) true
  | 0, i, h => Ev.step (fun k => by rw [lazarusref14_Same.l0, if_neg (by omega)]) (Ev.now true)
  | d + 1, i, h => by
    refine Ev.step (f := fun k => lazarusref14_Same.l0 k ((i + 1 : Nat) : Int) a b l a b l) (fun k => ?_) (same_l0 a b l hl d (i + 1) (by omega))
    rw [lazarusref14_Same.l0, if_pos (by omega), if_pos (by omega), if_pos (by omega), if_neg (by simp), w64 (by omega) (by omega)]
    rfl
theorem same_ev (a : List S71) (b : List ByteArray) (l : List S67) (h0 : a.length < 9223372036854775807) (h1 : b.length < 9223372036854775807) (h2 : l.length < 9223372036854775807) : Ev (fun k => lazarusref14_Same.f k a b l a b l) true := by
  refine Ev.congr (fun k => by rw [lazarusref14_Same.f, if_pos rfl]) ?_
  refine Ev.bind (Ev.congr (fun k => by rw [lazarusref14_Vars.f, if_pos rfl]; rfl) (vars_l0 a h0 a.length 0 (by omega))) ?_
  refine Ev.congr (fun k => by rw [if_pos rfl]) ?_
  refine Ev.bind (Ev.congr (fun k => by rw [lazarusref14_Texts.f, if_pos rfl]; rfl) (texts_l0 b h1 b.length 0 (by omega))) ?_
  refine Ev.step (fun k => by rw [lazarusref14_Same.j0, if_neg (by simp)]) ?_
  exact same_l0 a b l h2 l.length 0 (by omega)
theorem known_f : lazaruslaw14_known.f = some true := by
  have e1 : lt ⟨#[98]⟩ ⟨#[97]⟩ = false := by unfold lt; rw [Lib.toList_data, Lib.toList_data]; rfl
  have e2 : lt ⟨#[97]⟩ ⟨#[98]⟩ = true := by unfold lt; rw [Lib.toList_data, Lib.toList_data]; rfl
  have e3 : (⟨#[98]⟩ : ByteArray) ≠ ⟨#[97]⟩ := fun e => by rw [e] at e1 e2; rw [e1] at e2; cases e2
  have s2 : ins S71.f0 (ins S71.f0 [] ⟨#[98]⟩ ⟨⟨#[98]⟩, ⟨#[49]⟩⟩) ⟨#[97]⟩ ⟨⟨#[97]⟩, ⟨#[50]⟩⟩ = [⟨⟨#[97]⟩, ⟨#[50]⟩⟩, ⟨⟨#[98]⟩, ⟨#[49]⟩⟩] := by
    simp only [ins]
    rw [if_neg (by rw [e1]; simp), if_neg e3]
  have hs1 : Srt S71.f0 (ins S71.f0 [] (⟨#[98]⟩ : ByteArray) ⟨⟨#[98]⟩, ⟨#[49]⟩⟩) := ins_srt S71.f0 _ _ rfl [] trivial
  have hs2 := ins_srt S71.f0 (⟨#[97]⟩ : ByteArray) ⟨⟨#[97]⟩, ⟨#[50]⟩⟩ rfl _ hs1
  rw [lazaruslaw14_known.f, set_f [] [] [] _ _ (by simp) (by simp) (by simp) trivial, Option.bind_some, set_f _ [] [] _ _ (by simp [ins]) (by simp) (by simp) hs1, Option.bind_some]
  rw [s2] at hs2 ⊢
  rw [get_f _ [] [] _ (by simp) hs2, Option.bind_some, if_pos (by simp), if_pos (by simp)]
  have c1 : cnt S71.f0 [⟨⟨#[97]⟩, ⟨#[50]⟩⟩, ⟨⟨#[98]⟩, ⟨#[49]⟩⟩] (⟨#[98]⟩ : ByteArray) = 1 := by
    rw [cnt_cons, if_pos e2, cnt_cons, if_neg (by rw [lt_irr]; simp)]
  have c2 : has S71.f0 [⟨⟨#[97]⟩, ⟨#[50]⟩⟩, ⟨⟨#[98]⟩, ⟨#[49]⟩⟩] (⟨#[98]⟩ : ByteArray) = true := by simp [has]
  rw [c1, c2, if_pos (by show (⟨#[97]⟩ : ByteArray).toList = _; rw [Lib.toList_data]), if_pos rfl, if_pos rfl]
  show some ((⟨#[49]⟩ : ByteArray).toList == [49]) = some true
  rw [Lib.toList_data]
  rfl
end Go.Proofs.Ytekebjkcolhcoaa.Hnd
