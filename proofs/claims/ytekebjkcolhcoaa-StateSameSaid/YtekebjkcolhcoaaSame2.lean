/- Contracts of the calls, by hand. -/
import Derived.Test.YtekebjkcolhcoaaQStateSamex8
import Derived.RangeFuncNested
import Derived.RangeFuncBound
import Derived.RangeFuncCalls
import Derived.RangeFuncLeaves
import Derived.RangeFuncBox
import Derived.Shelf.Abstract
import Derived.Shelf.RegionOpen
import Derived.OwnWalkIn
import Derived.TacticsInMore
import Derived.LoopNIn
import Derived.LoopIn
import Derived.Sort.QuietIn
import Derived.Sort.CutIn
import Derived.Stop.RegionWithIn
import Derived.StillTailTactics
import Derived.Test.YtekebjkcolhcoaaQStateSamex7
namespace Go.Proofs.Ytekebjkcolhcoaa.Hnd
open Go.RowKit Go.Proofs.Ytekebjkcolhcoaa.QStateSame Go.Proofs.YtekebjkcolhcoaaW.PrintWords Go.Proofs.YtekebjkcolhcoaaW.PrintLast  Go.Shelf
set_option linter.unusedVariables false
set_option linter.unusedSimpArgs false
set_option linter.unusedVariables false
set_option linter.unusedSimpArgs false
theorem w64 {x : Int} (h₀ : -9223372036854775808 ≤ x) (h₁ : x < 9223372036854775808) : wrap64 x = x := by unfold wrap64; omega
theorem tl_inj {a b : ByteArray} (h : a.toList = b.toList) : a = b := by
  rw [Lib.toList_data, Lib.toList_data] at h
  obtain ⟨⟨x⟩⟩ := a
  obtain ⟨⟨y⟩⟩ := b
  simp only at h
  rw [h]
theorem tl_eq {a b : ByteArray} : a.toList = b.toList ↔ a = b := ⟨tl_inj, fun h => by rw [h]⟩
theorem tl_beq {a b : ByteArray} : (a.toList == b.toList) = true ↔ a = b := beq_iff_eq.trans tl_eq
theorem ex_tell (p : Prop) : ∃ r : Bool, (r = true ↔ p) := by
  by_cases h : p
  · exact ⟨true, by simp [h]⟩
  · exact ⟨false, by simp [h]⟩
theorem tell_and {r : Bool} {p q : Prop} (h : r = true ↔ p ∧ q) : (p ∧ (r = true ↔ q)) ∨ (¬ p ∧ r = false) := by
  by_cases hp : p
  · exact .inl ⟨hp, by simp [h, hp]⟩
  · refine .inr ⟨hp, ?_⟩
    cases r
    · rfl
    · exact absurd (h.1 rfl).1 hp
theorem tell_no {r : Bool} {p : Prop} (h : r = true ↔ p) (hp : ¬ p) : r = false := by
  cases r
  · rfl
  · exact absurd (h.1 rfl) hp
theorem tell_yes {p : Prop} (hp : p) : true = true ↔ p := by simp [hp]
theorem tell_nope {p : Prop} (hp : ¬ p) : false = true ↔ p := by simp [hp]
theorem drop_getD {α : Type} (z : α) (l : List α) (i : Nat) (h : i < l.length) : l.drop i = l.getD i z :: l.drop (i + 1) := by
  rw [List.drop_eq_getElem_cons h, List.getD_eq_getElem?_getD, List.getElem?_eq_getElem h]
  rfl
theorem step_iff {α : Type} (z : α) (a b : List α) (i : Nat) (ha : i < a.length) (hb : i < b.length) {r : Bool} (hr : r = true ↔ a.drop i = b.drop i) : (a.getD i z = b.getD i z ∧ (r = true ↔ a.drop (i + 1) = b.drop (i + 1))) ∨ (¬ (a.getD i z = b.getD i z) ∧ r = false) := by
  rw [drop_getD z a i ha, drop_getD z b i hb, List.cons.injEq] at hr
  exact tell_and hr
theorem n71 {x y : S71} : x = y ↔ x.f0 = y.f0 ∧ x.f1 = y.f1 := by cases x; cases y; simp
theorem n67 {x y : S67} : x = y ↔ x.f0 = y.f0 ∧ x.f1 = y.f1 := by cases x; cases y; simp
theorem n56 {x y : S56} : x = y ↔ x.f0 = y.f0 ∧ x.f1 = y.f1 := by cases x; cases y; simp
theorem n26 {x y : S26} : x = y ↔ x.f0 = y.f0 ∧ x.f1 = y.f1 ∧ x.f2 = y.f2 := by cases x; cases y; simp
theorem n29 {x y : S29} : x = y ↔ x.f0 = y.f0 ∧ x.f1 = y.f1 := by cases x; cases y; simp
theorem n31 {x y : S31} : x = y ↔ x.f0 = y.f0 ∧ x.f1 = y.f1 ∧ x.f2 = y.f2 := by cases x; cases y; simp
theorem n59 {x y : S59} : x = y ↔ x.f0 = y.f0 ∧ x.f1 = y.f1 ∧ x.f2 = y.f2 ∧ x.f3 = y.f3 ∧ x.f4 = y.f4 ∧ x.f5 = y.f5 ∧ x.f6 = y.f6 ∧ x.f7 = y.f7 ∧ x.f8 = y.f8 := by cases x; cases y; simp
theorem c2 {a b c d : ByteArray} : ((!(a.toList == b.toList)) || (!(c.toList == d.toList))) = true ↔ ¬ (a = b ∧ c = d) := by
  rw [Bool.or_eq_true, Bool.not_eq_true', Bool.not_eq_true', ← Bool.not_eq_true, ← Bool.not_eq_true, tl_beq, tl_beq]
  by_cases h : a = b <;> simp [h]
theorem c2i {a b : ByteArray} {m n : Int} : ((!(a.toList == b.toList)) || (!(m == n))) = true ↔ ¬ (a = b ∧ m = n) := by
  rw [Bool.or_eq_true, Bool.not_eq_true', Bool.not_eq_true', ← Bool.not_eq_true, ← Bool.not_eq_true, tl_beq, beq_iff_eq]
  by_cases h : a = b <;> simp [h]
theorem e29 {x y : S29} : (x.f0.toList == y.f0.toList && (x.f1 == y.f1)) = true ↔ x = y := by rw [Bool.and_eq_true, tl_beq, beq_iff_eq, n29]
theorem e31 {x y : S31} : (x.f0 == y.f0 && (x.f1.toList == y.f1.toList && (x.f2 == y.f2))) = true ↔ x = y := by rw [Bool.and_eq_true, Bool.and_eq_true, tl_beq, beq_iff_eq, beq_iff_eq, n31]
theorem sv_l0 (a b : List S71) (hl : a.length ≤ 9223372036854775807) (hab : a.length = b.length) : ∀ (d i : Nat) (r : Bool), i + d = a.length → (r = true ↔ a.drop i = b.drop i) → Ev (fun k => api_Binding.l0 k a b (a.length : Int) (i : Int)) r
  | 0, i, r, h, hr => by
    obtain rfl : r = true := hr.2 (by rw [List.drop_of_length_le (by omega), List.drop_of_length_le (by omega)])
    exact Ev.step (fun k => by rw [api_Binding.l0, if_neg (by omega)]) (Ev.now true)
  | d + 1, i, r, h, hr => by
    rcases step_iff z71 a b i (by omega) (by omega) hr with ⟨e0, hr'⟩ | ⟨e0, rfl⟩
    · have e : rd_T71 a (i : Int) = rd_T71 b (i : Int) := e0
      refine Ev.step (f := fun k => api_Binding.l0 k a b (a.length : Int) ((i + 1 : Nat) : Int)) (fun k => ?_) (sv_l0 a b hl hab d (i + 1) r (by omega) hr')
      rw [api_Binding.l0, if_pos (by omega), if_pos (by omega), if_pos (by omega), if_pos (by omega), if_neg (fun h => (c2.1 h) (n71.1 e)), w64 (by omega) (by omega)]
      rfl
    · have e : ¬ (rd_T71 a (i : Int) = rd_T71 b (i : Int)) := e0
      refine Ev.step (f := fun _ => some false) (fun k => ?_) (Ev.now false)
      rw [api_Binding.l0, if_pos (by omega), if_pos (by omega), if_pos (by omega), if_pos (by omega), if_pos (c2.2 (fun h => e (n71.2 h)))]
theorem sv_ev {a b : List S71} (hl : a.length ≤ 9223372036854775807) {r : Bool} (hr : r = true ↔ a = b) : Ev (fun k => api_Binding.f k a b) r := by
  by_cases h : a.length = b.length
  · exact Ev.congr (fun k => by rw [api_Binding.f, if_pos (by omega)]; rfl) (sv_l0 a b hl h a.length 0 r (by omega) (by simpa using hr))
  · obtain rfl := tell_no hr (fun e => h (congrArg List.length e))
    exact Ev.congr (fun k => by rw [api_Binding.f, if_neg (by omega)]) (Ev.now false)
theorem ss_l0 (a b : List ByteArray) (hl : a.length ≤ 9223372036854775807) (hab : a.length = b.length) : ∀ (d i : Nat) (r : Bool), i + d = a.length → (r = true ↔ a.drop i = b.drop i) → Ev (fun k => slices_Equal_string_string.l0 k a b (a.length : Int) (i : Int)) r
  | 0, i, r, h, hr => by
    obtain rfl : r = true := hr.2 (by rw [List.drop_of_length_le (by omega), List.drop_of_length_le (by omega)])
    exact Ev.step (fun k => by rw [slices_Equal_string_string.l0, if_neg (by omega)]) (Ev.now true)
  | d + 1, i, r, h, hr => by
    rcases step_iff ByteArray.empty a b i (by omega) (by omega) hr with ⟨e0, hr'⟩ | ⟨e0, rfl⟩
    · have e : rdOf ByteArray.empty a (i : Int) = rdOf ByteArray.empty b (i : Int) := e0
      refine Ev.step (f := fun k => slices_Equal_string_string.l0 k a b (a.length : Int) ((i + 1 : Nat) : Int)) (fun k => ?_) (ss_l0 a b hl hab d (i + 1) r (by omega) hr')
      rw [slices_Equal_string_string.l0, if_pos (by omega), if_pos (by omega), if_pos (by omega), if_pos (by omega), if_pos (tl_eq.2 e), w64 (by omega) (by omega)]
      rfl
    · have e : ¬ (rdOf ByteArray.empty a (i : Int) = rdOf ByteArray.empty b (i : Int)) := e0
      refine Ev.step (f := fun _ => some false) (fun k => ?_) (Ev.now false)
      rw [slices_Equal_string_string.l0, if_pos (by omega), if_pos (by omega), if_pos (by omega), if_pos (by omega), if_neg (fun h => e (tl_eq.1 h))]
theorem ss_ev {a b : List ByteArray} (hl : a.length ≤ 9223372036854775807) {r : Bool} (hr : r = true ↔ a = b) : Ev (fun k => slices_Equal_string_string.f k a b) r := by
  by_cases h : a.length = b.length
  · exact Ev.congr (fun k => by rw [slices_Equal_string_string.f, if_pos (by omega)]; rfl) (ss_l0 a b hl h a.length 0 r (by omega) (by simpa using hr))
  · obtain rfl := tell_no hr (fun e => h (congrArg List.length e))
    exact Ev.congr (fun k => by rw [slices_Equal_string_string.f, if_neg (by omega)]) (Ev.now false)
theorem sf_l0 (a b : List S67) (hl : a.length ≤ 9223372036854775807) (hab : a.length = b.length) : ∀ (d i : Nat) (r : Bool), i + d = a.length → (r = true ↔ a.drop i = b.drop i) → Ev (fun k => api_Fun.l0 k a b (a.length : Int) (i : Int)) r
  | 0, i, r, h, hr => by
    obtain rfl : r = true := hr.2 (by rw [List.drop_of_length_le (by omega), List.drop_of_length_le (by omega)])
    exact Ev.step (fun k => by rw [api_Fun.l0, if_neg (by omega)]) (Ev.now true)
  | d + 1, i, r, h, hr => by
    rcases step_iff z67 a b i (by omega) (by omega) hr with ⟨e0, hr'⟩ | ⟨e0, rfl⟩
    · have e : rd_T67 a (i : Int) = rd_T67 b (i : Int) := e0
      refine Ev.step (f := fun k => api_Fun.l0 k a b (a.length : Int) ((i + 1 : Nat) : Int)) (fun k => ?_) (sf_l0 a b hl hab d (i + 1) r (by omega) hr')
      rw [api_Fun.l0, if_pos (by omega), if_pos (by omega), if_pos (by omega), if_pos (by omega), if_neg (fun h => (c2i.1 h) (n67.1 e)), w64 (by omega) (by omega)]
      rfl
    · have e : ¬ (rd_T67 a (i : Int) = rd_T67 b (i : Int)) := e0
      refine Ev.step (f := fun _ => some false) (fun k => ?_) (Ev.now false)
      rw [api_Fun.l0, if_pos (by omega), if_pos (by omega), if_pos (by omega), if_pos (by omega), if_pos (c2i.2 (fun h => e (n67.2 h)))]
theorem sf_ev {a b : List S67} (hl : a.length ≤ 9223372036854775807) {r : Bool} (hr : r = true ↔ a = b) : Ev (fun k => api_Fun.f k a b) r := by
  by_cases h : a.length = b.length
  · exact Ev.congr (fun k => by rw [api_Fun.f, if_pos (by omega)]; rfl) (sf_l0 a b hl h a.length 0 r (by omega) (by simpa using hr))
  · obtain rfl := tell_no hr (fun e => h (congrArg List.length e))
    exact Ev.congr (fun k => by rw [api_Fun.f, if_neg (by omega)]) (Ev.now false)
theorem sl_l0 (a b : List S56) (hl : a.length ≤ 9223372036854775807) (hab : a.length = b.length) : ∀ (d i : Nat) (r : Bool), i + d = a.length → (r = true ↔ a.drop i = b.drop i) → Ev (fun k => api_File_26.l0 k a b (a.length : Int) (i : Int)) r
  | 0, i, r, h, hr => by
    obtain rfl : r = true := hr.2 (by rw [List.drop_of_length_le (by omega), List.drop_of_length_le (by omega)])
    exact Ev.step (fun k => by rw [api_File_26.l0, if_neg (by omega)]) (Ev.now true)
  | d + 1, i, r, h, hr => by
    rcases step_iff z56 a b i (by omega) (by omega) hr with ⟨e0, hr'⟩ | ⟨e0, rfl⟩
    · have e : rd_T56 a (i : Int) = rd_T56 b (i : Int) := e0
      refine Ev.step (f := fun k => api_File_26.l0 k a b (a.length : Int) ((i + 1 : Nat) : Int)) (fun k => ?_) (sl_l0 a b hl hab d (i + 1) r (by omega) hr')
      rw [api_File_26.l0, if_pos (by omega), if_pos (by omega), if_pos (by omega), if_pos (by omega), if_neg (fun h => (c2.1 h) (n56.1 e)), w64 (by omega) (by omega)]
      rfl
    · have e : ¬ (rd_T56 a (i : Int) = rd_T56 b (i : Int)) := e0
      refine Ev.step (f := fun _ => some false) (fun k => ?_) (Ev.now false)
      rw [api_File_26.l0, if_pos (by omega), if_pos (by omega), if_pos (by omega), if_pos (by omega), if_pos (c2.2 (fun h => e (n56.2 h)))]
theorem sl_ev {a b : List S56} (hl : a.length ≤ 9223372036854775807) {r : Bool} (hr : r = true ↔ a = b) : Ev (fun k => api_File_26.f k a b) r := by
  by_cases h : a.length = b.length
  · exact Ev.congr (fun k => by rw [api_File_26.f, if_pos (by omega)]; rfl) (sl_l0 a b hl h a.length 0 r (by omega) (by simpa using hr))
  · obtain rfl := tell_no hr (fun e => h (congrArg List.length e))
    exact Ev.congr (fun k => by rw [api_File_26.f, if_neg (by omega)]) (Ev.now false)
theorem rv_l0 (a b : List S71) (hl : a.length ≤ 9223372036854775807) (hab : a.length = b.length) : ∀ (d i : Nat) (r : Bool), i + d = a.length → (r = true ↔ a.drop i = b.drop i) → Ev (fun k => lazarusref14_Vars.l0 k a b (i : Int)) r
  | 0, i, r, h, hr => by
    obtain rfl : r = true := hr.2 (by rw [List.drop_of_length_le (by omega), List.drop_of_length_le (by omega)])
    exact Ev.step (fun k => by rw [lazarusref14_Vars.l0, if_neg (by omega)]) (Ev.now true)
  | d + 1, i, r, h, hr => by
    rcases step_iff z71 a b i (by omega) (by omega) hr with ⟨e0, hr'⟩ | ⟨e0, rfl⟩
    · have e : rd_T71 a (i : Int) = rd_T71 b (i : Int) := e0
      refine Ev.step (f := fun k => lazarusref14_Vars.l0 k a b ((i + 1 : Nat) : Int)) (fun k => ?_) (rv_l0 a b hl hab d (i + 1) r (by omega) hr')
      rw [lazarusref14_Vars.l0, if_pos (by omega), if_pos (by omega), if_pos (by omega), if_neg (fun h => (c2.1 h) (n71.1 e)), w64 (by omega) (by omega)]
      rfl
    · have e : ¬ (rd_T71 a (i : Int) = rd_T71 b (i : Int)) := e0
      refine Ev.step (f := fun _ => some false) (fun k => ?_) (Ev.now false)
      rw [lazarusref14_Vars.l0, if_pos (by omega), if_pos (by omega), if_pos (by omega), if_pos (c2.2 (fun h => e (n71.2 h)))]
theorem rv_ev {a b : List S71} (hl : a.length ≤ 9223372036854775807) {r : Bool} (hr : r = true ↔ a = b) : Ev (fun k => lazarusref14_Vars.f k a b) r := by
  by_cases h : a.length = b.length
  · exact Ev.congr (fun k => by rw [lazarusref14_Vars.f, if_pos (by omega)]; rfl) (rv_l0 a b hl h a.length 0 r (by omega) (by simpa using hr))
  · obtain rfl := tell_no hr (fun e => h (congrArg List.length e))
    exact Ev.congr (fun k => by rw [lazarusref14_Vars.f, if_neg (by omega)]) (Ev.now false)
theorem rs_l0 (a b : List ByteArray) (hl : a.length ≤ 9223372036854775807) (hab : a.length = b.length) : ∀ (d i : Nat) (r : Bool), i + d = a.length → (r = true ↔ a.drop i = b.drop i) → Ev (fun k => lazarusref14_Texts.l0 k a b (i : Int)) r
  | 0, i, r, h, hr => by
    obtain rfl : r = true := hr.2 (by rw [List.drop_of_length_le (by omega), List.drop_of_length_le (by omega)])
    exact Ev.step (fun k => by rw [lazarusref14_Texts.l0, if_neg (by omega)]) (Ev.now true)
  | d + 1, i, r, h, hr => by
    rcases step_iff ByteArray.empty a b i (by omega) (by omega) hr with ⟨e0, hr'⟩ | ⟨e0, rfl⟩
    · have e : rdOf ByteArray.empty a (i : Int) = rdOf ByteArray.empty b (i : Int) := e0
      refine Ev.step (f := fun k => lazarusref14_Texts.l0 k a b ((i + 1 : Nat) : Int)) (fun k => ?_) (rs_l0 a b hl hab d (i + 1) r (by omega) hr')
      rw [lazarusref14_Texts.l0, if_pos (by omega), if_pos (by omega), if_pos (by omega), if_pos (tl_eq.2 e), w64 (by omega) (by omega)]
      rfl
    · have e : ¬ (rdOf ByteArray.empty a (i : Int) = rdOf ByteArray.empty b (i : Int)) := e0
      refine Ev.step (f := fun _ => some false) (fun k => ?_) (Ev.now false)
      rw [lazarusref14_Texts.l0, if_pos (by omega), if_pos (by omega), if_pos (by omega), if_neg (fun h => e (tl_eq.1 h))]
theorem rs_ev {a b : List ByteArray} (hl : a.length ≤ 9223372036854775807) {r : Bool} (hr : r = true ↔ a = b) : Ev (fun k => lazarusref14_Texts.f k a b) r := by
  by_cases h : a.length = b.length
  · exact Ev.congr (fun k => by rw [lazarusref14_Texts.f, if_pos (by omega)]; rfl) (rs_l0 a b hl h a.length 0 r (by omega) (by simpa using hr))
  · obtain rfl := tell_no hr (fun e => h (congrArg List.length e))
    exact Ev.congr (fun k => by rw [lazarusref14_Texts.f, if_neg (by omega)]) (Ev.now false)
theorem rl_l0 (a b : List S56) (hl : a.length ≤ 9223372036854775807) (hab : a.length = b.length) : ∀ (d i : Nat) (r : Bool), i + d = a.length → (r = true ↔ a.drop i = b.drop i) → Ev (fun k => lazarusref17_Same.l0 k a b (i : Int)) r
  | 0, i, r, h, hr => by
    obtain rfl : r = true := hr.2 (by rw [List.drop_of_length_le (by omega), List.drop_of_length_le (by omega)])
    exact Ev.step (fun k => by rw [lazarusref17_Same.l0, if_neg (by omega)]) (Ev.now true)
  | d + 1, i, r, h, hr => by
    rcases step_iff z56 a b i (by omega) (by omega) hr with ⟨e0, hr'⟩ | ⟨e0, rfl⟩
    · have e : rd_T56 a (i : Int) = rd_T56 b (i : Int) := e0
      refine Ev.step (f := fun k => lazarusref17_Same.l0 k a b ((i + 1 : Nat) : Int)) (fun k => ?_) (rl_l0 a b hl hab d (i + 1) r (by omega) hr')
      rw [lazarusref17_Same.l0, if_pos (by omega), if_pos (by omega), if_pos (by omega), if_neg (fun h => (c2.1 h) (n56.1 e)), w64 (by omega) (by omega)]
      rfl
    · have e : ¬ (rd_T56 a (i : Int) = rd_T56 b (i : Int)) := e0
      refine Ev.step (f := fun _ => some false) (fun k => ?_) (Ev.now false)
      rw [lazarusref17_Same.l0, if_pos (by omega), if_pos (by omega), if_pos (by omega), if_pos (c2.2 (fun h => e (n56.2 h)))]
theorem rl_ev {a b : List S56} (hl : a.length ≤ 9223372036854775807) {r : Bool} (hr : r = true ↔ a = b) : Ev (fun k => lazarusref17_Same.f k a b) r := by
  by_cases h : a.length = b.length
  · exact Ev.congr (fun k => by rw [lazarusref17_Same.f, if_pos (by omega)]; rfl) (rl_l0 a b hl h a.length 0 r (by omega) (by simpa using hr))
  · obtain rfl := tell_no hr (fun e => h (congrArg List.length e))
    exact Ev.congr (fun k => by rw [lazarusref17_Same.f, if_neg (by omega)]) (Ev.now false)
theorem re_l0 (p0 q0 : List S71) (p1 q1 : List ByteArray) (a b : List S67) (hl : a.length ≤ 9223372036854775807) (hab : a.length = b.length) : ∀ (d i : Nat) (r : Bool), i + d = a.length → (r = true ↔ a.drop i = b.drop i) → Ev (fun k => lazarusref14_Same.l0 k (i : Int) p0 p1 a q0 q1 b) r
  | 0, i, r, h, hr => by
    obtain rfl : r = true := hr.2 (by rw [List.drop_of_length_le (by omega), List.drop_of_length_le (by omega)])
    exact Ev.step (fun k => by rw [lazarusref14_Same.l0, if_neg (by omega)]) (Ev.now true)
  | d + 1, i, r, h, hr => by
    rcases step_iff z67 a b i (by omega) (by omega) hr with ⟨e0, hr'⟩ | ⟨e0, rfl⟩
    · have e : rd_T67 a (i : Int) = rd_T67 b (i : Int) := e0
      refine Ev.step (f := fun k => lazarusref14_Same.l0 k ((i + 1 : Nat) : Int) p0 p1 a q0 q1 b) (fun k => ?_) (re_l0 p0 q0 p1 q1 a b hl hab d (i + 1) r (by omega) hr')
      rw [lazarusref14_Same.l0, if_pos (by omega), if_pos (by omega), if_pos (by omega), if_neg (fun h => (c2i.1 h) (n67.1 e)), w64 (by omega) (by omega)]
      rfl
    · have e : ¬ (rd_T67 a (i : Int) = rd_T67 b (i : Int)) := e0
      refine Ev.step (f := fun _ => some false) (fun k => ?_) (Ev.now false)
      rw [lazarusref14_Same.l0, if_pos (by omega), if_pos (by omega), if_pos (by omega), if_pos (c2i.2 (fun h => e (n67.2 h)))]
theorem ev_if_no {α : Type} {g f : Nat → Option α} {r : α} (h : Ev (fun k => f k) r) : Ev (fun k => if false = true then g k else f k) r := Ev.congr (fun k => by rw [if_neg (by simp)]) h
theorem ev_if_yes {α : Type} {g f : Nat → Option α} {r : α} (h : Ev (fun k => g k) r) : Ev (fun k => if true = true then g k else f k) r := Ev.congr (fun k => by rw [if_pos rfl]) h
theorem env_ev {x y : S26} (h0 : x.f0.length ≤ 9223372036854775807) (h1 : x.f1.length ≤ 9223372036854775807) (h2 : x.f2.length ≤ 9223372036854775807) {r : Bool} (hr : r = true ↔ x = y) : Ev (fun k => env_Same.f k x.f0 x.f1 x.f2 y.f0 y.f1 y.f2) r := by
  rw [n26] at hr
  refine Ev.congr (fun k => by rw [env_Same.f]) ?_
  rcases tell_and hr with ⟨e, hr⟩ | ⟨e, rfl⟩
  · refine Ev.bind (sv_ev h0 (tell_yes e)) (ev_if_yes ?_)
    rcases tell_and hr with ⟨e, hr⟩ | ⟨e, rfl⟩
    · refine Ev.bind (ss_ev h1 (tell_yes e)) (ev_if_yes ?_)
      exact Ev.bind (sf_ev h2 hr) (Ev.now r)
    · exact Ev.bind (ss_ev h1 (tell_nope e)) (ev_if_no (Ev.now false))
  · exact Ev.bind (sv_ev h0 (tell_nope e)) (ev_if_no (Ev.now false))
theorem j0_no (p0 q0 : List S71) (p1 q1 : List ByteArray) (a b : List S67) : Ev (fun k => lazarusref14_Same.j0 k true p0 p1 a q0 q1 b) false := Ev.step (fun k => by rw [lazarusref14_Same.j0, if_pos rfl]) (Ev.now false)
theorem renv_ev {x y : S26} (h0 : x.f0.length ≤ 9223372036854775807) (h1 : x.f1.length ≤ 9223372036854775807) (h2 : x.f2.length ≤ 9223372036854775807) {r : Bool} (hr : r = true ↔ x = y) : Ev (fun k => lazarusref14_Same.f k x.f0 x.f1 x.f2 y.f0 y.f1 y.f2) r := by
  rw [n26] at hr
  by_cases hn : x.f2.length = y.f2.length
  · refine Ev.congr (fun k => by rw [lazarusref14_Same.f, if_pos (by omega)]) ?_
    rcases tell_and hr with ⟨e, hr⟩ | ⟨e, rfl⟩
    · refine Ev.bind (rv_ev h0 (tell_yes e)) (ev_if_yes ?_)
      rcases tell_and hr with ⟨e, hr⟩ | ⟨e, rfl⟩
      · refine Ev.bind (rs_ev h1 (tell_yes e)) ?_
        refine Ev.step (fun k => by rw [lazarusref14_Same.j0, if_neg (by simp)]) ?_
        exact re_l0 x.f0 y.f0 x.f1 y.f1 x.f2 y.f2 h2 hn x.f2.length 0 r (by omega) (by simpa using hr)
      · exact Ev.bind (rs_ev h1 (tell_nope e)) (j0_no _ _ _ _ _ _)
    · exact Ev.bind (rv_ev h0 (tell_nope e)) (ev_if_no (j0_no _ _ _ _ _ _))
  · obtain rfl := tell_no hr (fun e => hn (congrArg List.length e.2.2))
    exact Ev.congr (fun k => by rw [lazarusref14_Same.f, if_neg (by omega)]) (j0_no _ _ _ _ _ _)
theorem ev_iff_no {α : Type} {g f : Nat → Option α} {p : Prop} [Decidable p] (hp : ¬ p) {r : α} (h : Ev (fun k => f k) r) : Ev (fun k => if p then g k else f k) r := Ev.congr (fun k => by rw [if_neg hp]) h
theorem ev_iff_yes {α : Type} {g f : Nat → Option α} {p : Prop} [Decidable p] (hp : p) {r : α} (h : Ev (fun k => g k) r) : Ev (fun k => if p then g k else f k) r := Ev.congr (fun k => by rw [if_pos hp]) h
theorem ev_last {a b : ByteArray} {r : Bool} (hr : r = true ↔ a = b) : Ev (fun _ => some (a.toList == b.toList)) r := by
  obtain rfl : (a.toList == b.toList) = r := Bool.eq_iff_iff.2 (tl_beq.trans hr.symm)
  exact Ev.now _
theorem frame_ev {x y : S59} (h4 : x.f4.length ≤ 9223372036854775807) (h5 : x.f5.f0.length ≤ 9223372036854775807) (h6 : x.f5.f1.length ≤ 9223372036854775807) (h7 : x.f5.f2.length ≤ 9223372036854775807) {r : Bool} (hr : r = true ↔ x = y) : Ev (fun k => state_sameFrame.f k x.f0 x.f1 x.f2 x.f3 x.f4 x.f5.f0 x.f5.f1 x.f5.f2 x.f6.f0 x.f6.f1 x.f7.f0 x.f7.f1 x.f7.f2 x.f8 y.f0 y.f1 y.f2 y.f3 y.f4 y.f5.f0 y.f5.f1 y.f5.f2 y.f6.f0 y.f6.f1 y.f7.f0 y.f7.f1 y.f7.f2 y.f8) r := by
  rw [n59] at hr
  refine Ev.congr (fun k => by rw [state_sameFrame.f]) ?_
  rcases tell_and hr with ⟨e, hr⟩ | ⟨e, rfl⟩
  case inr => exact ev_iff_no e (Ev.now false)
  refine ev_iff_yes e ?_
  rcases tell_and hr with ⟨e, hr⟩ | ⟨e, rfl⟩
  case inr => exact ev_iff_no e (Ev.now false)
  refine ev_iff_yes e ?_
  rcases tell_and hr with ⟨e, hr⟩ | ⟨e, rfl⟩
  case inr => exact ev_iff_no e (Ev.now false)
  refine ev_iff_yes e ?_
  rcases tell_and hr with ⟨e, hr⟩ | ⟨e, rfl⟩
  case inr => exact ev_iff_no e (Ev.now false)
  refine ev_iff_yes e ?_
  rcases tell_and hr with ⟨e, hr⟩ | ⟨e, rfl⟩
  case inr => exact Ev.bind (ss_ev h4 (tell_nope e)) (ev_if_no (Ev.now false))
  refine Ev.bind (ss_ev h4 (tell_yes e)) (ev_if_yes ?_)
  rcases tell_and hr with ⟨e, hr⟩ | ⟨e, rfl⟩
  case inr => exact Ev.bind (env_ev h5 h6 h7 (tell_nope e)) (ev_if_no (Ev.now false))
  refine Ev.bind (env_ev h5 h6 h7 (tell_yes e)) (ev_if_yes ?_)
  rcases tell_and hr with ⟨e, hr⟩ | ⟨e, rfl⟩
  case inr => exact ev_iff_no (fun h => e (e29.1 h)) (Ev.now false)
  refine ev_iff_yes (e29.2 e) ?_
  rcases tell_and hr with ⟨e, hr⟩ | ⟨e, rfl⟩
  case inr => exact ev_iff_no (fun h => e (e31.1 h)) (Ev.now false)
  refine ev_iff_yes (e31.2 e) ?_
  exact ev_last hr
theorem rframe_ev {x y : S59} (h4 : x.f4.length ≤ 9223372036854775807) (h5 : x.f5.f0.length ≤ 9223372036854775807) (h6 : x.f5.f1.length ≤ 9223372036854775807) (h7 : x.f5.f2.length ≤ 9223372036854775807) {r : Bool} (hr : r = true ↔ x = y) : Ev (fun k => lazarusref19_frames.f k x.f0 x.f1 x.f2 x.f3 x.f4 x.f5.f0 x.f5.f1 x.f5.f2 x.f6.f0 x.f6.f1 x.f7.f0 x.f7.f1 x.f7.f2 x.f8 y.f0 y.f1 y.f2 y.f3 y.f4 y.f5.f0 y.f5.f1 y.f5.f2 y.f6.f0 y.f6.f1 y.f7.f0 y.f7.f1 y.f7.f2 y.f8) r := by
  rw [n59] at hr
  refine Ev.congr (fun k => by rw [lazarusref19_frames.f]) ?_
  rcases tell_and hr with ⟨e, hr⟩ | ⟨e, rfl⟩
  case inr => exact ev_iff_no e (Ev.now false)
  refine ev_iff_yes e ?_
  rcases tell_and hr with ⟨e, hr⟩ | ⟨e, rfl⟩
  case inr => exact ev_iff_no e (Ev.now false)
  refine ev_iff_yes e ?_
  rcases tell_and hr with ⟨e, hr⟩ | ⟨e, rfl⟩
  case inr => exact ev_iff_no e (Ev.now false)
  refine ev_iff_yes e ?_
  rcases tell_and hr with ⟨e, hr⟩ | ⟨e, rfl⟩
  case inr => exact ev_iff_no e (Ev.now false)
  refine ev_iff_yes e ?_
  rcases tell_and hr with ⟨e, hr⟩ | ⟨e, rfl⟩
  case inr => exact Ev.bind (rs_ev h4 (tell_nope e)) (ev_if_no (Ev.now false))
  refine Ev.bind (rs_ev h4 (tell_yes e)) (ev_if_yes ?_)
  rcases tell_and hr with ⟨e, hr⟩ | ⟨e, rfl⟩
  case inr => exact Ev.bind (renv_ev h5 h6 h7 (tell_nope e)) (ev_if_no (Ev.now false))
  refine Ev.bind (renv_ev h5 h6 h7 (tell_yes e)) (ev_if_yes ?_)
  rcases tell_and hr with ⟨e, hr⟩ | ⟨e, rfl⟩
  case inr => exact ev_iff_no (fun h => e (e29.1 h)) (Ev.now false)
  refine ev_iff_yes (e29.2 e) ?_
  rcases tell_and hr with ⟨e, hr⟩ | ⟨e, rfl⟩
  case inr => exact ev_iff_no (fun h => e (e31.1 h)) (Ev.now false)
  refine ev_iff_yes (e31.2 e) ?_
  exact ev_last hr
/-! A call, a state. -/
structure S34 where
  f0 : Int
  f1 : List ByteArray
  f2 : List S71
  f3 : ByteArray
def k34 : Kd S34 := Kd.iso (Kd.pair (Kd.int .i64) (Kd.pair (Kd.slice 9 Kd.string) (Kd.pair (Kd.slice 71 k71) Kd.string))) (fun x : S34 => (x.f0, x.f1, x.f2, x.f3))
structure S36 where
  f0 : S26
  f1 : List S56
  f2 : Int
  f3 : ByteArray
  f4 : S29
  f5 : S31
  f6 : ByteArray
  f7 : List S59
  f8 : Int
  f9 : Int
  f10 : Bool
  f11 : Bool
  f12 : S34
def k36 : Kd S36 := Kd.iso (Kd.pair k26 (Kd.pair (Kd.slice 56 k56) (Kd.pair (Kd.int .i64) (Kd.pair Kd.string (Kd.pair k29 (Kd.pair k31 (Kd.pair Kd.string (Kd.pair (Kd.slice 59 k59) (Kd.pair (Kd.int .i64) (Kd.pair (Kd.int .i64) (Kd.pair Kd.bool (Kd.pair Kd.bool k34)))))))))))) (fun x : S36 => (x.f0, x.f1, x.f2, x.f3, x.f4, x.f5, x.f6, x.f7, x.f8, x.f9, x.f10, x.f11, x.f12))
theorem n34 {x y : S34} : x = y ↔ x.f0 = y.f0 ∧ x.f1 = y.f1 ∧ x.f2 = y.f2 ∧ x.f3 = y.f3 := by cases x; cases y; simp
theorem n36 {x y : S36} : x = y ↔ x.f0 = y.f0 ∧ x.f1 = y.f1 ∧ x.f2 = y.f2 ∧ x.f3 = y.f3 ∧ x.f4 = y.f4 ∧ x.f5 = y.f5 ∧ x.f6 = y.f6 ∧ x.f7 = y.f7 ∧ x.f8 = y.f8 ∧ x.f9 = y.f9 ∧ x.f10 = y.f10 ∧ x.f11 = y.f11 ∧ x.f12 = y.f12 := by cases x; cases y; simp
theorem k34_open {w : World} {x : S34} {cs : List Value} (h : k34.K w x cs) : ∃ A1 c1 A2 c2, cs = [.int .i64 x.f0, .slice A1 x.f1.length c1, .slice A2 x.f2.length c2, .string x.f3] ∧ x.f1.length ≤ c1 ∧ Kd.string.C w A1 x.f1.length x.f1 ∧ x.f2.length ≤ c2 ∧ k71.C w A2 x.f2.length x.f2 := by
  obtain ⟨_, _, rfl, rfl, ⟨_, _, rfl, ⟨A1, c1, rfl, l1, g1⟩, ⟨_, _, rfl, ⟨A2, c2, rfl, l2, g2⟩, rfl⟩⟩⟩ := h
  exact ⟨A1, c1, A2, c2, rfl, l1, g1, l2, g2⟩
def SCells (w : World) (x : S36) (cs : List Value) (a0 a1 a2 a3 a4 a5 a6 : Option Addr) (c0 c1 c2 c3 c4 c5 c6 : Nat) : Prop := cs = [.slice a0 x.f0.f0.length c0, .slice a1 x.f0.f1.length c1, .slice a2 x.f0.f2.length c2, .slice a3 x.f1.length c3, .int .i64 x.f2, .string x.f3, .string x.f4.f0, .int .i64 x.f4.f1, .int .i64 x.f5.f0, .string x.f5.f1, .int .i64 x.f5.f2, .string x.f6, .slice a4 x.f7.length c4, .int .i64 x.f8, .int .i64 x.f9, .bool x.f10, .bool x.f11, .int .i64 x.f12.f0, .slice a5 x.f12.f1.length c5, .slice a6 x.f12.f2.length c6, .string x.f12.f3] ∧
  (x.f0.f0.length ≤ c0 ∧ k71.C w a0 x.f0.f0.length x.f0.f0) ∧ (x.f0.f1.length ≤ c1 ∧ Kd.string.C w a1 x.f0.f1.length x.f0.f1) ∧ (x.f0.f2.length ≤ c2 ∧ k67.C w a2 x.f0.f2.length x.f0.f2) ∧ (x.f1.length ≤ c3 ∧ k56.C w a3 x.f1.length x.f1) ∧ (x.f7.length ≤ c4 ∧ k59.C w a4 x.f7.length x.f7) ∧ (x.f12.f1.length ≤ c5 ∧ Kd.string.C w a5 x.f12.f1.length x.f12.f1) ∧ (x.f12.f2.length ≤ c6 ∧ k71.C w a6 x.f12.f2.length x.f12.f2)
theorem k36_open {w : World} {x : S36} {cs : List Value} (h : k36.K w x cs) : ∃ a0 a1 a2 a3 a4 a5 a6 c0 c1 c2 c3 c4 c5 c6, SCells w x cs a0 a1 a2 a3 a4 a5 a6 c0 c1 c2 c3 c4 c5 c6 := by
  obtain ⟨_, _, rfl, s0, ⟨_, _, rfl, ⟨a3, c3, rfl, l3, g3⟩, ⟨_, _, rfl, rfl, ⟨_, _, rfl, rfl, ⟨_, _, rfl, s4, ⟨_, _, rfl, s5, ⟨_, _, rfl, rfl, ⟨_, _, rfl, ⟨a4, c4, rfl, l4, g4⟩, ⟨_, _, rfl, rfl, ⟨_, _, rfl, rfl, ⟨_, _, rfl, rfl, ⟨_, _, rfl, rfl, s12⟩⟩⟩⟩⟩⟩⟩⟩⟩⟩⟩⟩ := h
  obtain ⟨a0, c0, a1, c1, a2, c2, rfl, l0, g0, l1, g1, l2, g2⟩ := k26_open s0
  obtain rfl := k29_open s4
  obtain rfl := k31_open s5
  obtain ⟨a5, c5, a6, c6, rfl, l5, g5, l6, g6⟩ := k34_open s12
  exact ⟨a0, a1, a2, a3, a4, a5, a6, c0, c1, c2, c3, c4, c5, c6, rfl, ⟨l0, g0⟩, ⟨l1, g1⟩, ⟨l2, g2⟩, ⟨l3, g3⟩, ⟨l4, g4⟩, ⟨l5, g5⟩, ⟨l6, g6⟩⟩
theorem call_ev {x y : S34} (h1 : x.f1.length ≤ 9223372036854775807) (h2 : x.f2.length ≤ 9223372036854775807) {r : Bool} (hr : r = true ↔ x = y) : Ev (fun k => state_sameCall.f k x.f0 x.f1 x.f2 x.f3 y.f0 y.f1 y.f2 y.f3) r := by
  rw [n34] at hr
  refine Ev.congr (fun k => by rw [state_sameCall.f]) ?_
  rcases tell_and hr with ⟨e, hr⟩ | ⟨e, rfl⟩
  case inr => exact ev_iff_no e (Ev.now false)
  refine ev_iff_yes e ?_
  rcases tell_and hr with ⟨e, hr⟩ | ⟨e, rfl⟩
  case inr => exact Ev.bind (ss_ev h1 (tell_nope e)) (ev_if_no (Ev.now false))
  refine Ev.bind (ss_ev h1 (tell_yes e)) (ev_if_yes ?_)
  rcases tell_and hr with ⟨e, hr⟩ | ⟨e, rfl⟩
  case inr => exact Ev.bind (sv_ev h2 (tell_nope e)) (ev_if_no (Ev.now false))
  refine Ev.bind (sv_ev h2 (tell_yes e)) (ev_if_yes ?_)
  exact ev_last hr
theorem rcall_ev {x y : S34} (h1 : x.f1.length ≤ 9223372036854775807) (h2 : x.f2.length ≤ 9223372036854775807) {r : Bool} (hr : r = true ↔ x = y) : Ev (fun k => lazarusref19_Calls.f k x.f0 x.f1 x.f2 x.f3 y.f0 y.f1 y.f2 y.f3) r := by
  rw [n34] at hr
  refine Ev.congr (fun k => by rw [lazarusref19_Calls.f]) ?_
  rcases tell_and hr with ⟨e, hr⟩ | ⟨e, rfl⟩
  case inr => exact ev_iff_no e (Ev.now false)
  refine ev_iff_yes e ?_
  rcases tell_and hr with ⟨e, hr⟩ | ⟨e, rfl⟩
  case inr => exact Ev.bind (rs_ev h1 (tell_nope e)) (ev_if_no (Ev.now false))
  refine Ev.bind (rs_ev h1 (tell_yes e)) (ev_if_yes ?_)
  rcases tell_and hr with ⟨e, hr⟩ | ⟨e, rfl⟩
  case inr => exact Ev.bind (rv_ev h2 (tell_nope e)) (ev_if_no (Ev.now false))
  refine Ev.bind (rv_ev h2 (tell_yes e)) (ev_if_yes ?_)
  exact ev_last hr
end Go.Proofs.Ytekebjkcolhcoaa.Hnd
