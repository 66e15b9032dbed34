/- Contracts of the calls, by hand. -/
import Derived.Test.YtkicekddkgehoaaDoorQMarkBytesx2
import Derived.Test.YtkicekddkgehoaaDoorMk1
import Derived.RangeFuncNested
import Derived.RangeFuncBound
import Derived.RangeFuncCalls
import Derived.RangeFuncLeaves
import Derived.RangeFuncBox
import Derived.Shelf.Abstract
import Derived.Shelf.RegionOpen
import Derived.OwnWalkIn
import Derived.TacticsInMore
import Derived.LoopNIn
import Derived.LoopIn
import Derived.Sort.QuietIn
import Derived.Sort.CutIn
import Derived.Stop.RegionWithIn
import Derived.StillTailTactics
import Derived.Shelf.Strconv.AppendIntPublic10
import Derived.Shelf.Strconv.ErrVarParseInt
import Derived.Shelf.Bytes.IndexByte
import Derived.Lib.ItoaLen
import Derived.Lib.ParseIntBTie
import Derived.Lib.AtoiBound
import Derived.Deep.Upon
namespace Go.Proofs.YtkicekddkgehoaaDoor.Hnd
open Go.RowKit Go.Proofs.YtkicekddkgehoaaDoor.QMarkBytes Go.Proofs.YtkicekddkgehoaaDoorW.PrintWords Go.Proofs.YtkicekddkgehoaaDoorW.PrintLast  Go.Shelf
set_option linter.unusedVariables false
set_option linter.unusedSimpArgs false
/-! A mark in plain words. -/
theorem tk_num {n : Int} (hn : NT.Rng n) (t : List Int) : tk (NT.num n ++ t) = (n, (NT.num n).length, true) := by
  unfold tk
  rw [NT.take_num hn]
def isM (gen n : Int) (done : Bool) (st : Int) (out : ByteArray) : Bool := decide (0 ≤ gen) && (decide (gen < 2147483647) && (decide (0 ≤ n) && (decide (n ≤ 2147483647) && (done || (st == 0 && (out.toList == ([] : List UInt8)))))))
theorem mark_is_f (gen n : Int) (done : Bool) (st : Int) (out : ByteArray) : mark_is.f gen n done st out = some (isM gen n done st out) := by
  unfold mark_is.f isM
  by_cases h1 : 0 ≤ gen
  · rw [if_pos h1, decide_eq_true h1]
    by_cases h2 : gen < 2147483647
    · rw [if_pos h2, decide_eq_true h2]
      by_cases h3 : 0 ≤ n
      · rw [if_pos h3, decide_eq_true h3]
        by_cases h4 : n ≤ 2147483647
        · rw [if_pos h4, decide_eq_true h4]
          cases done <;> rfl
        · rw [if_neg h4, decide_eq_false h4]; rfl
      · rw [if_neg h3, decide_eq_false h3]; rfl
    · rw [if_neg h2, decide_eq_false h2]; rfl
  · rw [if_neg h1, decide_eq_false h1]; rfl
theorem ref_is_f (gen n : Int) (done : Bool) (st : Int) (out : ByteArray) : lazarusref6_Is.f gen n done st out = some (isM gen n done st out) := by
  unfold lazarusref6_Is.f isM
  by_cases h1 : 0 ≤ gen
  · rw [if_pos h1, decide_eq_true h1]
    by_cases h2 : gen < 2147483647
    · rw [if_pos h2, decide_eq_true h2]
      by_cases h3 : 0 ≤ n
      · rw [if_pos h3, decide_eq_true h3]
        by_cases h4 : n < 2147483648
        · rw [if_pos h4, decide_eq_true (show n ≤ 2147483647 by omega)]
          cases done <;> rfl
        · rw [if_neg h4, decide_eq_false (show ¬ n ≤ 2147483647 by omega)]; rfl
      · rw [if_neg h3, decide_eq_false h3]; rfl
    · rw [if_neg h2, decide_eq_false h2]; rfl
  · rw [if_neg h1, decide_eq_false h1]; rfl
def bitM (done : Bool) : Int := if done = true then 1 else 0
def bytesM (gen n : Int) (done : Bool) (st : Int) (out : ByteArray) : List Int := if isM gen n done st out = true then NT.num n ++ (NT.num (bitM done) ++ (NT.num st ++ NT.text (strL out))) else []
theorem isM_n {gen n : Int} {done : Bool} {st : Int} {out : ByteArray} (h : isM gen n done st out = true) : 0 ≤ n ∧ n ≤ 2147483647 := by
  unfold isM at h
  rw [Bool.and_eq_true, Bool.and_eq_true, Bool.and_eq_true, Bool.and_eq_true] at h
  exact ⟨of_decide_eq_true h.2.2.1, of_decide_eq_true h.2.2.2.1⟩
theorem isM_gen {gen n : Int} {done : Bool} {st : Int} {out : ByteArray} (h : isM gen n done st out = true) : isM 0 n done st out = true := by
  unfold isM at h ⊢
  rw [Bool.and_eq_true, Bool.and_eq_true] at h
  rw [decide_eq_true (by decide : (0 : Int) ≤ 0), decide_eq_true (by decide : (0 : Int) < 2147483647), h.2.2]
  rfl
theorem bitM_rng (d : Bool) : NT.Rng (bitM d) := by cases d <;> exact ⟨by decide, by decide⟩
theorem bitM_one (d : Bool) : (bitM d == 1) = d := by cases d <;> rfl
theorem bytesM_bytes (gen n : Int) (done : Bool) (st : Int) (out : ByteArray) : NBytes (bytesM gen n done st out) := fun x hx => by
  unfold bytesM at hx
  split at hx
  · rcases List.mem_append.1 hx with h | h
    · exact NT.num_bytes _ x h
    rcases List.mem_append.1 h with h | h
    · exact NT.num_bytes _ x h
    rcases List.mem_append.1 h with h | h
    · exact NT.num_bytes _ x h
    · exact text_bytes out x h
  · cases hx
/-- What four calls of a Reader take. -/
structure Four where
  n : Int
  d : Int
  s : Int
  o : List Int
  p : Bool
  q : Bool
  r : Bool
  t : Bool
  k1 : Nat
  k2 : Nat
  k3 : Nat
  k4 : Nat
def four (b : List Int) : Four :=
  { n := (tk b).1, p := (tk b).2.2, k1 := (tk b).2.1
    d := (tk (b.drop (tk b).2.1)).1, q := (tk (b.drop (tk b).2.1)).2.2, k2 := (tk (b.drop (tk b).2.1)).2.1
    s := (tk ((b.drop (tk b).2.1).drop (tk (b.drop (tk b).2.1)).2.1)).1, r := (tk ((b.drop (tk b).2.1).drop (tk (b.drop (tk b).2.1)).2.1)).2.2, k3 := (tk ((b.drop (tk b).2.1).drop (tk (b.drop (tk b).2.1)).2.1)).2.1
    o := (tT (((b.drop (tk b).2.1).drop (tk (b.drop (tk b).2.1)).2.1).drop (tk ((b.drop (tk b).2.1).drop (tk (b.drop (tk b).2.1)).2.1)).2.1)).1, t := (tT (((b.drop (tk b).2.1).drop (tk (b.drop (tk b).2.1)).2.1).drop (tk ((b.drop (tk b).2.1).drop (tk (b.drop (tk b).2.1)).2.1)).2.1)).2.2, k4 := (tT (((b.drop (tk b).2.1).drop (tk (b.drop (tk b).2.1)).2.1).drop (tk ((b.drop (tk b).2.1).drop (tk (b.drop (tk b).2.1)).2.1)).2.1)).2.1 }
theorem four_of {n d s : Int} {o : List Int} (hn : NT.Rng n) (hd : NT.Rng d) (hs : NT.Rng s) (ho : o.length ≤ 1099511627776) : (four (NT.num n ++ (NT.num d ++ (NT.num s ++ NT.text o)))).n = n ∧ (four (NT.num n ++ (NT.num d ++ (NT.num s ++ NT.text o)))).d = d ∧ (four (NT.num n ++ (NT.num d ++ (NT.num s ++ NT.text o)))).s = s ∧ (four (NT.num n ++ (NT.num d ++ (NT.num s ++ NT.text o)))).o = o ∧
    (four (NT.num n ++ (NT.num d ++ (NT.num s ++ NT.text o)))).p = true ∧ (four (NT.num n ++ (NT.num d ++ (NT.num s ++ NT.text o)))).q = true ∧ (four (NT.num n ++ (NT.num d ++ (NT.num s ++ NT.text o)))).r = true ∧ (four (NT.num n ++ (NT.num d ++ (NT.num s ++ NT.text o)))).t = true := by
  have h4 := tT_text (s := o) (t := []) ho
  rw [List.append_nil] at h4
  unfold four
  dsimp only
  rw [tk_num hn]
  dsimp only
  rw [List.drop_left, tk_num hd]
  dsimp only
  rw [List.drop_left, tk_num hs]
  dsimp only
  rw [List.drop_left, h4]
  exact ⟨rfl, rfl, rfl, rfl, rfl, rfl, rfl, rfl⟩
theorem four_nil : (four []).t = false := rfl
/-- What is read of bytes. -/
def rdM (b : List Int) : Int × Bool × Int × ByteArray × Bool :=
  if (four b).t = true ∧ bytesM 0 (four b).n ((four b).d == 1) (four b).s (strOfNums (four b).o) = b then ((four b).n, (four b).d == 1, (four b).s, strOfNums (four b).o, true) else (0, false, 0, ⟨#[]⟩, false)
theorem tk_rng (b : List Int) : NT.Rng (tk b).1 := by
  rcases tk_cases b with h | ⟨n, k, h, _, hr, _⟩
  · rw [h]
    exact ⟨by decide, by decide⟩
  · rw [h]
    exact hr
theorem tT_bytes {b : List Int} (hb : NBytes b) : NBytes (tT b).1 ∧ (tT b).1.length ≤ b.length := by
  rcases tk_cases b with h | ⟨n, k, h, ht, hr, hk⟩
  · rw [tT_none h]
    exact ⟨(fun x hx => by cases hx), Nat.zero_le _⟩
  · rw [tT_some ht]
    split
    · exact ⟨fun x hx => hb x (List.mem_of_mem_drop (List.mem_of_mem_take hx)), by
        show ((b.drop k).take n.toNat).length ≤ _
        rw [List.length_take, List.length_drop]
        omega⟩
    · exact ⟨(fun x hx => by cases hx), Nat.zero_le _⟩
/-- The document asks for more, and gets it. -/
theorem rdM_all {b : List Int} (hb : NBytes b) (hl : b.length ≤ 1099511627776) (ht : (four b).t = true) (he : bytesM 0 (four b).n ((four b).d == 1) (four b).s (strOfNums (four b).o) = b) : (four b).p = true ∧ (four b).q = true ∧ (four b).r = true ∧ isM 0 (four b).n ((four b).d == 1) (four b).s (strOfNums (four b).o) = true := by
  have hob : NBytes (four b).o ∧ (four b).o.length ≤ 1099511627776 := by
    have h := tT_bytes (b := ((b.drop (tk b).2.1).drop (tk (b.drop (tk b).2.1)).2.1).drop (tk ((b.drop (tk b).2.1).drop (tk (b.drop (tk b).2.1)).2.1)).2.1) (fun x hx => hb x (List.mem_of_mem_drop (List.mem_of_mem_drop (List.mem_of_mem_drop hx))))
    refine ⟨h.1, Nat.le_trans h.2 ?_⟩
    rw [List.length_drop, List.length_drop, List.length_drop]
    omega
  by_cases hm : isM 0 (four b).n ((four b).d == 1) (four b).s (strOfNums (four b).o) = true
  · refine (fun h : _ ∧ _ ∧ _ => ⟨h.1, h.2.1, h.2.2, hm⟩) ?_
    have e : b = NT.num (four b).n ++ (NT.num (bitM ((four b).d == 1)) ++ (NT.num (four b).s ++ NT.text (four b).o)) := by
      unfold bytesM at he
      rw [if_pos hm, strL_strOf hob.1] at he
      exact he.symm
    have hn := isM_n hm
    have h := four_of (n := (four b).n) (d := bitM ((four b).d == 1)) (s := (four b).s) (o := (four b).o) ⟨by omega, by omega⟩ (bitM_rng _) (tk_rng _) hob.2
    rw [← e] at h
    exact ⟨h.2.2.2.2.1, h.2.2.2.2.2.1, h.2.2.2.2.2.2.1⟩
  · unfold bytesM at he
    rw [if_neg hm] at he
    rw [← he, four_nil] at ht
    cases ht
/-- What is written is read. -/
theorem rdM_bytes (gen n : Int) (done : Bool) (st : Int) (out : ByteArray) (hs : NT.Rng st) (ho : out.size ≤ 1099511627776) :
    rdM (bytesM gen n done st out) = if isM gen n done st out = true then (n, done, st, out, true) else (0, false, 0, ⟨#[]⟩, false) := by
  by_cases hm : isM gen n done st out = true
  · rw [if_pos hm]
    have hn := isM_n hm
    have h := four_of (n := n) (d := bitM done) (s := st) (o := strL out) ⟨by omega, by omega⟩ (bitM_rng _) hs (by rw [strL_len]; exact ho)
    have e : bytesM gen n done st out = NT.num n ++ (NT.num (bitM done) ++ (NT.num st ++ NT.text (strL out))) := by unfold bytesM; rw [if_pos hm]
    have e2 : bytesM 0 n done st out = NT.num n ++ (NT.num (bitM done) ++ (NT.num st ++ NT.text (strL out))) := by unfold bytesM; rw [if_pos (isM_gen hm)]
    rw [← e] at h
    obtain ⟨h1, h2, h3, h4, _, _, _, h8⟩ := h
    unfold rdM
    rw [h1, h2, h3, h4, h8, bitM_one, strOf_strL, e2, ← e, if_pos ⟨rfl, rfl⟩]
  · rw [if_neg hm]
    unfold bytesM
    rw [if_neg hm]
    unfold rdM
    rw [if_neg (fun h => by have := h.1; rw [four_nil] at this; cases this)]
end Go.Proofs.YtkicekddkgehoaaDoor.Hnd
