/- Contracts of the calls, by hand. -/
import Derived.Test.YtikninibkljnnaaQPortAppendsx5
import Derived.Test.YtikninibkljnnaaPortP
import Derived.RangeFuncNested
import Derived.RangeFuncBound
import Derived.RangeFuncCalls
import Derived.RangeFuncLeaves
import Derived.RangeFuncBox
import Derived.Shelf.Abstract
import Derived.Shelf.RegionOpen
import Derived.OwnWalkIn
import Derived.TacticsInMore
import Derived.LoopNIn
import Derived.LoopIn
import Derived.Sort.QuietIn
import Derived.Sort.CutIn
import Derived.Stop.RegionWithIn
import Derived.StillTailTactics
import Derived.StillTail
import Derived.Deep.RegionHeld
import Derived.StillTailTactics
namespace Go.Proofs.Ytikninibkljnnaa.Hnd
open Go.RowKit Go.Proofs.Ytikninibkljnnaa.QPortAppends Go.Proofs.YtikninibkljnnaaW.PrintWords Go.Proofs.YtikninibkljnnaaW.PrintLast  Go.Shelf
set_option linter.unusedVariables false
set_option linter.unusedSimpArgs false
set_option linter.unusedVariables false
set_option linter.unusedSimpArgs false
theorem refname_l0 (s : ByteArray) (hs : s.size < 9223372036854775807) : ∀ (d i : Nat), i + d = s.size → Lib.NoAny s.data.toList [47, 0] i → Ev (fun k => lazarusref17_Name.l0 k s (i : Int)) (nameOk s)
  | 0, i, h, hno => by
    have hb : file_isName.bad s = false := by
      rw [file_isName.bad, Lib.indexAny_none (by rw [← Lib.size_eq, show s.size = i by omega]; exact hno)]
      rfl
    refine Ev.step (f := fun _ => some (nameOk s)) (fun k => ?_) (Ev.now _)
    rw [lazarusref17_Name.l0, if_neg (by omega), nameOk, hb]
    by_cases h0 : s.size = 0
    · rw [if_neg (by omega)]
      simp [h0]
    · rw [if_pos (by omega), beq_eq_false_iff_ne.2 h0]
      simp
  | d + 1, i, h, hno => by
    have hi : i < s.size := by omega
    have hbt : bt s (i : Int) = ((s[i]'hi).toNat : Int) := (bt_at s (i : Int) hi).symm
    by_cases h47 : (s[i]'hi) = 47
    · refine Ev.step (f := fun _ => some (nameOk s)) (fun k => ?_) (Ev.now _)
      rw [lazarusref17_Name.l0, if_pos (by omega), if_pos (by omega), hbt, h47, if_pos (by rfl), nameOk, bad_hit s i hi hno (by rw [h47]; rfl)]
      simp
    · by_cases h00 : (s[i]'hi) = 0
      · refine Ev.step (f := fun _ => some (nameOk s)) (fun k => ?_) (Ev.now _)
        rw [lazarusref17_Name.l0, if_pos (by omega), if_pos (by omega), hbt, h00, if_neg (by decide), if_pos (by rfl), nameOk, bad_hit s i hi hno (by rw [h00]; rfl)]
        simp
      · have n47 : ¬ (((s[i]'hi).toNat : Int) = 47) := fun e => h47 (UInt8.toNat_inj.1 (show (s[i]'hi).toNat = 47 by omega))
        have n0 : ¬ (((s[i]'hi).toNat : Int) = 0) := fun e => h00 (UInt8.toNat_inj.1 (show (s[i]'hi).toNat = 0 by omega))
        refine Ev.step (f := fun k => lazarusref17_Name.l0 k s ((i + 1 : Nat) : Int)) (fun k => ?_) (refname_l0 s hs d (i + 1) (by omega) (hno.succ (Lib.data_getElem? s i hi) (by
          have e1 : ((s[i]'hi) == 47) = false := beq_eq_false_iff_ne.2 h47
          have e2 : ((s[i]'hi) == 0) = false := beq_eq_false_iff_ne.2 h00
          simp [List.contains, List.elem, e1, e2])))
        rw [lazarusref17_Name.l0, if_pos (by omega), if_pos (by omega), hbt, if_neg n47, if_neg n0, w64 (by omega) (by omega)]
        rfl
theorem refname (s : ByteArray) (hs : s.size < 9223372036854775807) : Ev (fun k => lazarusref17_Name.f k s) (nameOk s) := refname_l0 s hs s.size 0 (by omega) (Lib.NoAny.zero _ _)
/-! the document's own functions -/
theorem idx_cnt (n : ByteArray) : ∀ (l : List S55) (i : Nat), Srt S55.f0 l → Kd.idxN (fun x : S55 => decide (x.f0 = n)) l i = if has S55.f0 l n = true then ((i + cnt S55.f0 l n : Nat) : Int) else -1
  | [], i, _ => by simp [Kd.idxN, has]
  | x :: l, i, h => by
    rw [Kd.idxN, cnt_cons]
    by_cases he : x.f0 = n
    · rw [decide_eq_true he, if_pos rfl, if_pos (by simp [has, he]), if_neg (by rw [he, lt_irr]; simp)]
      rfl
    · have hh : has S55.f0 (x :: l) n = has S55.f0 l n := by
        unfold has
        rw [List.any_cons, decide_eq_false he, Bool.false_or]
      rw [decide_eq_false he, if_neg (by simp), idx_cnt n l (i + 1) h.2, hh]
      by_cases hl : has S55.f0 l n = true
      · rw [if_pos hl, if_pos hl]
        have hx : lt x.f0 n = true := by
          unfold has at hl
          rw [List.any_eq_true] at hl
          obtain ⟨y, hy, hyn⟩ := hl
          have := h.1 y hy
          rwa [of_decide_eq_true hyn] at this
        rw [if_pos hx]
        congr 1
        omega
      · rw [if_neg hl, if_neg hl]
theorem find_l0 (l : List S55) (n : ByteArray) (hl : l.length < 9223372036854775807) : ∀ (d i : Nat), i + d = l.length → Ev (fun k => lazarusref17_Find.l0 k l n (i : Int)) (Kd.idxN (fun x : S55 => decide (x.f0 = n)) (l.drop i) i)
  | 0, i, h => by
    rw [Kd.idxN_end _ _ _ (by omega)]
    exact Ev.step (fun k => by rw [lazarusref17_Find.l0, if_neg (by omega)]) (Ev.now _)
  | d + 1, i, h => by
    rw [Kd.idxN_at _ l z55 i (by omega)]
    have er : rd_T55 l (i : Int) = l.getD i z55 := rfl
    by_cases he : (l.getD i z55).f0 = n
    · rw [if_pos (decide_eq_true he)]
      exact Ev.step (fun k => by rw [lazarusref17_Find.l0, if_pos (by omega), if_pos (by omega), er, if_pos (by rw [he])]) (Ev.now _)
    · rw [if_neg (by simpa using he)]
      refine Ev.step (f := fun k => lazarusref17_Find.l0 k l n ((i + 1 : Nat) : Int)) (fun k => ?_) (find_l0 l n hl d (i + 1) (by omega))
      rw [lazarusref17_Find.l0, if_pos (by omega), if_pos (by omega), er, if_neg (fun e => he (tl_inj e)), w64 (by omega) (by omega)]
      rfl
theorem find_ev (l : List S55) (n : ByteArray) (hl : l.length < 9223372036854775807) (hs : Srt S55.f0 l) : Ev (fun k => lazarusref17_Find.f k l n) (if has S55.f0 l n = true then ((cnt S55.f0 l n : Nat) : Int) else -1) := by
  have h := find_l0 l n hl l.length 0 (by omega)
  rw [List.drop_zero, idx_cnt n l 0 hs, Nat.zero_add] at h
  exact h
theorem refget_ev (l : List S55) (n : ByteArray) (hl : l.length < 4398046511104) (hs : Srt S55.f0 l) : Ev (fun k => lazarusref17_Get.f k l n) (if has S55.f0 l n = true then ((l.getD (cnt S55.f0 l n) z55).f1, true) else (⟨#[]⟩, false)) := by
  have hf := find_ev l n (by omega) hs
  cases hh : has S55.f0 l n with
  | false =>
    rw [hh, if_neg (by simp)] at hf
    rw [if_neg (by simp)]
    refine Ev.bind hf ?_
    exact Ev.congr (fun k => if_pos (by omega)) (Ev.now _)
  | true =>
    have h1 := has_cnt S55.f0 z55 n l hs
    rw [hh, Bool.and_eq_true, decide_eq_true_eq] at h1
    rw [hh, if_pos rfl] at hf
    rw [if_pos rfl]
    refine Ev.bind hf ?_
    exact Ev.congr (fun k => by rw [if_neg (by omega), if_pos (by omega), if_pos (by omega)]; rfl) (Ev.now _)
theorem rd_drop (l : List S55) (i : Nat) (h : i < l.length) : l.drop i = l.getD i z55 :: l.drop (i + 1) := by
  rw [List.drop_eq_getElem_cons h]
  simp [List.getD_eq_getElem?_getD, h]
theorem put_done (l : List S55) (n v : ByteArray) (hl : l.length < 1099511627776) : ∀ (d i : Nat) (o : List S55), i + d = l.length → o.length ≤ i + 1 → (∀ y ∈ l.drop i, y.f0 ≠ n) → Ev (fun k => lazarusref17_Put.l0 k l n v o true (i : Int)) (o ++ l.drop i, 0)
  | 0, i, o, h, ho, hne => by
    rw [List.drop_eq_nil_of_le (by omega), List.append_nil]
    exact Ev.step (fun k => by rw [lazarusref17_Put.l0, if_neg (by omega), if_pos rfl]) (Ev.now _)
  | d + 1, i, o, h, ho, hne => by
    have er : rd_T55 l (i : Int) = l.getD i z55 := rfl
    have hd := rd_drop l i (by omega)
    have hx : (l.getD i z55).f0 ≠ n := hne _ (by rw [hd]; exact List.mem_cons_self)
    have ih := put_done l n v hl d (i + 1) (o ++ [l.getD i z55]) (by omega) (by simp; omega) (fun y hy => hne y (by rw [hd]; exact List.mem_cons_of_mem _ hy))
    rw [hd, show o ++ (l.getD i z55 :: l.drop (i + 1)) = o ++ [l.getD i z55] ++ l.drop (i + 1) by simp]
    refine Ev.step (fun k => by rw [lazarusref17_Put.l0, if_pos (by omega), if_pos rfl]) ?_
    refine Ev.step (f := fun k => lazarusref17_Put.l0 k l n v (o ++ [l.getD i z55]) true ((i + 1 : Nat) : Int)) (fun k => ?_) ih
    rw [lazarusref17_Put.j2, if_neg (by simp), if_pos (by omega), if_pos (by omega), er, if_neg (fun e => hx (tl_inj e)), if_pos (by omega), w64 (by omega) (by omega)]
    rfl
theorem put_l0 (l : List S55) (n v : ByteArray) (hl : l.length < 1099511627776) : ∀ (d i : Nat) (o : List S55), i + d = l.length → o.length ≤ i → Srt S55.f0 (l.drop i) → Ev (fun k => lazarusref17_Put.l0 k l n v o false (i : Int)) (o ++ ins S55.f0 (l.drop i) n ⟨n, v⟩, 0)
  | 0, i, o, h, ho, hs => by
    rw [List.drop_eq_nil_of_le (by omega)]
    exact Ev.step (fun k => by rw [lazarusref17_Put.l0, if_neg (by omega), if_neg (by simp), if_pos (by omega)]; rfl) (Ev.now _)
  | d + 1, i, o, h, ho, hs => by
    have er : rd_T55 l (i : Int) = l.getD i z55 := rfl
    have hd := rd_drop l i (by omega)
    rw [hd] at hs ⊢
    refine Ev.step (fun k => by rw [lazarusref17_Put.l0, if_pos (by omega), if_neg (by simp), if_pos (by omega), er]) ?_
    by_cases hx : lt (l.getD i z55).f0 n = true
    · have hx' : Op.bytesLess (l.getD i z55).f0.toList n.toList = true := hx
      have hne : (l.getD i z55).f0 ≠ n := fun e => by rw [e, lt_irr] at hx; cases hx
      have ih := put_l0 l n v hl d (i + 1) (o ++ [l.getD i z55]) (by omega) (by simp; omega) hs.2
      rw [hx', ins, if_pos hx]
      rw [show o ++ (l.getD i z55 :: ins S55.f0 (l.drop (i + 1)) n ⟨n, v⟩) = o ++ [l.getD i z55] ++ ins S55.f0 (l.drop (i + 1)) n ⟨n, v⟩ by simp]
      refine Ev.step (f := fun k => lazarusref17_Put.l0 k l n v (o ++ [l.getD i z55]) false ((i + 1 : Nat) : Int)) (fun k => ?_) ih
      rw [lazarusref17_Put.j2, if_neg (by simp), if_pos (by omega), if_pos (by omega), er, if_neg (fun e => hne (tl_inj e)), if_pos (by omega), w64 (by omega) (by omega)]
      rfl
    · have hx' : Op.bytesLess (l.getD i z55).f0.toList n.toList = false := by simpa [lt] using hx
      rw [hx', ins, if_neg hx]
      have hrest : ∀ y ∈ l.drop (i + 1), y.f0 ≠ n := fun y hy e => by
        have h1 := hs.1 y hy
        rw [e] at h1
        exact hx h1
      by_cases he : (l.getD i z55).f0 = n
      · rw [if_pos he]
        have ih := put_done l n v hl d (i + 1) (o ++ [⟨n, v⟩]) (by omega) (by simp; omega) hrest
        rw [show o ++ ((⟨n, v⟩ : S55) :: l.drop (i + 1)) = o ++ [⟨n, v⟩] ++ l.drop (i + 1) by simp]
        refine Ev.step (f := fun k => lazarusref17_Put.l0 k l n v (o ++ [⟨n, v⟩]) true ((i + 1 : Nat) : Int)) (fun k => ?_) ih
        rw [lazarusref17_Put.j2, if_pos (by simp), if_pos (by omega), Option.bind_some, if_pos (by omega), if_pos (by omega), er, if_pos (by rw [he]), w64 (by omega) (by omega)]
        rfl
      · rw [if_neg he]
        have ih := put_done l n v hl d (i + 1) (o ++ [⟨n, v⟩] ++ [l.getD i z55]) (by omega) (by simp; omega) hrest
        rw [show o ++ ((⟨n, v⟩ : S55) :: l.getD i z55 :: l.drop (i + 1)) = o ++ [⟨n, v⟩] ++ [l.getD i z55] ++ l.drop (i + 1) by simp]
        refine Ev.step (f := fun k => lazarusref17_Put.l0 k l n v (o ++ [⟨n, v⟩] ++ [l.getD i z55]) true ((i + 1 : Nat) : Int)) (fun k => ?_) ih
        rw [lazarusref17_Put.j2, if_pos (by simp), if_pos (by omega), Option.bind_some, if_pos (by omega), if_pos (by omega), er, if_neg (fun e => he (tl_inj e)), if_pos (by simp; omega), w64 (by omega) (by omega)]
        rfl
theorem refput_ev (l : List S55) (n v : ByteArray) (hn : n.size ≤ 140737488351232) (hl : l.length < 1099511627776) (hs : Srt S55.f0 l) :
    Ev (fun k => lazarusref17_Put.f k l n v) (if nameOk n = true then (if (v.size : Int) > 4000 then ([], 3) else if has S55.f0 l n = false ∧ (l.length : Int) ≥ 20 then ([], 3) else (ins S55.f0 l n ⟨n, v⟩, 0)) else ([], 1)) := by
  refine Ev.bind (refname n (by omega)) ?_
  cases hno : nameOk n with
  | false =>
    rw [if_neg (by simp)]
    exact Ev.congr (fun k => if_neg (by simp)) (Ev.now _)
  | true =>
    rw [if_pos rfl]
    refine Ev.congr (fun k => if_pos rfl) ?_
    have out : Ev (fun k => lazarusref17_Put.j0 k l n v true) ([], 3) := Ev.step (fun k => by rw [lazarusref17_Put.j0, if_pos rfl]) (Ev.now _)
    have go : Ev (fun k => lazarusref17_Put.j0 k l n v false) (ins S55.f0 l n ⟨n, v⟩, 0) := by
      have h := put_l0 l n v hl l.length 0 [] (by omega) (by simp) hs
      rw [List.drop_zero, List.nil_append] at h
      exact Ev.step (fun k => by rw [lazarusref17_Put.j0, if_neg (by simp)]; rfl) h
    by_cases hv : (v.size : Int) > 4000
    · rw [if_pos hv]
      exact Ev.congr (fun k => if_pos hv) out
    · rw [if_neg hv]
      refine Ev.congr (fun k => if_neg hv) ?_
      refine Ev.bind (find_ev l n (by omega) hs) ?_
      cases hh : has S55.f0 l n with
      | true =>
        rw [if_pos rfl, if_neg (by simp)]
        exact Ev.congr (fun k => if_neg (by omega)) go
      | false =>
        rw [if_neg (by simp)]
        refine Ev.congr (fun k => if_pos (by omega)) ?_
        by_cases h20 : (l.length : Int) ≥ 20
        · rw [if_pos ⟨rfl, h20⟩, decide_eq_true h20]
          exact out
        · rw [if_neg (fun e => h20 e.2), decide_eq_false h20]
          exact go
/-! Write -/
theorem ext_size (s : ByteArray) (a b : Nat) : (s.extract a b).size = min (b - a) (s.size - a) := by
  rw [Lib.size_eq, Lib.extract_eq, Lib.size_eq s]
  simp
theorem app_size (a b : ByteArray) : (a ++ b).size = a.size + b.size := by
  rw [Lib.size_eq, Lib.size_eq, Lib.size_eq]
  simp [ByteArray.data_append]
theorem ba_ext {a b : ByteArray} (h : a.data.toList = b.data.toList) : a = b := tl_inj (by rw [Lib.toList_data, Lib.toList_data, h])
theorem ext_data (s : ByteArray) (a b : Nat) : (s.extract a b).data.toList = (s.data.toList.drop a).take (b - a) := by
  rw [Lib.extract_eq]
theorem app_data (a b : ByteArray) : (a ++ b).data.toList = a.data.toList ++ b.data.toList := by simp [ByteArray.data_append]
theorem over_short (l d : List UInt8) (n : Nat) (h : l.length ≤ n + d.length) (F : List UInt8) (hF : F = l ++ List.replicate (n - l.length) 0) : file_Write.over l d n = F.take n ++ d := by
  have h2 := len_fill l (n + d.length)
  rw [file_Write.over, List.drop_eq_nil_of_le (by omega), List.append_nil]
  congr 1
  rw [hF, file_Write.fill, List.take_append, List.take_append, List.take_replicate, List.take_replicate]
  congr 2
  omega
theorem over_long (l d : List UInt8) (n : Nat) (h : n + d.length < l.length) : file_Write.over l d n = l.take n ++ d ++ l.drop (n + d.length) := by
  rw [file_Write.over, fill_id l _ (by omega)]
end Go.Proofs.Ytikninibkljnnaa.Hnd
