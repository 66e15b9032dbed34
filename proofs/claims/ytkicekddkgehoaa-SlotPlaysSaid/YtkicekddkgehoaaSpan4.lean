/- Contracts of the calls, by hand. -/
import Derived.Test.YtkicekddkgehoaaQSlotLastx1
import Derived.Test.YtkicekddkgehoaaSpan3
import Derived.RangeFuncNested
import Derived.RangeFuncBound
import Derived.RangeFuncCalls
import Derived.RangeFuncLeaves
import Derived.RangeFuncBox
import Derived.Shelf.Abstract
import Derived.Shelf.RegionOpen
import Derived.OwnWalkIn
import Derived.TacticsInMore
import Derived.LoopNIn
import Derived.LoopIn
namespace Go.Proofs.Ytkicekddkgehoaa.Hnd
open Go.RowKit Go.Proofs.Ytkicekddkgehoaa.QSlotLast Go.Proofs.YtkicekddkgehoaaW.PrintWords Go.Proofs.YtkicekddkgehoaaW.PrintLast Go.Proofs.YtkicekddkgehoaaW.Dk Go.Shelf
set_option linter.unusedVariables false
set_option linter.unusedSimpArgs false
end Go.Proofs.Ytkicekddkgehoaa.Hnd
namespace Go.Proofs.YtkicekddkgehoaaW.Dk
/-! Spans, in plain words: what is read of what was written, crashes and all. -/
namespace DS
theorem head_len (crc : List Int → Int) (tag : Int) (b : List Int) : (head crc tag b).length = 16 := by simp [head, four]
theorem head_0 {crc : List Int → Int} {tag : Int} {b : List Int} (h0 : 0 ≤ tag) (h1 : tag < 4294967296) : get4 (head crc tag b) = tag := by
  simp only [head, four, List.cons_append, List.nil_append, get4]
  omega
theorem head_4 {crc : List Int → Int} {tag : Int} {b : List Int} (hb : b.length < 4294967296) : get4 ((head crc tag b).drop 4) = b.length := by
  simp only [head, four, List.cons_append, List.nil_append, List.drop_succ_cons, List.drop_zero, get4]
  omega
theorem head_8 {crc : List Int → Int} {tag : Int} {b : List Int} (h0 : 0 ≤ crc b) (h1 : crc b < 4294967296) : get4 ((head crc tag b).drop 8) = crc b := by
  simp only [head, four, List.cons_append, List.nil_append, List.drop_succ_cons, List.drop_zero, get4]
  omega
theorem head_12 {crc : List Int → Int} {tag : Int} {b : List Int} (h0 : 0 ≤ tag) (h1 : tag < 4294967296) : get4 ((head crc tag b).drop 12) = tag := by
  simp only [head, four, List.cons_append, List.nil_append, List.drop_succ_cons, List.drop_zero, get4]
  omega
theorem chunkN_flat : ∀ (k : Nat) (b : List Int), b.length ≤ 16 * k → (chunkN k b).flatten.take b.length = b
  | 0, b, h => by
    obtain rfl : b = [] := List.eq_nil_of_length_eq_zero (by omega)
    rfl
  | k + 1, b, h => by
    rw [chunkN, List.flatten_cons]
    by_cases hb : b.length ≤ 16
    · rw [List.take_of_length_le hb, pad, List.append_assoc, List.take_append_of_le_length (Nat.le_refl _), List.take_length]
    · have h16 : (b.take 16).length = 16 := by rw [List.length_take]; omega
      have hp : pad (b.take 16) = b.take 16 := by
        unfold pad
        rw [h16]
        simp
      rw [hp, List.take_append, h16, List.take_of_length_le (by omega)]
      have := chunkN_flat k (b.drop 16) (by rw [List.length_drop]; omega)
      rw [List.length_drop] at this
      rw [this, List.take_append_drop]
theorem chunks_flat (b : List Int) : (chunks b).flatten.take b.length = b := chunkN_flat _ _ (by omega)
theorem chunks_len (b : List Int) : (chunks b).length = (b.length + 15) / 16 := chunkN_len _ _
theorem chunks_16 (b : List Int) : ∀ c ∈ chunks b, c.length = 16 := chunkN_16 _ _
theorem grab_eq {d : DS} : ∀ (cs : List (List Int)) (i : Int), (∀ j : Nat, j < cs.length → d.rd (i + j) = cs.getD j []) → grab d i cs.length = cs.flatten
  | [], i, h => rfl
  | c :: cs, i, h => by
    have h0 := h 0 (by simp)
    simp only [Int.natCast_zero, Int.add_zero, List.getD_cons_zero] at h0
    rw [List.length_cons, grab, List.flatten_cons, h0, grab_eq cs (i + 1) (fun j hj => by
      have := h (j + 1) (by simp; omega)
      rw [show i + 1 + (j : Int) = i + ((j + 1 : Nat) : Int) by omega, this, List.getD_cons_succ])]
theorem get_hit {crc : List Int → Int} {d : DS} {i room tag : Int} {b : List Int} (c0 : 0 ≤ crc b) (c1 : crc b < 4294967296) (t0 : 0 < tag) (t1 : tag < 4294967296) (hb : b.length < 4294967296)
    (hh : d.rd i = head crc tag b) (hc : ∀ j : Nat, j < (chunks b).length → d.rd (i + 1 + j) = (chunks b).getD j []) (hr : (need b.length : Int) ≤ room) (hs : (need b.length : Int) ≤ d.S.length - i) : get crc d i room = (tag, b, true) := by
  have e4 := head_4 (crc := crc) (tag := tag) hb
  have en : (need b.length) - 1 = (chunks b).length := by rw [chunks_len]; unfold need; omega
  unfold get
  rw [hh, if_neg (by rw [head_len]; simp), head_0 (by omega) t1, e4, head_8 c0 c1, head_12 (by omega) t1, Int.toNat_natCast, if_neg (by omega), en, grab_eq _ _ hc, chunks_flat, if_pos rfl]
theorem get_narrow {crc : List Int → Int} {d : DS} {i room tag : Int} {b : List Int} (hb : b.length < 4294967296) (hh : d.rd i = head crc tag b) (hr : room < (need b.length : Int)) : get crc d i room = (0, [], false) := by
  unfold get
  rw [hh, if_neg (by rw [head_len]; simp), head_4 hb, Int.toNat_natCast, if_pos (by omega)]
theorem get_zero {crc : List Int → Int} {d : DS} {i room : Int} (hh : get4 (d.rd i) = 0) : get crc d i room = (0, [], false) := by
  unfold get
  split
  · rfl
  · rw [if_pos (.inl hh)]
/-- What is got has its sector's number at both ends; or nothing is got. -/
theorem get_tag (crc : List Int → Int) (d : DS) (i room : Int) : get crc d i room = (0, [], false) ∨ ((get crc d i room).1 = get4 (d.rd i) ∧ get4 (d.rd i) = get4 ((d.rd i).drop 12) ∧ get4 (d.rd i) ≠ 0 ∧ (d.rd i).length = 16 ∧ (get crc d i room).2.2 = true) := by
  unfold get
  split
  · exact .inl rfl
  · rename_i h1
    split
    · exact .inl rfl
    · rename_i h2
      have hl : (d.rd i).length = 16 := Decidable.not_not.1 h1
      split
      · exact .inr ⟨rfl, by omega, by omega, hl, rfl⟩
      · exact .inl rfl
theorem grab_congr {d e : DS} : ∀ (k : Nat) (i : Int), (∀ j : Nat, j < k → e.rd (i + j) = d.rd (i + j)) → grab e i k = grab d i k
  | 0, i, h => rfl
  | k + 1, i, h => by
    have h0 := h 0 (by omega)
    simp only [Int.natCast_zero, Int.add_zero] at h0
    rw [grab, grab, h0, grab_congr (d := d) (e := e) k (i + 1) (fun j hj => by
      have := h (j + 1) (by omega)
      rwa [show i + 1 + (j : Int) = i + ((j + 1 : Nat) : Int) by omega])]
theorem get_congr {crc : List Int → Int} {d e : DS} {i room : Int} (hS : e.S.length = d.S.length) (h0 : e.rd i = d.rd i) (h : ∀ j : Nat, j + 1 < need (get4 ((d.rd i).drop 4)).toNat → e.rd (i + 1 + j) = d.rd (i + 1 + j)) : get crc e i room = get crc d i room := by
  unfold get
  rw [h0, hS, grab_congr (d := d) (e := e) (need (get4 ((d.rd i).drop 4)).toNat - 1) (i + 1) (fun j hj => h j (by omega))]
/-! Writes. -/
def idx (i : Nat) : List (List Int) → List (Int × List Int)
  | [] => []
  | c :: cs => ((i : Int), c) :: idx (i + 1) cs
def over (S : List (List Int)) (i : Nat) : List (List Int) → List (List Int)
  | [] => S
  | c :: cs => over (S.set i c) (i + 1) cs
theorem over_len : ∀ (cs S : List (List Int)) (i : Nat), (over S i cs).length = S.length
  | [], S, i => rfl
  | c :: cs, S, i => by rw [over, over_len cs, List.length_set]
theorem getD_set (S : List (List Int)) (i j : Nat) (c : List Int) (hi : i < S.length) : (S.set i c).getD j [] = if j = i then c else S.getD j [] := by
  rw [List.getD_eq_getElem?_getD, List.getD_eq_getElem?_getD, List.getElem?_set]
  by_cases h : i = j
  · subst h
    rw [if_pos rfl, if_pos hi, if_pos rfl]
    rfl
  · rw [if_neg h, if_neg (fun e => h e.symm)]
theorem over_get : ∀ (cs S : List (List Int)) (i j : Nat), i + cs.length ≤ S.length → (over S i cs).getD j [] = if i ≤ j ∧ j < i + cs.length then cs.getD (j - i) [] else S.getD j []
  | [], S, i, j, h => by
    rw [if_neg (by simp only [List.length_nil]; omega)]
    rfl
  | c :: cs, S, i, j, h => by
    rw [List.length_cons] at h
    rw [over, over_get cs _ (i + 1) j (by rw [List.length_set]; omega), getD_set _ _ _ _ (by omega), List.length_cons]
    by_cases h1 : j = i
    · subst h1
      rw [if_neg (by omega), if_pos rfl, if_pos (by omega), Nat.sub_self, List.getD_cons_zero]
    · rw [if_neg h1]
      by_cases h2 : i + 1 ≤ j ∧ j < i + 1 + cs.length
      · rw [if_pos h2, if_pos (by omega), show j - i = (j - (i + 1)) + 1 by omega, List.getD_cons_succ]
      · rw [if_neg h2, if_neg (by omega)]
theorem flushed_idx : ∀ (cs S : List (List Int)) (i : Nat), flushed S (idx i cs) = over S i cs
  | [], S, i => rfl
  | c :: cs, S, i => by rw [idx, flushed, Int.toNat_natCast, flushed_idx cs, over]
theorem idx_mem : ∀ (cs : List (List Int)) (i : Nat) (p : Int × List Int), p ∈ idx i cs → i ≤ p.1.toNat ∧ p.1.toNat < i + cs.length ∧ p.2 ∈ cs
  | [], i, p, h => by cases h
  | c :: cs, i, p, h => by
    rw [idx] at h
    rcases List.mem_cons.1 h with rfl | h
    · refine ⟨?_, ?_, List.mem_cons_self⟩ <;> simp
    · obtain ⟨h1, h2, h3⟩ := idx_mem cs (i + 1) p h
      exact ⟨by omega, by rw [List.length_cons]; omega, List.mem_cons_of_mem _ h3⟩
/-- Alike but from i to m. -/
def Alike (S S' : List (List Int)) (i m : Nat) : Prop := S'.length = S.length ∧ ∀ j, j < i ∨ m ≤ j → S'.getD j [] = S.getD j []
theorem Alike.refl (S : List (List Int)) (i m : Nat) : Alike S S i m := ⟨rfl, fun _ _ => rfl⟩
theorem Alike.trans {S T U : List (List Int)} {i m : Nat} (h : Alike S T i m) (k : Alike T U i m) : Alike S U i m := ⟨k.1.trans h.1, fun j hj => (k.2 j hj).trans (h.2 j hj)⟩
theorem Alike.mono {S T : List (List Int)} {i m i' m' : Nat} (h : Alike S T i m) (h1 : i' ≤ i) (h2 : m ≤ m') : Alike S T i' m' := ⟨h.1, fun j hj => h.2 j (by omega)⟩
theorem getD_set_ne (S : List (List Int)) (i j : Nat) (c : List Int) (hj : j ≠ i) : (S.set i c).getD j [] = S.getD j [] := by
  rw [List.getD_eq_getElem?_getD, List.getD_eq_getElem?_getD, List.getElem?_set, if_neg (fun e => hj e.symm)]
theorem Alike.set (S : List (List Int)) (i : Nat) (c : List Int) {a m : Nat} (h1 : a ≤ i) (h2 : i < m) : Alike S (S.set i c) a m :=
  ⟨List.length_set .., fun j hj => getD_set_ne _ _ _ _ (by omega)⟩
theorem Alike.over {S cs : List (List Int)} {i : Nat} (h : i + cs.length ≤ S.length) : Alike S (DS.over S i cs) i (i + cs.length) :=
  ⟨over_len _ _ _, fun j hj => by rw [over_get _ _ _ _ h, if_neg (by omega)]⟩
theorem spill_alike (left : List Int) {i m : Nat} : ∀ (P : List (Int × List Int)) (S : List (List Int)) (k : Nat), (∀ p ∈ P, i ≤ p.1.toNat ∧ p.1.toNat < m) → Alike S (spill left S P k) i m
  | [], S, k, h => Alike.refl _ _ _
  | p :: P, S, k, h => by
    obtain ⟨h1, h2⟩ := h p List.mem_cons_self
    exact (Alike.set S _ _ h1 h2).trans (spill_alike left P _ (k + 1) (fun q hq => h q (List.mem_cons_of_mem _ hq)))
/-- But for what is counted, sectors and writes. -/
theorem fl_cases (d : DS) (h : d.down = false) : (∃ N, d.fl = ({ d with S := flushed d.S d.P, P := [], N := N }, 0)) ∨ (d.armed = true ∧ d.fl = (d.crashed, 5)) := by
  unfold fl
  rw [if_neg (by simp [h])]
  by_cases hb : d.bad = true
  · rw [if_pos hb]
    exact .inr ⟨by unfold bad at hb; rw [Bool.and_eq_true] at hb; exact hb.1, rfl⟩
  · rw [if_neg hb]
    exact .inl ⟨_, rfl⟩
theorem wr_cases (d : DS) (h : d.down = false) (i : Nat) (b : List Int) (hb : b.length = 16) (hi : i < d.S.length) : (∃ N, d.wr i b = ({ d with P := d.P ++ [((i : Int), b)], N := N }, 0)) ∨ (d.armed = true ∧ d.wr i b = (d.crashed, 5)) := by
  unfold wr
  rw [if_neg (by simp [h]), if_neg (by simp [hb]), if_neg (by omega)]
  by_cases hb : d.bad = true
  · rw [if_pos hb]
    exact .inr ⟨by unfold bad at hb; rw [Bool.and_eq_true] at hb; exact hb.1, rfl⟩
  · rw [if_neg hb]
    exact .inl ⟨_, rfl⟩
theorem putC_cases : ∀ (cs : List (List Int)) (d : DS) (i : Nat), d.down = false → (∀ c ∈ cs, c.length = 16) → i + cs.length ≤ d.S.length →
    (∃ N, putC d i cs = ({ d with P := d.P ++ idx i cs, N := N }, 0)) ∨ (d.armed = true ∧ ∃ Q N, (∀ p ∈ Q, p ∈ d.P ++ idx i cs) ∧ putC d i cs = (({ d with P := Q, N := N } : DS).crashed, 5))
  | [], d, i, h, hc, hl => .inl ⟨d.N, by rw [putC, idx, List.append_nil]⟩
  | c :: cs, d, i, h, hc, hl => by
    rw [List.length_cons] at hl
    rcases wr_cases d h i c (hc c List.mem_cons_self) (by omega) with ⟨N, e⟩ | ⟨ha, e⟩
    · rw [putC, e, if_pos rfl]
      rcases putC_cases cs { d with P := d.P ++ [((i : Int), c)], N := N } (i + 1) h (fun x hx => hc x (List.mem_cons_of_mem _ hx)) (by show i + 1 + cs.length ≤ d.S.length; omega) with ⟨M, e2⟩ | ⟨ha, Q, M, hQ, e2⟩
      · refine .inl ⟨M, ?_⟩
        rw [show (i : Int) + 1 = ((i + 1 : Nat) : Int) by omega, e2, idx]
        simp
      · refine .inr ⟨ha, Q, M, fun p hp => ?_, ?_⟩
        · have := hQ p hp
          rw [idx]
          simpa using this
        · rw [show (i : Int) + 1 = ((i + 1 : Nat) : Int) by omega, e2]
    · refine .inr ⟨ha, d.P, d.N, fun p hp => List.mem_append_left _ hp, ?_⟩
      rw [putC, e, if_neg (by simp)]
/-- What a head's writing leaves. -/
def HeadRes (d : DS) (i : Nat) (h : List Int) (r : DS × Int) : Prop :=
  r.1.P = [] ∧ r.1.armed = d.armed ∧ r.1.at_ = d.at_ ∧ r.1.left = d.left ∧ Alike d.S r.1.S i (i + 1) ∧
    ((r.2 = 0 ∧ r.1.down = false ∧ r.1.S.getD i [] = h) ∨ (d.armed = true ∧ r.2 = 5 ∧ r.1.down = true ∧ ∃ n, n ≤ 16 ∧ r.1.S.getD i [] = lay h (d.S.getD i []) n))
theorem lay_0 (h s : List Int) : lay h s 0 = s := by simp [lay]
theorem puth_res (d : DS) (hd : d.down = false) (hP : d.P = []) (i : Nat) (h : List Int) (hl : h.length = 16) (hi : i < d.S.length) : HeadRes d i h (puth d i h) := by
  unfold puth
  rcases wr_cases d hd i h hl hi with ⟨N, e⟩ | ⟨ha, e⟩
  · rw [e, if_pos rfl]
    rcases fl_cases { d with P := d.P ++ [((i : Int), h)], N := N } hd with ⟨M, e2⟩ | ⟨ha, e2⟩
    · rw [e2]
      refine ⟨rfl, rfl, rfl, rfl, ?_, .inl ⟨rfl, hd, ?_⟩⟩
      · show Alike d.S (flushed d.S (d.P ++ [((i : Int), h)])) i (i + 1)
        rw [hP]
        exact Alike.set _ _ _ (by simp) (by simp)
      · show (flushed d.S (d.P ++ [((i : Int), h)])).getD i [] = h
        rw [hP, List.nil_append, flushed, flushed, Int.toNat_natCast, getD_set _ _ _ _ hi, if_pos rfl]
    · rw [e2]
      refine ⟨rfl, rfl, rfl, rfl, ?_, .inr ⟨ha, rfl, rfl, keepN d.left 0, keepN_le _ _, ?_⟩⟩
      · show Alike d.S (spill d.left d.S (d.P ++ [((i : Int), h)]) 0) i (i + 1)
        rw [hP]
        exact Alike.set _ _ _ (by simp) (by simp)
      · show (spill d.left d.S (d.P ++ [((i : Int), h)]) 0).getD i [] = _
        rw [hP, List.nil_append, spill, spill, Int.toNat_natCast, getD_set _ _ _ _ hi, if_pos rfl]
  · rw [e, if_neg (by simp)]
    refine ⟨rfl, rfl, rfl, rfl, ?_, .inr ⟨ha, rfl, rfl, 0, by omega, ?_⟩⟩
    · show Alike d.S (spill d.left d.S d.P 0) i (i + 1)
      rw [hP]
      exact Alike.refl _ _ _
    · show (spill d.left d.S d.P 0).getD i [] = _
      rw [hP, lay_0]
      rfl
/-- What a span's writing leaves. -/
def PutRes (crc : List Int → Int) (d : DS) (i : Nat) (tag : Int) (b : List Int) (r : DS × Int) : Prop :=
  r.1.P = [] ∧ r.1.armed = d.armed ∧ r.1.at_ = d.at_ ∧ r.1.left = d.left ∧ Alike d.S r.1.S i (i + need b.length) ∧
    ((r.2 = 0 ∧ r.1.down = false ∧ r.1.S.getD i [] = head crc tag b ∧ ∀ k, k < (chunks b).length → r.1.S.getD (i + 1 + k) [] = (chunks b).getD k []) ∨
      (d.armed = true ∧ r.2 = 5 ∧ r.1.down = true ∧ (r.1.S.getD i [] = d.S.getD i [] ∨ ((∃ n, n ≤ 16 ∧ r.1.S.getD i [] = lay (head crc tag b) (d.S.getD i []) n) ∧ ∀ k, k < (chunks b).length → r.1.S.getD (i + 1 + k) [] = (chunks b).getD k []))))
theorem put_full (crc : List Int → Int) (d : DS) (i room tag : Int) (b : List Int) (h : room < (need b.length : Int)) : put crc d i room tag b = (d, 4) := by
  unfold put
  rw [if_pos h]
theorem put_res (crc : List Int → Int) (d : DS) (hd : d.down = false) (hP : d.P = []) (i : Nat) (room tag : Int) (b : List Int) (hr : (need b.length : Int) ≤ room) (hi : i + need b.length ≤ d.S.length) : PutRes crc d i tag b (put crc d i room tag b) := by
  have hn : need b.length = 1 + (chunks b).length := by rw [chunks_len]; rfl
  have e1 : (i : Int) + 1 = ((i + 1 : Nat) : Int) := by omega
  unfold put
  rw [if_neg (by omega), e1]
  rcases putC_cases (chunks b) d (i + 1) hd (chunks_16 b) (by omega) with ⟨N, e⟩ | ⟨ha, Q, N, hQ, e⟩
  · rw [e, if_pos rfl]
    rcases fl_cases { d with P := d.P ++ idx (i + 1) (chunks b), N := N } hd with ⟨M, e2⟩ | ⟨ha, e2⟩
    · rw [e2, if_pos rfl]
      have hS : flushed d.S (d.P ++ idx (i + 1) (chunks b)) = over d.S (i + 1) (chunks b) := by rw [hP, List.nil_append, flushed_idx]
      have hA : Alike d.S (over d.S (i + 1) (chunks b)) (i + 1) (i + 1 + (chunks b).length) := Alike.over (by omega)
      show PutRes crc d i tag b (puth { d with S := flushed d.S (d.P ++ idx (i + 1) (chunks b)), P := [], N := M } i (head crc tag b))
      rw [hS]
      have hr := puth_res { d with S := over d.S (i + 1) (chunks b), P := [], N := M } hd rfl i (head crc tag b) (head_len _ _ _) (by show i < (over d.S _ _).length; rw [over_len]; omega)
      obtain ⟨r1, r2, r3, r4, hA5, r6⟩ := hr
      have hold : (over d.S (i + 1) (chunks b)).getD i [] = d.S.getD i [] := hA.2 i (by omega)
      have hck : ∀ k, k < (chunks b).length → (over d.S (i + 1) (chunks b)).getD (i + 1 + k) [] = (chunks b).getD k [] := fun k hk => by
        rw [over_get _ _ _ _ (by omega), if_pos (by omega)]
        congr 1
        omega
      refine ⟨r1, r2, r3, r4, (hA.mono (by omega) (by omega)).trans (hA5.mono (by omega) (by omega)), ?_⟩
      rcases r6 with ⟨q1, q2, q3⟩ | ⟨q0, q1, q2, n, q3, q4⟩
      · exact .inl ⟨q1, q2, q3, fun k hk => (hA5.2 _ (by omega)).trans (hck k hk)⟩
      · refine .inr ⟨q0, q1, q2, .inr ⟨⟨n, q3, q4.trans ?_⟩, fun k hk => (hA5.2 _ (by omega)).trans (hck k hk)⟩⟩
        rw [hold]
    · rw [e2, if_neg (by simp)]
      have hA : Alike d.S (spill d.left d.S (d.P ++ idx (i + 1) (chunks b)) 0) (i + 1) (i + 1 + (chunks b).length) := spill_alike _ _ _ _ (fun p hp => by
        rw [hP, List.nil_append] at hp
        exact ⟨(idx_mem _ _ _ hp).1, (idx_mem _ _ _ hp).2.1⟩)
      exact ⟨rfl, rfl, rfl, rfl, hA.mono (by omega) (by omega), .inr ⟨ha, rfl, rfl, .inl (hA.2 i (by omega))⟩⟩
  · rw [e, if_neg (by simp)]
    have hA : Alike d.S (spill d.left d.S Q 0) (i + 1) (i + 1 + (chunks b).length) := spill_alike _ _ _ _ (fun p hp => by
      have hp := hQ p hp
      rw [hP, List.nil_append] at hp
      exact ⟨(idx_mem _ _ _ hp).1, (idx_mem _ _ _ hp).2.1⟩)
    exact ⟨rfl, rfl, rfl, rfl, hA.mono (by omega) (by omega), .inr ⟨ha, rfl, rfl, .inl (hA.2 i (by omega))⟩⟩
theorem rd_nil {d : DS} (hP : d.P = []) (i : Nat) : d.rd (i : Int) = d.S.getD i [] := by
  unfold rd
  rw [hP]
  split
  · rfl
  · rw [List.getD_eq_getElem?_getD, List.getElem?_eq_none (by omega)]
    rfl
/-- A head that is laid over another one in part, and is of its tag at both ends, is it. -/
theorem lay_whole {crc : List Int → Int} {s t : Int} {b : List Int} {n : Nat} (hn : n ≤ 16) (t0 : 0 ≤ t) (t1 : t < 4294967296) (hst : s ≠ t) (old : List Int) (ho : old.length = 16) (hob : Bytes old) (hos : get4 (old.drop 12) = s)
    (h12 : get4 ((lay (head crc t b) old n).drop 12) = t) : lay (head crc t b) old n = head crc t b := by
  have hh := head_len crc t b
  have hl : (lay (head crc t b) old n).length = 16 := lay_len hh ho hn
  by_cases h : n ≤ 12
  · exfalso
    have e : (lay (head crc t b) old n).drop 12 = old.drop 12 := by
      unfold lay
      rw [List.drop_append, List.length_take, hh, List.drop_of_length_le (by rw [List.length_take]; omega), List.nil_append, List.drop_drop]
      congr 1
      omega
    rw [e, hos] at h12
    exact hst h12
  · have e12 : (lay (head crc t b) old n).take 12 = (head crc t b).take 12 := by
      unfold lay
      rw [List.take_append_of_le_length (by rw [List.length_take]; omega), List.take_take, Nat.min_eq_left (by omega)]
    have hd12 : (head crc t b).drop 12 = four t := by simp [head, four]
    have hbl : Bytes ((lay (head crc t b) old n).drop 12) := fun x hx => by
      unfold lay at hx
      rw [List.drop_append] at hx
      rcases List.mem_append.1 hx with hx | hx
      · have : x ∈ (head crc t b).drop 12 := by
          rw [List.drop_take] at hx
          exact List.mem_of_mem_take hx
        rw [hd12] at this
        exact four_bytes t x this
      · exact hob x (List.mem_of_mem_drop (List.mem_of_mem_drop hx))
    have e4 : (lay (head crc t b) old n).drop 12 = (head crc t b).drop 12 := by
      rw [hd12]
      refine get4_inj hbl (four_bytes t) (by rw [List.length_drop, hl]) (four_len t) ?_
      rw [h12]
      have := get4_four t0 t1 []
      rw [List.append_nil] at this
      exact this.symm
    rw [← List.take_append_drop 12 (lay (head crc t b) old n), e12, e4, List.take_append_drop]
/-! All that lies on a disk is bytes. -/
def AllB (d : DS) : Prop := (∀ s ∈ d.S, Bytes s) ∧ ∀ p ∈ d.P, Bytes p.2
theorem bytes_nil : Bytes [] := fun x hx => by cases hx
theorem bytes_zero (n : Nat) : Bytes (List.replicate n 0) := fun x hx => by rw [List.eq_of_mem_replicate hx]; omega
theorem bytes_app {a b : List Int} (ha : Bytes a) (hb : Bytes b) : Bytes (a ++ b) := fun x hx => (List.mem_append.1 hx).elim (ha x) (hb x)
theorem bytes_take {a : List Int} (ha : Bytes a) (n : Nat) : Bytes (a.take n) := fun x hx => ha x (List.mem_of_mem_take hx)
theorem bytes_drop {a : List Int} (ha : Bytes a) (n : Nat) : Bytes (a.drop n) := fun x hx => ha x (List.mem_of_mem_drop hx)
theorem bytes_getD {S : List (List Int)} (h : ∀ s ∈ S, Bytes s) (i : Nat) : Bytes (S.getD i []) := by
  by_cases hi : i < S.length
  · rw [List.getD_eq_getElem?_getD, List.getElem?_eq_getElem hi]
    exact h _ (List.getElem_mem hi)
  · rw [List.getD_eq_getElem?_getD, List.getElem?_eq_none (by omega)]
    exact bytes_nil
theorem bytes_set {S : List (List Int)} (h : ∀ s ∈ S, Bytes s) (i : Nat) {c : List Int} (hc : Bytes c) : ∀ s ∈ S.set i c, Bytes s := fun s hs => (List.mem_or_eq_of_mem_set hs).elim (h s) (fun e => by rw [e]; exact hc)
theorem spill_bytes (left : List Int) : ∀ (P : List (Int × List Int)) (S : List (List Int)) (k : Nat), (∀ s ∈ S, Bytes s) → (∀ p ∈ P, Bytes p.2) → ∀ s ∈ spill left S P k, Bytes s
  | [], _, _, h, _ => h
  | p :: P, _, k, h, hp => spill_bytes left P _ (k + 1) (bytes_set h _ (bytes_app (bytes_take (hp p List.mem_cons_self) _) (bytes_drop (bytes_getD h _) _))) (fun q hq => hp q (List.mem_cons_of_mem _ hq))
theorem flushed_bytes : ∀ (P : List (Int × List Int)) (S : List (List Int)), (∀ s ∈ S, Bytes s) → (∀ p ∈ P, Bytes p.2) → ∀ s ∈ flushed S P, Bytes s
  | [], _, h, _ => h
  | p :: P, _, h, hp => flushed_bytes P _ (bytes_set h _ (hp p List.mem_cons_self)) (fun q hq => hp q (List.mem_cons_of_mem _ hq))
theorem crashed_bytes {d : DS} (h : d.AllB) : d.crashed.AllB := ⟨spill_bytes _ _ _ _ h.1 h.2, fun p hp => by cases hp⟩
theorem wr_bytes {d : DS} (h : d.AllB) (i : Int) {b : List Int} (hb : Bytes b) : (d.wr i b).1.AllB := by
  unfold wr
  split
  · exact h
  split
  · exact h
  split
  · exact h
  split
  · exact crashed_bytes h
  · exact ⟨h.1, fun p hp => (List.mem_append.1 hp).elim (h.2 p) (fun e => by rw [List.mem_singleton.1 e]; exact hb)⟩
theorem fl_bytes {d : DS} (h : d.AllB) : d.fl.1.AllB := by
  unfold fl
  split
  · exact h
  split
  · exact crashed_bytes h
  · exact ⟨flushed_bytes _ _ h.1 h.2, fun p hp => by cases hp⟩
theorem putC_bytes : ∀ (cs : List (List Int)) (d : DS) (i : Int), d.AllB → (∀ c ∈ cs, Bytes c) → (putC d i cs).1.AllB
  | [], d, i, h, hc => h
  | c :: cs, d, i, h, hc => by
    rw [putC]
    split
    · exact putC_bytes cs _ _ (wr_bytes h i (hc c List.mem_cons_self)) (fun x hx => hc x (List.mem_cons_of_mem _ hx))
    · exact wr_bytes h i (hc c List.mem_cons_self)
theorem puth_bytes {d : DS} (h : d.AllB) (i : Int) {b : List Int} (hb : Bytes b) : (puth d i b).1.AllB := by
  unfold puth
  split
  · exact fl_bytes (wr_bytes h i hb)
  · exact wr_bytes h i hb
theorem chunkN_bytes : ∀ (k : Nat) (b : List Int), Bytes b → ∀ c ∈ chunkN k b, Bytes c
  | 0, b, h, c, hc => by cases hc
  | k + 1, b, h, c, hc => by
    rw [chunkN] at hc
    rcases List.mem_cons.1 hc with rfl | hc
    · exact bytes_app (bytes_take h _) (bytes_zero _)
    · exact chunkN_bytes k _ (bytes_drop h _) c hc
theorem head_bytes (crc : List Int → Int) (tag : Int) (b : List Int) : Bytes (head crc tag b) := bytes_app (bytes_app (bytes_app (four_bytes _) (four_bytes _)) (four_bytes _)) (four_bytes _)
theorem put_bytes {crc : List Int → Int} {d : DS} (h : d.AllB) (i room tag : Int) {b : List Int} (hb : Bytes b) : (put crc d i room tag b).1.AllB := by
  have hc := putC_bytes (chunks b) d (i + 1) h (chunkN_bytes _ _ hb)
  unfold put
  split
  · exact h
  split
  · split
    · exact puth_bytes (fl_bytes hc) i (head_bytes _ _ _)
    · exact fl_bytes hc
  · exact hc
theorem new_bytes (n : Nat) : (new n).AllB := ⟨fun s hs => by rw [List.eq_of_mem_replicate hs]; exact bytes_zero 16, fun p hp => by cases hp⟩
theorem arm_bytes {d : DS} (h : d.AllB) (a : Int) (l : List Int) : (d.arm a l).AllB := h
theorem restart_bytes {d : DS} (h : d.AllB) : d.restart.AllB := ⟨h.1, fun p hp => by cases hp⟩
theorem lastP_bytes {i : Int} : ∀ {P : List (Int × List Int)} {b : List Int}, (∀ p ∈ P, Bytes p.2) → lastP i P = some b → Bytes b
  | [], b, _, h => by cases h
  | p :: P, b, hf, h => by
    rw [lastP] at h
    cases hl : lastP i P with
    | some c => rw [hl] at h; simp at h; rw [← h]; exact lastP_bytes (fun q hq => hf q (List.mem_cons_of_mem _ hq)) hl
    | none =>
      rw [hl] at h
      simp at h
      rw [← h.2]
      exact hf p List.mem_cons_self
theorem rd_bytes {d : DS} (h : d.AllB) (i : Int) : Bytes (d.rd i) := by
  unfold rd
  split
  · cases hl : lastP i d.P with
    | none => exact bytes_getD h.1 _
    | some b => exact lastP_bytes h.2 hl
  · exact bytes_nil
end DS
end Go.Proofs.YtkicekddkgehoaaW.Dk
namespace Go.Proofs.Ytkicekddkgehoaa.Hnd
open Go.RowKit Go.Proofs.Ytkicekddkgehoaa.QSlotLast Go.Proofs.YtkicekddkgehoaaW.PrintWords Go.Proofs.YtkicekddkgehoaaW.PrintLast Go.Proofs.YtkicekddkgehoaaW.Dk Go.Shelf
end Go.Proofs.Ytkicekddkgehoaa.Hnd
