/- Contracts of the calls, by hand. -/
import Derived.Test.YtkicekddkgehoaaDoorQMarkBytesx2
import Derived.Test.YtkicekddkgehoaaDoorNet3
import Derived.RangeFuncNested
import Derived.RangeFuncBound
import Derived.RangeFuncCalls
import Derived.RangeFuncLeaves
import Derived.RangeFuncBox
import Derived.Shelf.Abstract
import Derived.Shelf.RegionOpen
import Derived.OwnWalkIn
import Derived.TacticsInMore
import Derived.LoopNIn
import Derived.LoopIn
import Derived.Sort.QuietIn
import Derived.Sort.CutIn
import Derived.Stop.RegionWithIn
import Derived.StillTailTactics
import Derived.Shelf.Strconv.AppendIntPublic10
import Derived.Shelf.Strconv.ErrVarParseInt
import Derived.Shelf.Bytes.IndexByte
import Derived.Lib.ItoaLen
import Derived.Lib.ParseIntBTie
import Derived.Lib.AtoiBound
namespace Go.Proofs.YtkicekddkgehoaaDoor.Hnd
open Go.RowKit Go.Proofs.YtkicekddkgehoaaDoor.QMarkBytes Go.Proofs.YtkicekddkgehoaaDoorW.PrintWords Go.Proofs.YtkicekddkgehoaaDoorW.PrintLast  Go.Shelf
set_option linter.unusedVariables false
set_option linter.unusedSimpArgs false
attribute [local go_sem] Oper.semAt_some
/-! The Reader's calls. -/
theorem tk_le (b : List Int) : (tk b).2.1 ≤ b.length := by
  unfold tk
  cases h : NT.take b with
  | none => exact Nat.zero_le _
  | some p => exact (NT.take_some h).2.2.2
set_option maxHeartbeats 4000000 in
set_option maxRecDepth 100000 in
theorem rnum_c {W : World} {bad : List Nat} {g : Nat} {b : List Int} (h : NR 83 True W bad g b) (hT : NTabs W) (hl : b.length ≤ 1099511627776) :
    Calls Tryd.prog 27 #[.pointer (some ⟨g, 0, none⟩)] W fun e w' => e = .returned (.tuple #[.int .i64 (tk b).1, .bool (tk b).2.2]) ∧ NR 83 True w' bad g (b.drop (tk b).2.1) ∧ KeptB (fun k => k = g) W w' := by
  obtain ⟨A, c, h1, h2, h3, h4, h5, h6, h7⟩ := h
  have hm := tk_le b
  have hN := nnum_c h4 h3 (h6 trivial) h5 hl hT
  obtain ⟨n, k, ok, hq⟩ : ∃ n k ok, tk b = (n, k, ok) := ⟨_, _, _, rfl⟩
  rw [hq] at hm hN ⊢
  dsimp only at hm hN ⊢
  have HN := Aside0.mk hN
  have hd := run_drop A c b.length k hm
  have hlt : g < W.heap.size := (Array.getElem?_eq_some_iff.1 h1).1
  have z : W.cell? ⟨g, 0, none⟩ = some (.slice A b.length c) := (blk_cell h1 0).trans rfl
  have HLT := Aside0.mk hlt
  have H1 := Aside0.mk h1
  have H2 := Aside0.mk h2
  have H3 := Aside0.mk h3
  have H4 := Aside0.mk h4
  have H5 := Aside0.mk h5
  have H6 := Aside0.mk h6
  have H7 := Aside0.mk h7
  have HM := Aside0.mk hm
  clear hN hlt h1 h2 h3 h4 h5 h6 h7 hm hq hl hT
  go_enter Tryd.func27, Tryd.ntmps27
  go_wp2_with (go_at_call 44; refine HN.out.mono ?_; rintro e w1 ⟨rfl, hB⟩; have B1 := Aside0.mk hB; (have hh := (hB.block g HLT.out).trans H1.out); have z1 : w1.cell? ⟨g, 0, none⟩ = some (.slice A b.length c) := (blk_cell hh 0).trans rfl; have fz := blk_frozen hh 0; have HH := Aside0.mk hh; clear hB hh)
  have hc := NR.cut (W := w1) (g := g) (bad := bad) (pl := True) HH.out H2.out H3.out (Kd.C_below H4.out B1.out) H5.out H6.out (fun ad e hp => ⟨(H7.out ad e hp).1, Nat.lt_of_lt_of_le (H7.out ad e hp).2 B1.out.size⟩) k HM.out
  exact bodyPost_ret (v := .tuple #[.int .i64 n, .bool ok]) (by simp [results, Tryd.results27, go_sem]) rfl ⟨rfl, hc.1, (KeptB.of_below B1.out _).trans hc.2⟩
theorem wrap_two (k n : Nat) (h : k + n ≤ 1099511627776) : wrap64 ((k : Int) + (n : Int)) = (k : Int) + (n : Int) ∧ IntKind.i64.wrap ((k : Int) + (n : Int)) = (k : Int) + (n : Int) :=
  ⟨by unfold wrap64; omega, by rw [IntKind.wrap_i64]; omega⟩
theorem wrap_less (n k : Nat) (h : n ≤ 1099511627776) (hk : k ≤ n) : wrap64 ((n : Int) - (k : Int)) = ((n - k : Nat) : Int) ∧ IntKind.i64.wrap ((n : Int) - (k : Int)) = ((n - k : Nat) : Int) :=
  ⟨by unfold wrap64; omega, by rw [IntKind.wrap_i64]; omega⟩
def tT (b : List Int) : List Int × Nat × Bool := match NT.takeT b with | some p => (p.1, p.2, true) | none => ([], 0, false)
theorem tT_none {b : List Int} (h : tk b = (0, 0, false)) : tT b = ([], 0, false) := by
  unfold tk at h
  unfold tT NT.takeT
  cases e : NT.take b with
  | none => rfl
  | some p =>
    rw [e] at h
    injection h with _ h
    injection h with _ h
    cases h
theorem tk_cases (b : List Int) : tk b = (0, 0, false) ∨ ∃ n k, tk b = (n, k, true) ∧ NT.take b = some (n, k) ∧ NT.Rng n ∧ k ≤ b.length := by
  unfold tk
  cases e : NT.take b with
  | none => exact .inl rfl
  | some p =>
    obtain ⟨n, k⟩ := p
    have h := NT.take_some e
    exact .inr ⟨n, k, rfl, rfl, h.1, h.2.2.2⟩
theorem tT_some {b : List Int} {n : Int} {k : Nat} (h : NT.take b = some (n, k)) : tT b = if 0 ≤ n ∧ n ≤ ((b.length - k : Nat) : Int) then ((b.drop k).take n.toNat, k + n.toNat, true) else ([], 0, false) := by
  unfold tT NT.takeT
  rw [h]
  show (match (if 0 ≤ n ∧ n ≤ ((b.length - k : Nat) : Int) then some ((b.drop k).take n.toNat, k + n.toNat) else none) with | some p => (p.1, p.2, true) | none => ([], 0, false)) = _
  by_cases hc : 0 ≤ n ∧ n ≤ ((b.length - k : Nat) : Int)
  · rw [if_pos hc, if_pos hc]
  · rw [if_neg hc, if_neg hc]
def TextPost (W : World) (bad : List Nat) (g : Nat) (b : List Int) (r : List Int × Nat × Bool) (e : Ending) (w' : World) : Prop :=
  e = .returned (.tuple #[.string (strOfNums r.1), .bool r.2.2]) ∧ NR 83 True w' bad g (b.drop r.2.1) ∧ KeptB (fun k => k = g) W w'
theorem strOf_nil : strOfNums [] = ⟨#[]⟩ := rfl
set_option maxHeartbeats 4000000 in
set_option maxRecDepth 100000 in
theorem rtext_c {W : World} {bad : List Nat} {g : Nat} {b : List Int} (h : NR 83 True W bad g b) (hT : NTabs W) (hl : b.length ≤ 1099511627776) :
    Calls Tryd.prog 28 #[.pointer (some ⟨g, 0, none⟩)] W (TextPost W bad g b (tT b)) := by
  have HW := Aside0.mk h
  obtain ⟨A, c, h1, h2, h3, h4, h5, h6, h7⟩ := h
  have hN := nnum_c h4 h3 (h6 trivial) h5 hl hT
  have hlt : g < W.heap.size := (Array.getElem?_eq_some_iff.1 h1).1
  have z : W.cell? ⟨g, 0, none⟩ = some (.slice A b.length c) := (blk_cell h1 0).trans rfl
  have HLT := Aside0.mk hlt
  have H1 := Aside0.mk h1
  have H2 := Aside0.mk h2
  have H3 := Aside0.mk h3
  have H4 := Aside0.mk h4
  have H5 := Aside0.mk h5
  have H6 := Aside0.mk h6
  have H7 := Aside0.mk h7
  rcases tk_cases b with hq | ⟨n, k, hq, ht, hr, hk⟩
  · rw [hq] at hN
    rw [tT_none hq]
    have HN := Aside0.mk hN
    unfold TextPost
    dsimp only at HN ⊢
    rw [strOf_nil]
    clear hN hlt h1 h2 h3 h4 h5 h6 h7 hq hl hT
    go_enter Tryd.func28, Tryd.ntmps28
    go_wp2_with (go_at_call 44; refine HN.out.mono ?_; rintro e w1 ⟨rfl, hB⟩; have B1 := Aside0.mk hB; clear hB)
    exact bodyPost_ret (v := .tuple #[.string ⟨#[]⟩, .bool false]) (by simp [results, Tryd.results28, go_sem]) rfl ⟨rfl, HW.out.after B1.out, KeptB.of_below B1.out _⟩
  · rw [hq] at hN
    dsimp only at hN
    obtain ⟨m, hmq⟩ : ∃ m, b.length - k = m := ⟨_, rfl⟩
    obtain ⟨hw1, hw2⟩ := wrap_less b.length k hl hk
    rw [hmq] at hw1 hw2
    have htt := tT_some ht
    rw [hmq] at htt
    have HN := Aside0.mk hN
    by_cases hc : 0 ≤ n ∧ n ≤ (m : Int)
    · rw [if_pos hc] at htt
      rw [htt]
      obtain ⟨nn, rfl⟩ := Int.eq_ofNat_of_zero_le hc.1
      rw [Int.toNat_natCast]
      have hnm : nn ≤ m := Int.ofNat_le.1 hc.2
      have hkn1 : k + nn ≤ b.length := by clear htt; omega
      have hkn2 : k + nn ≤ 1099511627776 := Nat.le_trans hkn1 hl
      have d1 : decide ((nn : Int) < 0) = false := decide_eq_false (by omega)
      have d2 : decide ((nn : Int) > (m : Int)) = false := decide_eq_false (by omega)
      have d3 : decide ((m : Int) < (nn : Int)) = false := decide_eq_false (by omega)
      have d4 : decide (m < nn) = false := decide_eq_false (by omega)
      have hd := run_drop A c b.length k hk
      rw [hmq] at hd
      have htk := run_take (cutA A c k) (c - k) m nn (by clear htt; omega)
      have hd2 := run_drop A c b.length (k + nn) hkn1
      rw [Int.natCast_add] at hd2
      obtain ⟨hw3, hw4⟩ := wrap_two k nn hkn2
      have HC6 := Aside0.mk (take_C (m := nn) (cut_C h4 hk h3) (by rw [List.length_drop]; omega))
      have HKN := Aside0.mk hkn1
      obtain ⟨s, hs⟩ : ∃ s, strOfNums ((b.drop k).take nn) = s := ⟨_, rfl⟩
      have HS := Aside0.mk hs
      unfold TextPost
      dsimp only
      rw [hs]
      clear hN hlt h1 h2 h3 h4 h5 h6 h7 hq hl hT hc ht hr htt hmq hs hk hnm hkn1 hkn2
      go_enter Tryd.func28, Tryd.ntmps28
      go_upto_region 4 with (go_at_call 44; refine HN.out.mono ?_; rintro e w1 ⟨rfl, hB⟩; have B1 := Aside0.mk hB; (have hh := (hB.block g HLT.out).trans H1.out); have z1 : w1.cell? ⟨g, 0, none⟩ = some (.slice A b.length c) := (blk_cell hh 0).trans rfl; have fz := blk_frozen hh 0; have HH := Aside0.mk hh; (have hcv := conv_str (c := c - k) (Kd.C_below HC6.out hB)); rw [HS.out] at hcv; clear hB hh)
      go_wp2
      have hc := NR.cut (W := w1) (g := g) (bad := bad) (pl := True) HH.out H2.out H3.out (Kd.C_below H4.out B1.out) H5.out H6.out (fun ad e hp => ⟨(H7.out ad e hp).1, Nat.lt_of_lt_of_le (H7.out ad e hp).2 B1.out.size⟩) (k + nn) HKN.out
      exact bodyPost_ret (v := .tuple #[.string s, .bool true]) (by simp [results, Tryd.results28, go_sem]) rfl ⟨rfl, hc.1, (KeptB.of_below B1.out _).trans hc.2⟩
    · rw [if_neg hc] at htt
      rw [htt]
      unfold TextPost
      dsimp only
      rw [strOf_nil]
      by_cases h0 : n < 0
      · have d1 : decide (n < 0) = true := decide_eq_true h0
        clear hN hlt h1 h2 h3 h4 h5 h6 h7 hq hl hT hc ht hr htt hmq hk h0
        go_enter Tryd.func28, Tryd.ntmps28
        go_wp2_with (go_at_call 44; refine HN.out.mono ?_; rintro e w1 ⟨rfl, hB⟩; have B1 := Aside0.mk hB; clear hB)
        exact bodyPost_ret (v := .tuple #[.string ⟨#[]⟩, .bool false]) (by simp [results, Tryd.results28, go_sem]) rfl ⟨rfl, HW.out.after B1.out, KeptB.of_below B1.out _⟩
      · have d1 : decide (n < 0) = false := decide_eq_false h0
        have d2 : decide (n > (m : Int)) = true := decide_eq_true (by omega)
        have d3 : decide ((m : Int) < n) = true := decide_eq_true (by omega)
        clear hN hlt h1 h2 h3 h4 h5 h6 h7 hq hl hT hc ht hr htt hmq hk h0
        go_enter Tryd.func28, Tryd.ntmps28
        go_wp2_with (go_at_call 44; refine HN.out.mono ?_; rintro e w1 ⟨rfl, hB⟩; have B1 := Aside0.mk hB; (have z1 := (cell_of_heap (p := ⟨g, 0, none⟩) (hB.block g HLT.out)).trans ((blk_cell H1.out 0).trans rfl : W.cell? ⟨g, 0, none⟩ = some (.slice A b.length c))); clear hB)
        exact bodyPost_ret (v := .tuple #[.string ⟨#[]⟩, .bool false]) (by simp [results, Tryd.results28, go_sem]) rfl ⟨rfl, HW.out.after B1.out, KeptB.of_below B1.out _⟩
end Go.Proofs.YtkicekddkgehoaaDoor.Hnd
