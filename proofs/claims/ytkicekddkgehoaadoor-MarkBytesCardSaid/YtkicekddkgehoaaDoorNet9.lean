/- Contracts of the calls, by hand. -/
import Derived.Test.YtkicekddkgehoaaDoorQMarkBytesx2
import Derived.Test.YtkicekddkgehoaaDoorNet8
import Derived.RangeFuncNested
import Derived.RangeFuncBound
import Derived.RangeFuncCalls
import Derived.RangeFuncLeaves
import Derived.RangeFuncBox
import Derived.Shelf.Abstract
import Derived.Shelf.RegionOpen
import Derived.OwnWalkIn
import Derived.TacticsInMore
import Derived.LoopNIn
import Derived.LoopIn
import Derived.Sort.QuietIn
import Derived.Sort.CutIn
import Derived.Stop.RegionWithIn
import Derived.StillTailTactics
import Derived.Shelf.Strconv.AppendIntPublic10
import Derived.Shelf.Strconv.ErrVarParseInt
import Derived.Shelf.Bytes.IndexByte
import Derived.Lib.ItoaLen
import Derived.Lib.ParseIntBTie
import Derived.Lib.AtoiBound
namespace Go.Proofs.YtkicekddkgehoaaDoor.Hnd
open Go.RowKit Go.Proofs.YtkicekddkgehoaaDoor.QMarkBytes Go.Proofs.YtkicekddkgehoaaDoorW.PrintWords Go.Proofs.YtkicekddkgehoaaDoorW.PrintLast  Go.Shelf
set_option linter.unusedVariables false
set_option linter.unusedSimpArgs false
attribute [local go_sem] Oper.semAt_some
theorem NR.store {T : Nat} {pl : Prop} {W : World} {bad : List Nat} {g c : Nat} {b : List Int} {A : Option Addr} {x : Value} (h1 : W.heap[g]? = some (.cells #[x] T (0, 0))) (h2 : g ∈ bad) (h3 : b.length ≤ c) (h4 : (Kd.int .u8).C W A b.length b) (h5 : NBytes b) (h6 : pl → Plain A c) (h7 : ∀ ad, A = some ad → 0 < b.length → ad.block ∉ bad ∧ ad.block < W.heap.size) :
    NR T pl (W.setCell ⟨g, 0, none⟩ (.slice A b.length c)) bad g b ∧ KeptB (fun k => k = g) W (W.setCell ⟨g, 0, none⟩ (.slice A b.length c)) := by
  have hk : KeptB (fun k => k = g) W (W.setCell ⟨g, 0, none⟩ (.slice A b.length c)) := KeptB.setCell (S := fun k => k = g) (p := ⟨g, 0, none⟩) (KeptB.refl _ W) (.inl rfl) _
  exact ⟨⟨A, c, blk_put h1 0 _ rfl, h2, h3, C_blk h4 (fun ad e hp => hk.block _ (h7 ad e hp).2 (fun e2 => (h7 ad e hp).1 (by rw [e2]; exact h2))), h5, h6, fun ad e hp => ⟨(h7 ad e hp).1, Nat.lt_of_lt_of_le (h7 ad e hp).2 hk.size⟩⟩, hk⟩
def RTPost (W : World) (bad : List Nat) (g : Nat) (b : List Int) (r : List Int × Nat × Bool) (e : Ending) (w' : World) : Prop :=
  e = .returned (.tuple #[.string (strOfNums r.1), .bool r.2.2]) ∧ NR 63 False w' bad g (b.drop r.2.1) ∧ KeptB (fun k => k = g) W w'
set_option maxHeartbeats 8000000 in
set_option maxRecDepth 100000 in
theorem refrtext_c {W : World} {bad : List Nat} {g : Nat} {b : List Int} (h : NR 63 False W bad g b) (hl : b.length ≤ 1099511627776) :
    Calls Tryd.prog 33 #[.pointer (some ⟨g, 0, none⟩)] W (RTPost W bad g b (tT b)) := by
  have hN := refrnum_c h
  obtain ⟨A, c, h1, h2, h3, h4, h5, h6, h7⟩ := h
  have hlt : g < W.heap.size := (Array.getElem?_eq_some_iff.1 h1).1
  have z : W.cell? ⟨g, 0, none⟩ = some (.slice A b.length c) := (blk_cell h1 0).trans rfl
  -- what was is put back
  have hback : ∀ w1 : World, KeptB (fun k => k = g) W w1 → (∃ x, w1.heap[g]? = some (.cells #[x] 63 (0, 0))) → NR 63 False (w1.setCell ⟨g, 0, none⟩ (.slice A b.length c)) bad g b ∧ KeptB (fun k => k = g) W (w1.setCell ⟨g, 0, none⟩ (.slice A b.length c)) := fun w1 hk ⟨x, hx⟩ => by
    have hs := NR.store (pl := False) (T := 63) hx h2 h3 (C_blk h4 (fun ad e hp => hk.block _ (h7 ad e hp).2 (fun e2 => (h7 ad e hp).1 (by rw [e2]; exact h2)))) h5 (fun h => h.elim) (fun ad e hp => ⟨(h7 ad e hp).1, Nat.lt_of_lt_of_le (h7 ad e hp).2 hk.size⟩)
    exact ⟨hs.1, hk.trans hs.2⟩
  have HBACK := Aside0.mk hback
  clear hback h1 h2 h3 h4 h5 h6 h7 hlt
  rcases tk_cases b with hq | ⟨n, k, hq, ht, hr, hk⟩
  · rw [hq] at hN
    have HTT := Aside0.mk (tT_none hq)
    have HN := Aside0.mk hN
    clear hN hq
    go_enter Tryd.func33, Tryd.ntmps33
    go_wp2_with (go_at_call 32; refine HN.out.mono ?_; unfold RNPost; dsimp only; rintro e w1 ⟨rfl, hN1, hK1⟩; (obtain ⟨A1, c1, hh, g2, g3, g4, g5, g6, g7⟩ := hN1); (have hz1 := (blk_cell hh 0).trans (rfl : _ = some _)); have fz := blk_frozen hh 0; have HH := Aside0.mk hh; have K1 := Aside0.mk hK1; clear hh hK1 g2 g3 g4 g5 g6 g7)
    have hb := HBACK.out w1 K1.out ⟨_, HH.out⟩
    exact bodyPost_ret (v := .tuple #[.string ⟨#[]⟩, .bool false]) (by simp [results, Tryd.results33, go_sem]) rfl (by show RTPost W bad g b (tT b) _ _; rw [HTT.out]; exact ⟨rfl, hb.1, hb.2⟩)
  · rw [hq] at hN
    obtain ⟨m, hmq⟩ : ∃ m, b.length - k = m := ⟨_, rfl⟩
    have hdl : (b.drop k).length = m := by rw [List.length_drop, hmq]
    have htt := tT_some ht
    rw [hmq] at htt
    have HN := Aside0.mk hN
    have HDL := Aside0.mk hdl
    by_cases hc : 0 ≤ n ∧ n ≤ (m : Int)
    · rw [if_pos hc] at htt
      obtain ⟨nn, rfl⟩ := Int.eq_ofNat_of_zero_le hc.1
      rw [Int.toNat_natCast] at htt
      have HTT := Aside0.mk htt
      have hnm : nn ≤ m := Int.ofNat_le.1 hc.2
      have HNM := Aside0.mk hnm
      have d1 : decide ((nn : Int) < 0) = false := decide_eq_false (by omega)
      have d2 : decide ((nn : Int) > (m : Int)) = false := decide_eq_false (by omega)
      have d3 : decide ((m : Int) < (nn : Int)) = false := decide_eq_false (by omega)
      have d4 : decide (m < nn) = false := decide_eq_false (by omega)
      obtain ⟨s, hs⟩ : ∃ s, strOfNums ((b.drop k).take nn) = s := ⟨_, rfl⟩
      have HS := Aside0.mk hs
      clear hN hq hc htt hmq hdl hnm ht hr hk hs hl
      go_enter Tryd.func33, Tryd.ntmps33
      go_upto_region 3 with (go_at_call 32; refine HN.out.mono ?_; unfold RNPost; dsimp only; rintro e w1 ⟨rfl, hN1, hK1⟩; (obtain ⟨A1, c1, hh, g2, g3, g4, g5, g6, g7⟩ := hN1); rw [HDL.out] at hh g3; have hz1 : w1.cell? ⟨g, 0, none⟩ = some (.slice A1 m c1) := (blk_cell hh 0).trans rfl; have fz := blk_frozen hh 0; have HH := Aside0.mk hh; have K1 := Aside0.mk hK1; (have htk := run_take A1 c1 m nn (Nat.le_trans HNM.out g3)); (have hdr := run_drop A1 c1 m nn HNM.out); (have hcv := conv_str (c := c1) (take_C (m := nn) g4 (by rw [HDL.out]; exact HNM.out))); rw [HS.out] at hcv; have G2 := Aside0.mk g2; have G3 := Aside0.mk g3; have G4 := Aside0.mk g4; have G5 := Aside0.mk g5; have G7 := Aside0.mk g7; clear hh hK1 g2 g3 g4 g5 g6 g7)
      go_wp2
      have hcut := NR.cut (W := w1) (g := g) (bad := bad) (pl := False) (T := 63) (b := b.drop k) (A := A1) (c := c1) (by rw [HDL.out]; exact HH.out) G2.out (by rw [HDL.out]; exact G3.out) G4.out G5.out (fun h => h.elim) G7.out nn (by rw [HDL.out]; exact HNM.out)
      rw [HDL.out, List.drop_drop] at hcut
      exact bodyPost_ret (v := .tuple #[.string s, .bool true]) (by simp [results, Tryd.results33, go_sem]) rfl (by show RTPost W bad g b (tT b) _ _; rw [HTT.out]; exact ⟨by rw [HS.out], hcut.1, K1.out.trans hcut.2⟩)
    · rw [if_neg hc] at htt
      have HTT := Aside0.mk htt
      by_cases h0 : n < 0
      · have d1 : decide (n < 0) = true := decide_eq_true h0
        clear hN hq hc htt hmq hdl ht hr hk hl h0
        go_enter Tryd.func33, Tryd.ntmps33
        go_wp2_with (go_at_call 32; refine HN.out.mono ?_; unfold RNPost; dsimp only; rintro e w1 ⟨rfl, hN1, hK1⟩; (obtain ⟨A1, c1, hh, g2, g3, g4, g5, g6, g7⟩ := hN1); (have hz1 := (blk_cell hh 0).trans (rfl : _ = some _)); have fz := blk_frozen hh 0; have HH := Aside0.mk hh; have K1 := Aside0.mk hK1; clear hh hK1 g2 g3 g4 g5 g6 g7)
        have hb := HBACK.out w1 K1.out ⟨_, HH.out⟩
        exact bodyPost_ret (v := .tuple #[.string ⟨#[]⟩, .bool false]) (by simp [results, Tryd.results33, go_sem]) rfl (by show RTPost W bad g b (tT b) _ _; rw [HTT.out]; exact ⟨rfl, hb.1, hb.2⟩)
      · have d1 : decide (n < 0) = false := decide_eq_false h0
        have d2 : decide (n > (m : Int)) = true := decide_eq_true (by omega)
        have d3 : decide ((m : Int) < n) = true := decide_eq_true (by omega)
        clear hN hq hc htt hmq hdl ht hr hk hl h0
        go_enter Tryd.func33, Tryd.ntmps33
        go_wp2_with (go_at_call 32; refine HN.out.mono ?_; unfold RNPost; dsimp only; rintro e w1 ⟨rfl, hN1, hK1⟩; (obtain ⟨A1, c1, hh, g2, g3, g4, g5, g6, g7⟩ := hN1); rw [HDL.out] at hh; have hz1 : w1.cell? ⟨g, 0, none⟩ = some (.slice A1 m c1) := (blk_cell hh 0).trans rfl; have fz := blk_frozen hh 0; have HH := Aside0.mk hh; have K1 := Aside0.mk hK1; clear hh hK1 g2 g3 g4 g5 g6 g7)
        have hb := HBACK.out w1 K1.out ⟨_, HH.out⟩
        exact bodyPost_ret (v := .tuple #[.string ⟨#[]⟩, .bool false]) (by simp [results, Tryd.results33, go_sem]) rfl (by show RTPost W bad g b (tT b) _ _; rw [HTT.out]; exact ⟨rfl, hb.1, hb.2⟩)
end Go.Proofs.YtkicekddkgehoaaDoor.Hnd
