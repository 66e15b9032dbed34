/- Contracts of the calls, by hand. -/
import Derived.Test.YtekebjkcolhcoaaQStateSamex8
import Derived.Test.YtekebjkcolhcoaaSame3
import Derived.RangeFuncNested
import Derived.RangeFuncBound
import Derived.RangeFuncCalls
import Derived.RangeFuncLeaves
import Derived.RangeFuncBox
import Derived.Shelf.Abstract
import Derived.Shelf.RegionOpen
import Derived.OwnWalkIn
import Derived.TacticsInMore
import Derived.LoopNIn
import Derived.LoopIn
import Derived.Sort.QuietIn
import Derived.Sort.CutIn
import Derived.Stop.RegionWithIn
import Derived.StillTailTactics
import Derived.Test.YtekebjkcolhcoaaQStateSamex7
namespace Go.Proofs.Ytekebjkcolhcoaa.Hnd
open Go.RowKit Go.Proofs.Ytekebjkcolhcoaa.QStateSame Go.Proofs.YtekebjkcolhcoaaW.PrintWords Go.Proofs.YtekebjkcolhcoaaW.PrintLast  Go.Shelf
set_option linter.unusedVariables false
set_option linter.unusedSimpArgs false
set_option linter.unusedVariables false
set_option linter.unusedSimpArgs false
attribute [local go_sem] Oper.semAt_some
/-! state.Find: the place of the first file of a name. -/
def findI (n : ByteArray) : List S56 → Int → Int
  | [], _ => -1
  | x :: l, i => if (x.f0.toList == n.toList) = true then i else findI n l (i + 1)
set_option maxHeartbeats 4000000 in
set_option maxRecDepth 100000 in
theorem clo_c {w : World} {x : S56} {n : ByteArray} {q : Nat} (hq : w.heap[q]? = some (.cells #[.string n] 9 (0, 0))) :
    Calls Try.prog 52 #[.agg #[.string x.f0, .string x.f1], .pointer (some ⟨q, 0, none⟩)] w fun e w' => e = .returned (.bool (x.f0.toList == n.toList)) ∧ Below w.heap.size w w' := by
  have hb := below_alloc (Below.refl w.heap.size w) (.cells #[.string x.f0, .string x.f1] 56)
  have hn := blk_new w (.cells #[.string x.f0, .string x.f1] 56)
  have hq2 := blk_below hq hb
  have HB := Aside0.mk hb
  have u0 := (blk_cell hn 0).trans rfl
  have u1 := (blk_cell hn 1).trans rfl
  have u2 := (blk_cell hq2 0).trans rfl
  clear hb hq
  go_enter Try.func52, Try.ntmps52
  go_wp2
  go_ret
  exact ⟨rfl, HB.out⟩
set_option maxHeartbeats 8000000 in
set_option maxRecDepth 100000 in
theorem index_c {w : World} {A : Option Addr} {c : Nat} {l : List S56} {n : ByteArray} {q : Nat} (hr : Kd.C k56 w A l.length l) (hl : l.length ≤ 1000000000) (hq : w.heap[q]? = some (.cells #[.string n] 9 (0, 0))) :
    Calls Try.prog 51 #[.slice A l.length c, .func (.func 52) #[] #[.pointer (some ⟨q, 0, none⟩)]] w fun e w' => e = .returned (.int .i64 (findI n l 0)) ∧ Below w.heap.size w w' := by
  have HR := Aside0.mk hr
  have HL := Aside0.mk hl
  have HQ := Aside0.mk hq
  obtain ⟨res, hres⟩ : ∃ res, findI n l 0 = res := ⟨_, rfl⟩
  have HRES : Aside0 (findI n (l.drop 0) ((0 : Nat) : Int) = res) := ⟨hres⟩
  rw [hres]
  clear hr hl hq hres
  go_enter Try.func51, Try.ntmps51
  go_wp2
  go_loopw [8] (fun u8 wr => ∃ k : Nat, u8 = .int .i64 (k : Int) ∧ Aside0 (k ≤ l.length) ∧ Aside0 (findI n (l.drop k) (k : Int) = res) ∧ Aside0 (Below w.heap.size w wr)) (fun u8 _ => l.length + 1 - (intOf u8).toNat)
  case atStart => exact ⟨0, rfl, ⟨Nat.zero_le _⟩, HRES, ⟨Below.refl _ _⟩⟩
  case round =>
    obtain ⟨k, rfl, HK, HF, HB⟩ := hrel
    have hl := HL.out
    have hk := HK.out
    have hp0 : (0 : Int) ≤ (k : Int) := by omega
    have hp1 : (k : Int) ≤ 1000000000 := by omega
    by_cases hlt : k < l.length
    · have dl : decide ((k : Int) < (l.length : Int)) = true := decide_eq_true (by omega)
      have dl' : decide (k < l.length) = true := decide_eq_true hlt
      have hp2 : (k : Int) < (l.length : Int) := by omega
      have hdr := HF.out
      rw [drop_getD z56 l k hlt, findI] at hdr
      obtain ⟨ad, e0, x0, x1⟩ := at_T56 (Kd.C_below HR.out HB.out) (k : Int) (by omega) (by omega)
      subst e0
      simp only [Int.toNat_natCast] at x0 x1
      obtain ⟨x, hx⟩ : ∃ x, rd_T56 l (k : Int) = x := ⟨_, rfl⟩
      simp only [hx] at x0 x1
      rw [show l.getD k z56 = x from hx] at hdr
      have HDR := Aside0.mk hdr
      have HLT := Aside0.mk hlt
      have HQ2 := Aside0.mk (blk_below HQ.out HB.out)
      obtain ⟨t, ht⟩ : ∃ t, (x.f0.toList == n.toList) = t := ⟨_, rfl⟩
      have HT := Aside0.mk ht
      clear hdr hlt hl hk hx ht
      cases t with
      | true =>
        have hz : res = (k : Int) := by have := HDR.out; rw [HT.out, if_pos rfl] at this; exact this.symm
        subst hz
        go_wp2_with (go_at_call 52; refine (clo_c (x := x) HQ2.out).mono ?_; rw [HT.out]; rintro e w5 ⟨rfl, hB⟩; have B5 := Aside0.mk (HB.out.trans (hB.mono HB.out.size)); clear hB)
        go_ret
        exact ⟨rfl, B5.out⟩
      | false =>
        have hz : findI n (l.drop (k + 1)) ((k + 1 : Nat) : Int) = res := by have := HDR.out; rw [HT.out, if_neg (by simp)] at this; exact this
        have HZ := Aside0.mk hz
        clear hz
        go_wp2_with (go_at_call 52; refine (clo_c (x := x) HQ2.out).mono ?_; rw [HT.out]; rintro e w5 ⟨rfl, hB⟩; have B5 := Aside0.mk (HB.out.trans (hB.mono HB.out.size)); clear hB)
        exact ⟨⟨k + 1, by go_num, ⟨HLT.out⟩, HZ, B5⟩, by have := HLT.out; simp [intOf]; omega⟩
    · obtain rfl : k = l.length := by omega
      have hz : res = -1 := by
        rw [← HF.out, List.drop_of_length_le (Nat.le_refl _)]
        rfl
      subst hz
      have dl : decide ((l.length : Int) < (l.length : Int)) = false := decide_eq_false (by omega)
      have dl' : decide (l.length < l.length) = false := decide_eq_false (by omega)
      clear hlt hl hk
      go_wp2
      go_ret
      exact ⟨rfl, HB.out⟩
set_option maxHeartbeats 4000000 in
set_option maxRecDepth 100000 in
theorem find_c {w : World} {A : Option Addr} {c : Nat} {l : List S56} {n : ByteArray} (hr : Kd.C k56 w A l.length l) (hl : l.length ≤ 1000000000) :
    Calls Try.prog 34 #[.slice A l.length c, .string n] w fun e w' => e = .returned (.int .i64 (findI n l 0)) ∧ Below w.heap.size w w' := by
  have hb := below_alloc (Below.refl w.heap.size w) (.cells #[.string n] 9)
  have hn := blk_new w (.cells #[.string n] 9)
  have HB := Aside0.mk hb
  have HN := Aside0.mk hn
  have HR := Aside0.mk (Kd.C_below hr hb)
  have HL := Aside0.mk hl
  clear hb hn hr hl
  go_enter Try.func34, Try.ntmps34
  go_wp2_with (go_at_call 51; refine (index_c HR.out HL.out HN.out).mono ?_; rintro e w5 ⟨rfl, hB⟩; have B5 := Aside0.mk (HB.out.trans (hB.mono HB.out.size)); clear hB)
  go_ret
  exact ⟨rfl, B5.out⟩
end Go.Proofs.Ytekebjkcolhcoaa.Hnd
