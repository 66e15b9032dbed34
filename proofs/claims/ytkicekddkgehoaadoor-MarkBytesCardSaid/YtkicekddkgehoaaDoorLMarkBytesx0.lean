/- The contract of the law MarkBytes, by hand. -/
import Derived.Test.YtkicekddkgehoaaDoorMk8
import Derived.RangeFuncNested
import Derived.RangeFuncBound
import Derived.RangeFuncCalls
import Derived.RangeFuncLeaves
import Derived.RangeFuncBox
import Derived.Shelf.Abstract
import Derived.Shelf.RegionOpen
import Derived.OwnWalkIn
import Derived.TacticsInMore
import Derived.LoopNIn
import Derived.LoopIn
import Derived.Shelf.Strconv.AppendIntPublic10
import Derived.Shelf.Strconv.ErrVarParseInt
import Derived.Shelf.Bytes.IndexByte
import Derived.Lib.ItoaLen
import Derived.Lib.ParseIntBTie
import Derived.Lib.AtoiBound
import Derived.Deep.Upon
namespace Go.Proofs.YtkicekddkgehoaaDoor.LMarkBytes
open Go.RowKit Go.Proofs.YtkicekddkgehoaaDoor.QMarkBytes Go.Proofs.YtkicekddkgehoaaDoor.Hnd Go.Proofs.YtkicekddkgehoaaDoorW.PrintWords Go.Proofs.YtkicekddkgehoaaDoorW.PrintLast  Go.Shelf
set_option linter.unusedVariables false
set_option linter.unusedSimpArgs false
attribute [local go_sem] Oper.semAt_some
/-- An Answer, a Mark that comes in. -/
structure S23 where
  f0 : Int
  f1 : ByteArray
def k23 : Kd S23 := Kd.iso (Kd.pair (Kd.int .i64) Kd.string) (fun x => (x.f0, x.f1))
structure S25 where
  f0 : Int
  f1 : Int
  f2 : Bool
  f3 : S23
def k25 : Kd S25 := Kd.iso (Kd.pair (Kd.int .i64) (Kd.pair (Kd.int .i64) (Kd.pair Kd.bool k23))) (fun x => (x.f0, x.f1, x.f2, x.f3))
theorem markK {w : World} {a : S25} {cs : Array Value} (h : k25.K w a cs.toList) : cs = #[.int .i64 a.f0, .int .i64 a.f1, .bool a.f2, .int .i64 a.f3.f0, .string a.f3.f1] := by
  obtain ⟨c0, r0, e0, h0, c1, r1, e1, h1, c2, r2, e2, h2, c3, r3, e3, h3, h4⟩ := h
  apply Array.toList_inj.1
  rw [e0, e1, e2, e3, h0, h1, h2, h3, h4]
  rfl
def ansB (st : Int) : Bool := decide (-9223372036854775808 ≤ st ∧ st < 9223372036854775808)
theorem ansB_of {x : Int} (h : (Lit.int .i64 x).wf = true) : ansB x = true := by
  simp [Lit.wf, IntKind.min, IntKind.max, IntKind.signed, IntKind.bits] at h
  exact decide_eq_true (by omega)
def lazaruslaw6_MarkBytes.f (a0 : S25) : Option Bool := if ansB a0.f3.f0 = true then some true else none
theorem bytesM_len {gen n : Int} {dn : Bool} {st : Int} {os : ByteArray} (hst : NT.Rng st) (ho : os.size ≤ 300) : (bytesM gen n dn st os).length ≤ 100000 := by
  unfold bytesM
  split
  · rename_i hm
    have hn := isM_n hm
    have l1 := num_len_le (n := n) ⟨by omega, by omega⟩
    have l2 := num_len_le (bitM_rng dn)
    have l3 := num_len_le hst
    have l4 := text_len_le (s := os) (by omega)
    rw [List.length_append, List.length_append, List.length_append]
    omega
  · exact Nat.zero_le _
set_option maxHeartbeats 8000000 in
set_option maxRecDepth 100000 in
theorem bytes_core (gen n : Int) (dn : Bool) (st : Int) (os : ByteArray) (hst : NT.Rng st) (ho : os.size ≤ 300) (w : World) (hT : NTabs w) :
    Calls Tryd.prog 3 #[.agg #[.int .i64 gen, .int .i64 n, .bool dn, .int .i64 st, .string os]] w fun e w' => e = .returned (.bool true) ∧ Below w.heap.size w w' := by
  have d0 : decide ((os.size : Int) > 300) = false := decide_eq_false (by omega)
  have d0' : decide ((300 : Int) < (os.size : Int)) = false := decide_eq_false (by omega)
  have d0'' : decide (300 < os.size) = false := decide_eq_false (by omega)
  obtain ⟨ok, hok⟩ : ∃ ok, isM gen n dn st os = ok := ⟨_, rfl⟩
  have hnb := bytesM_bytes gen n dn st os
  have hlb := bytesM_len (gen := gen) (n := n) (dn := dn) hst ho
  obtain ⟨b, hb⟩ : ∃ b, bytesM gen n dn st os = b := ⟨_, rfl⟩
  rw [hb] at hnb hlb
  obtain ⟨n1, d1, s1, o1, hrd, hsm⟩ : ∃ n1 d1 s1 o1, rdM b = (n1, d1, s1, o1, ok) ∧ (ok = true → n1 = n ∧ d1 = dn ∧ s1 = st ∧ o1 = os) := by
    have h := rdM_bytes gen n dn st os hst (by omega)
    rw [hb, hok] at h
    cases ok
    · exact ⟨_, _, _, _, h.trans (if_neg (by simp)), fun h => by cases h⟩
    · exact ⟨_, _, _, _, h.trans (if_pos rfl), fun _ => ⟨rfl, rfl, rfl, rfl⟩⟩
  have HIS : Aside0 (lazarusref6_Is.f gen n dn st os = some ok) := ⟨by rw [ref_is_f, hok]⟩
  obtain ⟨sb, hsb⟩ : ∃ sb, strOfNums b = sb := ⟨_, rfl⟩
  have HSB := Aside0.mk hsb
  have HBB := Aside0.mk hb
  have HNB := Aside0.mk hnb
  have HLB := Aside0.mk hlb
  have HRD := Aside0.mk hrd
  have HSM := Aside0.mk hsm
  have HST := Aside0.mk hst
  have HO := Aside0.mk ho
  have HT := Aside0.mk hT
  have hb1 := below_alloc (Below.refl w.heap.size w) (.cells #[.int .i64 gen, .int .i64 n, .bool dn, .int .i64 st, .string os] 25)
  have hn1 := blk_new w (.cells #[.int .i64 gen, .int .i64 n, .bool dn, .int .i64 st, .string os] 25)
  obtain ⟨W1, hW1⟩ : ∃ W1, W1 = w.alloc (.cells #[.int .i64 gen, .int .i64 n, .bool dn, .int .i64 st, .string os] 25) := ⟨_, rfl⟩
  have HW1 := Aside0.mk hW1
  rw [← hW1] at hb1 hn1
  have B1 := Aside0.mk hb1
  have N1 := Aside0.mk hn1
  clear hst ho hT hok hnb hlb hb hrd hsm hsb hb1 hn1 hW1
  go_enter Tryd.func3, Tryd.ntmps3
  go_upto_region 1 with (fail)
  rw [← HW1.out]
  have x0 := (blk_cell N1.out 0).trans rfl
  have x1 := (blk_cell N1.out 1).trans rfl
  have x2 := (blk_cell N1.out 2).trans rfl
  have x3 := (blk_cell N1.out 3).trans rfl
  have x4 := (blk_cell N1.out 4).trans rfl
  clear HW1
  go_upto_region 4 with (go_at_call 8; refine (mbytes_c gen n dn st os HST.out (by have := HO.out; omega) W1 (HT.out.on B1.out)).mono ?_; rw [HBB.out]; rintro e w2 ⟨v2, rfl, hR, hB⟩; (obtain ⟨A2, c2, rfl, hl2, hC2, -, -⟩ := R_plain hR); have L2 := Aside0.mk hl2; have D2 := Aside0.mk hC2; have N2 := Aside0.mk ((hB.block _ (Array.getElem?_eq_some_iff.1 N1.out).1).trans N1.out); have B2 := Aside0.mk (B1.out.trans (hB.mono B1.out.size)); clear hR hB hl2 hC2 x0 x1 x2 x3 x4)
  go_upto_region 5 with (go_at_call 9; refine (mread_c D2.out L2.out HNB.out HLB.out (HT.out.on B2.out)).mono ?_; unfold RdPost; rw [HRD.out]; dsimp only; rintro e w3 ⟨rfl, hB⟩; have N3 := Aside0.mk ((hB.block _ (Array.getElem?_eq_some_iff.1 N2.out).1).trans N2.out); have D3 := Aside0.mk (Kd.C_below D2.out hB); have B3 := Aside0.mk (B2.out.trans (hB.mono B2.out.size)); clear hB)
  have hb4 := below_alloc (Below.refl w3.heap.size w3) (.cells #[.int .i64 0, .int .i64 n1, .bool d1, .int .i64 s1, .string o1] 25)
  have hn4 := blk_new w3 (.cells #[.int .i64 0, .int .i64 n1, .bool d1, .int .i64 s1, .string o1] 25)
  obtain ⟨W4, hW4⟩ : ∃ W4, W4 = w3.alloc (.cells #[.int .i64 0, .int .i64 n1, .bool d1, .int .i64 s1, .string o1] 25) := ⟨_, rfl⟩
  rw [← hW4] at hb4 hn4 ⊢
  have N4 := Aside0.mk ((hb4.block _ (Array.getElem?_eq_some_iff.1 N3.out).1).trans N3.out)
  have D4 := Aside0.mk (Kd.C_below D3.out hb4)
  have hne : w.heap.size ≠ w3.heap.size := by have := (Array.getElem?_eq_some_iff.1 N3.out).1; omega
  obtain ⟨q4, hq4⟩ : ∃ q4, w3.heap.size = q4 := ⟨_, rfl⟩
  have B4 : Aside0 (Below w.heap.size w W4) := ⟨B3.out.trans (hb4.mono B3.out.size)⟩
  rw [hq4] at hn4 hne ⊢
  have X4 := Aside0.mk hn4
  have NE := Aside0.mk hne
  have L4 : Aside0 (w.heap.size < W4.heap.size ∧ q4 < W4.heap.size) := ⟨(Array.getElem?_eq_some_iff.1 N4.out).1, (Array.getElem?_eq_some_iff.1 X4.out).1⟩
  have HSS : Aside0 (∀ W', Below W4.heap.size W4 W' → W'.cell? ⟨w.heap.size, 0, none⟩ = some (.int .i64 gen) ∧ W'.cell? ⟨w.heap.size, 1, none⟩ = some (.int .i64 n) ∧ W'.cell? ⟨w.heap.size, 2, none⟩ = some (.bool dn) ∧ W'.cell? ⟨w.heap.size, 3, none⟩ = some (.int .i64 st) ∧ W'.cell? ⟨w.heap.size, 4, none⟩ = some (.string os) ∧ (convert 26 9 (.slice A2 b.length c2)).run Tryd.prog W' = .ok (.string sb) W') := ⟨fun W' hB => by
    have hh := (hB.block _ L4.out.1).trans N4.out
    refine ⟨(blk_cell hh 0).trans rfl, (blk_cell hh 1).trans rfl, (blk_cell hh 2).trans rfl, (blk_cell hh 3).trans rfl, (blk_cell hh 4).trans rfl, ?_⟩
    rw [conv_str (Kd.C_below D4.out hB), HSB.out]⟩
  have OD := Aside0.mk (below_drew1 (Below.refl W4.heap.size W4))
  have hse1 : (sb.toList == sb.toList) = true := beq_self_eq_true _
  have hse3 : ¬ (sb.toList == sb.toList) = false := by rw [hse1]; simp
  clear hb4 hn4 hW4 hne hq4
  go_region_held (fun w' => w'.cell? ⟨w.heap.size, 0, none⟩ = some (.int .i64 gen) ∧ w'.cell? ⟨w.heap.size, 1, none⟩ = some (.int .i64 n) ∧ w'.cell? ⟨w.heap.size, 2, none⟩ = some (.bool dn) ∧ w'.cell? ⟨w.heap.size, 3, none⟩ = some (.int .i64 st) ∧ w'.cell? ⟨w.heap.size, 4, none⟩ = some (.string os) ∧ (convert 26 9 (.slice A2 b.length c2)).run Tryd.prog w' = .ok (.string sb) w') (first | exact HSS.out _ O8.out | exact HSS.out _ O7.out | exact HSS.out _ OD.out) (first
    | (go_at_call 11; refine (lazarusref6_Is.calls gen n dn st os ok w7 HIS.out).mono ?_; rintro e w8 ⟨rfl, hB⟩; have O8 := Aside0.mk (O7.out.trans (hB.mono O7.out.size)); clear hB)
    | (go_at_call 10; refine (refbytes_c gen n dn st os HST.out (by have := HO.out; omega) _).mono ?_; unfold RefBytes; rw [HBB.out]; rintro e w7 ⟨A7, c7, rfl, hlc, hC, hB⟩; have O7 := Aside0.mk (OD.out.trans (hB.mono OD.out.size)); (have hcv7 := conv_str (c := c7) hC); rw [HSB.out] at hcv7; clear hlc hC hB))
  all_goals
    have n8 := (O8.out.block _ L4.out.1).trans N4.out
    have f0 := blk_frozen n8 0
    have g0 := (blk_cell n8 0).trans rfl
    go_upto_region 8 with (fail)
    have hfp := blk_put n8 0 (.int .i64 0) rfl
    have hxp := (Below.heap_setCell w8 ⟨w.heap.size, 0, none⟩ (.int .i64 0) q4 NE.out.symm).trans ((O8.out.block _ L4.out.2).trans X4.out)
    have B9 := Aside0.mk ((B4.out.trans (O8.out.mono B4.out.size)).setCell (p := ⟨w.heap.size, 0, none⟩) (Nat.le_refl _) (.int .i64 0))
    clear n8 f0 g0
    generalize w8.setCell ⟨w.heap.size, 0, none⟩ (.int .i64 0) = W9 at hfp hxp B9 ⊢
    have y0 := (blk_cell hfp 0).trans rfl
    have z0 := (blk_cell hxp 0).trans rfl
    have y1 := (blk_cell hfp 1).trans rfl
    have z1 := (blk_cell hxp 1).trans rfl
    have y2 := (blk_cell hfp 2).trans rfl
    have z2 := (blk_cell hxp 2).trans rfl
    have y3 := (blk_cell hfp 3).trans rfl
    have z3 := (blk_cell hxp 3).trans rfl
    have y4 := (blk_cell hfp 4).trans rfl
    have z4 := (blk_cell hxp 4).trans rfl
    clear hfp hxp
    cases ok
    · go_wp2_with (go_at_call 12; refine (known6_any W9 (HT.out.on B9.out)).mono ?_; rintro e w10 ⟨rfl, hB⟩; have B10 := Aside0.mk (B9.out.trans (hB.mono B9.out.size)); clear hB)
      go_ret
      exact ⟨rfl, B10.out⟩
    · obtain ⟨rfl, rfl, rfl, rfl⟩ := HSM.out rfl
      go_wp2_with (go_at_call 12; refine (known6_any W9 (HT.out.on B9.out)).mono ?_; rintro e w10 ⟨rfl, hB⟩; have B10 := Aside0.mk (B9.out.trans (hB.mono B9.out.size)); clear hB)
      go_ret
      exact ⟨rfl, B10.out⟩
theorem lazaruslaw6_MarkBytes.calls (a0 : S25) (cs0 : Array Value) (r : Bool) (w : World) (hK0 : k25.K w a0 cs0.toList) (h : lazaruslaw6_MarkBytes.f a0 = some r) (hT : NTabs w) :
    Calls Tryd.prog 3 #[.agg cs0] w fun e w' => e = .returned (.bool r) ∧ Below w.heap.size w w' := by
  obtain rfl := markK hK0
  unfold lazaruslaw6_MarkBytes.f at h
  by_cases hB : ansB a0.f3.f0 = true
  · rw [if_pos hB] at h
    obtain rfl : true = r := Option.some.inj h
    clear h hK0
    have hst : NT.Rng a0.f3.f0 := by
      have h1 : -9223372036854775808 ≤ a0.f3.f0 ∧ a0.f3.f0 < 9223372036854775808 := of_decide_eq_true hB
      exact ⟨by omega, by omega⟩
    obtain ⟨gen, n, dn, ⟨st, os⟩⟩ := a0
    dsimp only at hst ⊢
    by_cases h0 : os.size ≤ 300
    · exact bytes_core gen n dn st os hst h0 w hT
    · have d0 : decide ((os.size : Int) > 300) = true := decide_eq_true (by omega)
      have d0' : decide ((300 : Int) < (os.size : Int)) = true := decide_eq_true (by omega)
      have d0'' : decide (300 < os.size) = true := decide_eq_true (by omega)
      clear hB h0 hst hT
      go_enter Tryd.func3, Tryd.ntmps3
      go_wp2
      go_ret
      exact ⟨rfl, below_alloc (Below.refl _ _) _⟩
  · rw [if_neg hB] at h
    cases h
end Go.Proofs.YtkicekddkgehoaaDoor.LMarkBytes
