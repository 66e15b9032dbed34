/- The journal on a disk, the document's way. -/
import Derived.Test.YtkicekddkgehoaaGreatDoorQMarkPlaysx
import Derived.Test.YtkicekddkgehoaaGreatDoorMkD
import Derived.Test.YtkicekddkgehoaaGreatDoorRefB
import Derived.RangeFuncNested
import Derived.RangeFuncBound
import Derived.RangeFuncCalls
import Derived.RangeFuncLeaves
import Derived.RangeFuncBox
import Derived.Shelf.Abstract
import Derived.Shelf.RegionOpen
import Derived.OwnWalkIn
import Derived.TacticsInMore
import Derived.LoopNIn
import Derived.LoopIn
import Derived.Sort.QuietIn
import Derived.Sort.CutIn
import Derived.Stop.RegionWithIn
import Derived.StillTailTactics
import Derived.Shelf.Strconv.AppendIntPublic10
import Derived.Shelf.Strconv.ErrVarParseInt
import Derived.Shelf.Bytes.IndexByte
import Derived.Lib.ItoaLen
import Derived.Lib.ParseIntBTie
import Derived.Lib.AtoiBound
import Derived.Deep.Upon
namespace Go.Proofs.YtkicekddkgehoaaGreatDoor.Mrk
open Go.RowKit Go.Proofs.YtkicekddkgehoaaGreatDoor.QMarkPlays Go.Proofs.YtkicekddkgehoaaGreatDoorW.PrintWords Go.Proofs.YtkicekddkgehoaaGreatDoorW.PrintLast Go.Proofs.YtkicekddkgehoaaGreatDoorW.Dk Go.Shelf
set_option linter.unusedVariables false
set_option linter.unusedSimpArgs false
set_option linter.unusedVariables false
set_option linter.unusedSimpArgs false
open Go.Proofs.YtkicekddkgehoaaGreatDoor.Dsk hiding R_plain conv_str cell_of_heap C_blk
open Go.Proofs.YtkicekddkgehoaaGreatDoor.«Hnd» hiding KeptB
attribute [local go_sem] Oper.semAt_some
/-! A mark is put into the journal, the document's way. -/
theorem sr_len {w0 W : World} {xs : List Nat} {g : Nat} {d : DS} (h : SR w0 xs W g d) : ∃ A c, W.cell? ⟨g, 0, none⟩ = some (.slice A d.S.length c) := by
  obtain ⟨⟨vS, vP, A, c, ss, h1, h2, h3, h4, h5, h6, h7⟩, _, _⟩ := h
  obtain ⟨A2, c2, e⟩ := r_slice h4
  subst e
  exact ⟨A2, c2, (blk_cell h1 0).trans rfl⟩
theorem row_ownR {w0 W w3 : World} {xs : List Nat} {g : Nat} {d : DS} {A : Option Addr} {b : List Int} (h : SR w0 xs W g d) (hB : Below W.heap.size W w3) (hC : (Kd.int .u8).C w3 A b.length b) (hge : ∀ ad, A = some ad → W.heap.size ≤ ad.block) :
    ∃ ys, Rd w0 (ys ++ xs) w3 A b ∧ SR w0 (ys ++ xs) w3 g d := by
  by_cases hp : 0 < b.length
  · cases A with
    | none => exact ⟨[], ⟨hC, fun ad e => by cases e⟩, h.after hB⟩
    | some ad =>
      have hlt : ad.block < w3.heap.size := Kd.C_lt hC hp (by decide)
      exact ⟨[ad.block], ⟨hC, fun a e _ => by cases e; exact ⟨.inr (by simp), hlt⟩⟩, h.mores hB [ad.block] (fun y hy => by rw [List.mem_singleton.1 hy]; exact ⟨hge ad rfl, hlt⟩)⟩
  · exact ⟨[], ⟨hC, fun ad e h => absurd h hp⟩, h.after hB⟩
theorem rfrom_c {w0 W : World} {xs : List Nat} {g : Nat} {d : DS} (h : SR w0 xs W g d) (hS : d.S.length ≤ 4000) :
    Calls Tryz.prog 6 #[.pointer (some ⟨g, 0, none⟩)] W fun e w' => e = .returned (.int .i64 ((2 * d.room : Nat) : Int)) ∧ W = w' := by
  have H := Aside0.mk (r_room h.1 hS)
  have hr : d.room ≤ 1500 := by unfold DS.room; omega
  have hp0 : (0 : Int) ≤ (d.room : Int) := by omega
  have hp1 : (d.room : Int) ≤ 1500 := by omega
  have HR : Aside0 (2 * (d.room : Int) = ((2 * d.room : Nat) : Int)) := ⟨by omega⟩
  clear h hS hr
  go_enter Tryz.func6, Tryz.ntmps6
  go_wp2_with (go_at_call 17; refine H.out.mono ?_; rintro e w8 ⟨rfl, rfl⟩)
  go_ret
  exact ⟨ret_i HR.out, rfl⟩
def RAppPost (w0 : World) (xs : List Nat) (W : World) (g : Nat) (r : DS × Int × Int) (e : Ending) (w' : World) : Prop := e = .returned (.tuple #[.int .i64 r.2.1, .int .i64 r.2.2]) ∧ SR w0 xs w' g r.1 ∧ Sm xs W w'
set_option maxHeartbeats 8000000 in
set_option maxRecDepth 100000 in
theorem rappend_c {w0 W : World} {xs : List Nat} {g : Nat} {d : DS} (h : SR w0 xs W g d) (at_ gen n : Int) (dn : Bool) (st : Int) (os : ByteArray) (hst : NT.Rng st) (ho : os.size ≤ 1000000) (hS : d.S.length ≤ 4000) (hP : d.P.length < 1073741824) :
    Calls Tryz.prog 10 #[.pointer (some ⟨g, 0, none⟩), .int .i64 at_, .agg #[.int .i64 gen, .int .i64 n, .bool dn, .int .i64 st, .string os]] W (RAppPost w0 xs W g (appendM crcO d at_ gen n dn st os)) := by
  obtain ⟨q, hq⟩ : ∃ q, W.heap.size = q := ⟨_, rfl⟩
  have hb1 := below_alloc (Below.refl W.heap.size W) (.cells #[.int .i64 gen, .int .i64 n, .bool dn, .int .i64 st, .string os] 35)
  have hn1 := blk_new W (.cells #[.int .i64 gen, .int .i64 n, .bool dn, .int .i64 st, .string os] 35)
  obtain ⟨W1, hW1⟩ : ∃ W1, W1 = W.alloc (.cells #[.int .i64 gen, .int .i64 n, .bool dn, .int .i64 st, .string os] 35) := ⟨_, rfl⟩
  rw [← hW1] at hb1 hn1
  have hs1 : SR w0 ([q] ++ xs) W1 g d := h.mores hb1 [q] (fun y hy => by rw [List.mem_singleton.1 hy, ← hq]; exact ⟨Nat.le_refl _, (Array.getElem?_eq_some_iff.1 hn1).1⟩)
  have S1 : Aside0 (SR w0 (q :: xs) W1 g d) := ⟨hs1⟩
  rw [hq] at hn1
  have HQ := Aside0.mk hq
  have HW1 := Aside0.mk hW1
  have N1 := Aside0.mk hn1
  have B1 := Aside0.mk hb1
  have HX := Aside0.mk h.2.2
  have HST := Aside0.mk hst
  have HO := Aside0.mk ho
  have HSS := Aside0.mk hS
  have HPP := Aside0.mk hP
  have HBL := Aside0.mk (bytesM_len (gen := gen) (n := n) (dn := dn) hst ho)
  have HBY := Aside0.mk (bytesM_bytes gen n dn st os)
  have HIS := Aside0.mk (ref_is_f gen n dn st os)
  have x0 := (blk_cell hn1 0).trans rfl
  have x1 := (blk_cell hn1 1).trans rfl
  have x2 := (blk_cell hn1 2).trans rfl
  have x3 := (blk_cell hn1 3).trans rfl
  have x4 := (blk_cell hn1 4).trans rfl
  clear h hs1 hst ho hS hP hq hb1 hn1 hW1
  cases hm : isM gen n dn st os with
  | false =>
    rw [show appendM crcO d at_ gen n dn st os = (d, 0, 1) from if_neg (fun h => by rw [hm] at h; cases h.1)]
    have HM := Aside0.mk hm
    unfold RAppPost
    clear hm HBL HBY
    go_enter Tryz.func10, Tryz.ntmps10
    go_upto_region 1 with (fail)
    rw [← HW1.out, HQ.out]
    go_wp2_with (first
      | (go_at_call 26; refine (lazarusref6_Is.calls gen n dn st os _ W1 HIS.out).mono ?_; rw [HM.out]; rintro e w2 ⟨rfl, hB⟩; have B2 := Aside0.mk (B1.out.trans (hB.mono B1.out.size)); have S2 := Aside0.mk (S1.out.after hB); have N2 := Aside0.mk ((hB.block _ (Array.getElem?_eq_some_iff.1 N1.out).1).trans N1.out); have z0 := (blk_cell N2.out 0).trans rfl; have z1 := (blk_cell N2.out 1).trans rfl; have z2 := (blk_cell N2.out 2).trans rfl; have z3 := (blk_cell N2.out 3).trans rfl; have z4 := (blk_cell N2.out 4).trans rfl; clear hB x0 x1 x2 x3 x4))
    refine bodyPost_ret (v := .tuple #[.int .i64 (0), .int .i64 (1)]) (by simp [results, Tryz.results10, go_sem]) rfl ?_
    exact ⟨rfl, S2.out.less (fun x hx => List.mem_cons_of_mem _ hx), fun x hx => B2.out.block x (HX.out x hx)⟩
  | true =>
    have hg := isM_g hm
    have HM := Aside0.mk hm
    obtain ⟨f, hf⟩ : ∃ f, 2 * d.room = f := ⟨_, rfl⟩
    have HF := Aside0.mk hf
    obtain ⟨s, hs⟩ : ∃ s, d.S.length = s := ⟨_, rfl⟩
    have HL := Aside0.mk hs
    have hs4 := HSS.out
    rw [hs] at hs4
    by_cases c1 : at_ < (f : Int)
    · rw [show appendM crcO d at_ gen n dn st os = (d, 0, 1) from if_neg (fun h => by have := h.2.1; rw [hf] at this; omega)]
      have d1 : decide (at_ < (f : Int)) = true := decide_eq_true c1
      unfold RAppPost
      clear hm hg hf hs hs4 HBL HBY c1
      go_enter Tryz.func10, Tryz.ntmps10
      go_upto_region 1 with (fail)
      rw [← HW1.out, HQ.out]
      go_wp2_with (first
        | (go_at_call 6; refine (rfrom_c S2.out HSS.out).mono ?_; rw [HF.out]; rintro e w8 ⟨rfl, rfl⟩)
        | (go_at_call 26; refine (lazarusref6_Is.calls gen n dn st os _ W1 HIS.out).mono ?_; rw [HM.out]; rintro e w2 ⟨rfl, hB⟩; have B2 := Aside0.mk (B1.out.trans (hB.mono B1.out.size)); have S2 := Aside0.mk (S1.out.after hB); have N2 := Aside0.mk ((hB.block _ (Array.getElem?_eq_some_iff.1 N1.out).1).trans N1.out); have z0 := (blk_cell N2.out 0).trans rfl; have z1 := (blk_cell N2.out 1).trans rfl; have z2 := (blk_cell N2.out 2).trans rfl; have z3 := (blk_cell N2.out 3).trans rfl; have z4 := (blk_cell N2.out 4).trans rfl; clear hB x0 x1 x2 x3 x4))
      refine bodyPost_ret (v := .tuple #[.int .i64 (0), .int .i64 (1)]) (by simp [results, Tryz.results10, go_sem]) rfl ?_
      exact ⟨rfl, S2.out.less (fun x hx => List.mem_cons_of_mem _ hx), fun x hx => B2.out.block x (HX.out x hx)⟩
    have d1 : decide (at_ < (f : Int)) = false := decide_eq_false c1
    by_cases c2 : (s : Int) ≤ at_
    · rw [show appendM crcO d at_ gen n dn st os = (d, 0, 1) from if_neg (fun h => by have := h.2.2; rw [hs] at this; omega)]
      have d2 : decide ((s : Int) ≤ at_) = true := decide_eq_true c2
      have d3 : decide (at_ ≥ (s : Int)) = true := decide_eq_true c2
      unfold RAppPost
      clear hm hg hf hs hs4 HBL HBY c1 c2
      go_enter Tryz.func10, Tryz.ntmps10
      go_upto_region 1 with (fail)
      rw [← HW1.out, HQ.out]
      go_wp2_with (first
        | (go_at_call 6; refine (rfrom_c S2.out HSS.out).mono ?_; rw [HF.out]; rintro e w8 ⟨rfl, rfl⟩)
        | (go_at_call 26; refine (lazarusref6_Is.calls gen n dn st os _ W1 HIS.out).mono ?_; rw [HM.out]; rintro e w2 ⟨rfl, hB⟩; have B2 := Aside0.mk (B1.out.trans (hB.mono B1.out.size)); have S2 := Aside0.mk (S1.out.after hB); have N2 := Aside0.mk ((hB.block _ (Array.getElem?_eq_some_iff.1 N1.out).1).trans N1.out); have z0 := (blk_cell N2.out 0).trans rfl; have z1 := (blk_cell N2.out 1).trans rfl; have z2 := (blk_cell N2.out 2).trans rfl; have z3 := (blk_cell N2.out 3).trans rfl; have z4 := (blk_cell N2.out 4).trans rfl; (obtain ⟨As, cs, hcs⟩ := sr_len S2.out); rw [HL.out] at hcs; clear hB x0 x1 x2 x3 x4))
      refine bodyPost_ret (v := .tuple #[.int .i64 (0), .int .i64 (1)]) (by simp [results, Tryz.results10, go_sem]) rfl ?_
      exact ⟨rfl, S2.out.less (fun x hx => List.mem_cons_of_mem _ hx), fun x hx => B2.out.block x (HX.out x hx)⟩
    have d2 : decide ((s : Int) ≤ at_) = false := decide_eq_false c2
    have d3 : decide (at_ ≥ (s : Int)) = false := decide_eq_false c2
    obtain ⟨a, rfl⟩ : ∃ a : Nat, at_ = (a : Int) := ⟨at_.toNat, by omega⟩
    have d1n : decide (a < f) = false := decide_eq_false (by omega)
    have d2n : decide (s ≤ a) = false := decide_eq_false (by omega)
    obtain ⟨rm, hrm⟩ : ∃ rm : Nat, s - a = rm := ⟨_, rfl⟩
    have hsub : (s : Int) - (a : Int) = (rm : Int) := by omega
    obtain ⟨b, hb⟩ : ∃ b, bytesM gen n dn st os = b := ⟨_, rfl⟩
    have HBB := Aside0.mk hb
    rw [hb] at HBL HBY
    have hap : appendM crcO d (a : Int) gen n dn st os = app1 crcO d (a : Int) gen b := by
      unfold appendM
      rw [if_pos ⟨hm, by rw [hf]; omega, by rw [hs]; omega⟩, hb]
    obtain ⟨nd, hnd⟩ : ∃ nd, DS.need b.length = nd := ⟨_, rfl⟩
    have ND := Aside0.mk hnd
    have hndl : nd ≤ 100000 := by rw [← hnd]; have := HBL.out; unfold DS.need; omega
    unfold app1 at hap
    rw [hnd, hs, hsub] at hap
    have HA : Aside0 (a ≤ 4000) := ⟨by omega⟩
    obtain ⟨zn, hzn⟩ : ∃ zn : Nat, a + nd = zn := ⟨_, rfl⟩
    have hz : (a : Int) + (nd : Int) = (zn : Int) := by omega
    have hwz1 : IntKind.i64.wrap ((a : Int) + (nd : Int)) = (zn : Int) := by rw [hz, IntKind.wrap_i64]; omega
    have hwz2 : wrap64 ((a : Int) + (nd : Int)) = (zn : Int) := by rw [hz]; unfold wrap64; clear hwz1; omega
    by_cases c3 : rm < nd
    · have e1 : appendM crcO d (a : Int) gen n dn st os = (d, 0, 4) := by rw [hap, if_pos (by clear hwz1 hwz2; omega)]
      rw [e1]
      have d4 : decide ((zn : Int) > (s : Int)) = true := decide_eq_true (by clear hwz1 hwz2; omega)
      have d5 : decide ((s : Int) < (zn : Int)) = true := decide_eq_true (by clear hwz1 hwz2; omega)
      have d6 : decide (s < zn) = true := decide_eq_true (by clear hwz1 hwz2; omega)
      unfold RAppPost
      clear hm hg hf hs hs4 c1 c2 hrm hsub hb hap hnd hndl c3 e1 hz hzn
      go_enter Tryz.func10, Tryz.ntmps10
      go_upto_region 1 with (fail)
      rw [← HW1.out, HQ.out]
      go_wp2_with (first
        | (go_at_call 28; refine (rneed_c b.length (by have := HBL.out; omega) _).mono ?_; rw [ND.out]; rintro e w4 ⟨rfl, hB⟩; have B4 := Aside0.mk (B3.out.trans (hB.mono B3.out.size)); have S4 := Aside0.mk (S3.out.after hB); have R4 := Aside0.mk (R3.out.below hB); have N4 := Aside0.mk ((hB.block _ (Array.getElem?_eq_some_iff.1 N3.out).1).trans N3.out); (obtain ⟨As, cs, hcs⟩ := sr_len S4.out); rw [HL.out] at hcs; have z0 := (blk_cell N4.out 0).trans rfl; clear hB)
        | (go_at_call 27; refine (refbytes_o gen n dn st os HST.out HO.out w2).mono ?_; unfold RefBytesO; rw [HBB.out]; rintro e w3 ⟨A, c, rfl, hl, hC, hB, hge⟩; obtain ⟨ys, hrd, hs⟩ := row_ownR S2.out hB hC hge; have B3 := Aside0.mk (B2.out.trans (hB.mono B2.out.size)); have S3 := Aside0.mk hs; have R3 := Aside0.mk hrd; have L3 := Aside0.mk hl; have N3 := Aside0.mk ((hB.block _ (Array.getElem?_eq_some_iff.1 N2.out).1).trans N2.out); clear hB hC hge hl hrd hs hcs z0 z1 z2 z3 z4)
        | (go_at_call 6; refine (rfrom_c S2.out HSS.out).mono ?_; rw [HF.out]; rintro e w8 ⟨rfl, rfl⟩)
        | (go_at_call 26; refine (lazarusref6_Is.calls gen n dn st os _ W1 HIS.out).mono ?_; rw [HM.out]; rintro e w2 ⟨rfl, hB⟩; have B2 := Aside0.mk (B1.out.trans (hB.mono B1.out.size)); have S2 := Aside0.mk (S1.out.after hB); have N2 := Aside0.mk ((hB.block _ (Array.getElem?_eq_some_iff.1 N1.out).1).trans N1.out); have z0 := (blk_cell N2.out 0).trans rfl; have z1 := (blk_cell N2.out 1).trans rfl; have z2 := (blk_cell N2.out 2).trans rfl; have z3 := (blk_cell N2.out 3).trans rfl; have z4 := (blk_cell N2.out 4).trans rfl; (obtain ⟨As, cs, hcs⟩ := sr_len S2.out); rw [HL.out] at hcs; clear hB x0 x1 x2 x3 x4))
      refine bodyPost_ret (v := .tuple #[.int .i64 (0), .int .i64 (4)]) (by simp [results, Tryz.results10, go_sem]) rfl ?_
      exact ⟨rfl, S4.out.less (fun x hx => List.mem_append_right _ (List.mem_cons_of_mem _ hx)), fun x hx => B4.out.block x (HX.out x hx)⟩
    have d4 : decide ((zn : Int) > (s : Int)) = false := decide_eq_false (by clear hwz1 hwz2; omega)
    have d5 : decide ((s : Int) < (zn : Int)) = false := decide_eq_false (by clear hwz1 hwz2; omega)
    have d6 : decide (s < zn) = false := decide_eq_false (by clear hwz1 hwz2; omega)
    have hwa : IntKind.i64.wrap ((s : Int) - (a : Int)) = (rm : Int) := by rw [hsub, IntKind.wrap_i64]; clear hwz1 hwz2; omega
    have hwb : wrap64 ((s : Int) - (a : Int)) = (rm : Int) := by rw [hsub]; unfold wrap64; clear hwz1 hwz2 hwa; omega
    have hu0 : IntKind.i64.wrap (gen + 1) = gen + 1 := by rw [IntKind.wrap_i64]; clear hwz1 hwz2 hwa hwb; omega
    have hu1 : wrap64 (gen + 1) = gen + 1 := by unfold wrap64; clear hwz1 hwz2 hwa hwb hu0; omega
    have hu2 : IntKind.u32.wrap (gen + 1) = gen + 1 := by rw [IntKind.wrap_u32]; clear hwz1 hwz2 hwa hwb hu0 hu1; omega
    rw [if_neg (by clear hwz1 hwz2 hwa hwb hu0 hu1 hu2; omega)] at hap
    obtain ⟨z, hzz⟩ : ∃ z : Int, (zn : Int) = z := ⟨_, rfl⟩
    by_cases c4 : nd < rm
    · have e2 : app2 d (a : Int) nd = DS.puth d z DS.zeros16 := by unfold app2; rw [if_pos (by rw [hs]; clear hwz1 hwz2 hwa hwb hu0 hu1 hu2; omega), hz, hzz]
      rw [e2, hz] at hap
      have d7 : decide ((zn : Int) < (s : Int)) = true := decide_eq_true (by clear hwz1 hwz2; omega)
      have d8 : decide (zn < s) = true := decide_eq_true (by clear hwz1 hwz2; omega)
      rw [hzz] at d4 d5 d7 hwz1 hwz2 hap
      have HL5 : Aside0 ((DS.puth d z DS.zeros16).1.S.length = s) := ⟨by rw [DS.puth_len]; exact hs⟩
      by_cases c5 : (DS.puth d z DS.zeros16).2 = 0
      · rw [if_pos c5] at hap
        have HC := Aside0.mk c5
        have HP2 : Aside0 ((DS.puth d z DS.zeros16).1.P.length < 1073741824) := ⟨by rw [DS.puth_P _ _ _ c5]; decide⟩
        by_cases c6 : (DS.put crcO (DS.puth d z DS.zeros16).1 (a : Int) (rm : Int) (gen + 1) b).2 = 0
        · rw [if_pos c6] at hap
          rw [hap]
          have HPU := Aside0.mk c6
          unfold RAppPost
          clear hm hg hf hs hs4 c1 c2 hrm hsub hb hap hnd hndl c3 hz hzn hzz c4 c5 c6 e2 d6 d8
          go_enter Tryz.func10, Tryz.ntmps10
          go_upto_region 1 with (fail)
          rw [← HW1.out, HQ.out]
          go_upto_region 11 with (first
            | (go_at_call 29; refine (sr_clear S4.out z (by have := HPP.out; omega)).mono ?_; rw [show List.replicate 16 (0 : Int) = DS.zeros16 from rfl, HC.out]; rintro e w5 ⟨rfl, hS, hM⟩; have S5 := Aside0.mk hS; have M5 := Aside0.mk hM; have R5 := Aside0.mk (R4.out.step' S4.out.2.1 hS.2.1 hS.2.2 hM); have N5 := Aside0.mk ((hM q (by simp)).trans N4.out); clear hcs z0; (obtain ⟨As, cs, hcs⟩ := sr_len S5.out); rw [HL5.out] at hcs; have z0 := (blk_cell N5.out 0).trans rfl; clear hS hM)
            | (go_at_call 28; refine (rneed_c b.length (by have := HBL.out; omega) _).mono ?_; rw [ND.out]; rintro e w4 ⟨rfl, hB⟩; have B4 := Aside0.mk (B3.out.trans (hB.mono B3.out.size)); have S4 := Aside0.mk (S3.out.after hB); have R4 := Aside0.mk (R3.out.below hB); have N4 := Aside0.mk ((hB.block _ (Array.getElem?_eq_some_iff.1 N3.out).1).trans N3.out); (obtain ⟨As, cs, hcs⟩ := sr_len S4.out); rw [HL.out] at hcs; have z0 := (blk_cell N4.out 0).trans rfl; clear hB)
            | (go_at_call 27; refine (refbytes_o gen n dn st os HST.out HO.out w2).mono ?_; unfold RefBytesO; rw [HBB.out]; rintro e w3 ⟨A, c, rfl, hl, hC, hB, hge⟩; obtain ⟨ys, hrd, hs⟩ := row_ownR S2.out hB hC hge; have B3 := Aside0.mk (B2.out.trans (hB.mono B2.out.size)); have S3 := Aside0.mk hs; have R3 := Aside0.mk hrd; have L3 := Aside0.mk hl; have N3 := Aside0.mk ((hB.block _ (Array.getElem?_eq_some_iff.1 N2.out).1).trans N2.out); clear hB hC hge hl hrd hs hcs z0 z1 z2 z3 z4)
            | (go_at_call 6; refine (rfrom_c S2.out HSS.out).mono ?_; rw [HF.out]; rintro e w8 ⟨rfl, rfl⟩)
            | (go_at_call 26; refine (lazarusref6_Is.calls gen n dn st os _ W1 HIS.out).mono ?_; rw [HM.out]; rintro e w2 ⟨rfl, hB⟩; have B2 := Aside0.mk (B1.out.trans (hB.mono B1.out.size)); have S2 := Aside0.mk (S1.out.after hB); have N2 := Aside0.mk ((hB.block _ (Array.getElem?_eq_some_iff.1 N1.out).1).trans N1.out); have z0 := (blk_cell N2.out 0).trans rfl; have z1 := (blk_cell N2.out 1).trans rfl; have z2 := (blk_cell N2.out 2).trans rfl; have z3 := (blk_cell N2.out 3).trans rfl; have z4 := (blk_cell N2.out 4).trans rfl; (obtain ⟨As, cs, hcs⟩ := sr_len S2.out); rw [HL.out] at hcs; clear hB x0 x1 x2 x3 x4))
          go_still_tail 14, (by kernel_rfl)
          change wpList _ _ _ _ _ w5.drew
          have SD := Aside0.mk (S5.out.after (below_drew1 (Below.refl _ _)))
          have RD := Aside0.mk (R5.out.below (below_drew1 (Below.refl _ _)))
          have MD : Aside0 (∀ r : Nat, w5.drew.heap[r]? = w5.heap[r]?) := ⟨fun _ => rfl⟩
          generalize w5.drew = wd at SD RD MD ⊢
          go_wp2_with (go_at_call 30; refine (sr_put SD.out (a : Int) (rm : Int) (gen + 1) A c b RD.out L3.out (by have := HBL.out; omega) HBY.out HP2.out (by have := HA.out; omega) (by have := HA.out; omega)).mono ?_; unfold SPutPost; rw [HPU.out]; rintro e w6 ⟨rfl, hS, hM⟩; have S6 := Aside0.mk hS; have M6 := Aside0.mk hM; clear hS hM)
          refine bodyPost_ret (v := .tuple #[.int .i64 (z), .int .i64 (0)]) (by simp [results, Tryz.results10, go_sem]) rfl ?_
          exact ⟨rfl, S6.out.less (fun x hx => List.mem_append_right _ (List.mem_cons_of_mem _ hx)), fun x hx => (M6.out x ((fun x hx => List.mem_append_right _ (List.mem_cons_of_mem _ hx)) x hx)).trans ((MD.out x).trans ((M5.out x ((fun x hx => List.mem_append_right _ (List.mem_cons_of_mem _ hx)) x hx)).trans (B4.out.block x (HX.out x hx))))⟩
        · rw [if_neg c6] at hap
          rw [hap]
          have hb1 : ((DS.put crcO (DS.puth d z DS.zeros16).1 (a : Int) (rm : Int) (gen + 1) b).2 != 0) = true := by simpa using c6
          have hb2 : ((DS.put crcO (DS.puth d z DS.zeros16).1 (a : Int) (rm : Int) (gen + 1) b).2 == 0) = false := by simpa using c6
          have hb3 : decide ((DS.put crcO (DS.puth d z DS.zeros16).1 (a : Int) (rm : Int) (gen + 1) b).2 = 0) = false := decide_eq_false c6
          generalize hE : (DS.put crcO (DS.puth d z DS.zeros16).1 (a : Int) (rm : Int) (gen + 1) b).2 = E at hb1 hb2 hb3
          have HPU := Aside0.mk hE
          unfold RAppPost
          clear hm hg hf hs hs4 c1 c2 hrm hsub hb hap hnd hndl c3 hz hzn hzz c4 c5 c6 e2 hE d6 d8
          go_enter Tryz.func10, Tryz.ntmps10
          go_upto_region 1 with (fail)
          rw [← HW1.out, HQ.out]
          go_upto_region 11 with (first
            | (go_at_call 29; refine (sr_clear S4.out z (by have := HPP.out; omega)).mono ?_; rw [show List.replicate 16 (0 : Int) = DS.zeros16 from rfl, HC.out]; rintro e w5 ⟨rfl, hS, hM⟩; have S5 := Aside0.mk hS; have M5 := Aside0.mk hM; have R5 := Aside0.mk (R4.out.step' S4.out.2.1 hS.2.1 hS.2.2 hM); have N5 := Aside0.mk ((hM q (by simp)).trans N4.out); clear hcs z0; (obtain ⟨As, cs, hcs⟩ := sr_len S5.out); rw [HL5.out] at hcs; have z0 := (blk_cell N5.out 0).trans rfl; clear hS hM)
            | (go_at_call 28; refine (rneed_c b.length (by have := HBL.out; omega) _).mono ?_; rw [ND.out]; rintro e w4 ⟨rfl, hB⟩; have B4 := Aside0.mk (B3.out.trans (hB.mono B3.out.size)); have S4 := Aside0.mk (S3.out.after hB); have R4 := Aside0.mk (R3.out.below hB); have N4 := Aside0.mk ((hB.block _ (Array.getElem?_eq_some_iff.1 N3.out).1).trans N3.out); (obtain ⟨As, cs, hcs⟩ := sr_len S4.out); rw [HL.out] at hcs; have z0 := (blk_cell N4.out 0).trans rfl; clear hB)
            | (go_at_call 27; refine (refbytes_o gen n dn st os HST.out HO.out w2).mono ?_; unfold RefBytesO; rw [HBB.out]; rintro e w3 ⟨A, c, rfl, hl, hC, hB, hge⟩; obtain ⟨ys, hrd, hs⟩ := row_ownR S2.out hB hC hge; have B3 := Aside0.mk (B2.out.trans (hB.mono B2.out.size)); have S3 := Aside0.mk hs; have R3 := Aside0.mk hrd; have L3 := Aside0.mk hl; have N3 := Aside0.mk ((hB.block _ (Array.getElem?_eq_some_iff.1 N2.out).1).trans N2.out); clear hB hC hge hl hrd hs hcs z0 z1 z2 z3 z4)
            | (go_at_call 6; refine (rfrom_c S2.out HSS.out).mono ?_; rw [HF.out]; rintro e w8 ⟨rfl, rfl⟩)
            | (go_at_call 26; refine (lazarusref6_Is.calls gen n dn st os _ W1 HIS.out).mono ?_; rw [HM.out]; rintro e w2 ⟨rfl, hB⟩; have B2 := Aside0.mk (B1.out.trans (hB.mono B1.out.size)); have S2 := Aside0.mk (S1.out.after hB); have N2 := Aside0.mk ((hB.block _ (Array.getElem?_eq_some_iff.1 N1.out).1).trans N1.out); have z0 := (blk_cell N2.out 0).trans rfl; have z1 := (blk_cell N2.out 1).trans rfl; have z2 := (blk_cell N2.out 2).trans rfl; have z3 := (blk_cell N2.out 3).trans rfl; have z4 := (blk_cell N2.out 4).trans rfl; (obtain ⟨As, cs, hcs⟩ := sr_len S2.out); rw [HL.out] at hcs; clear hB x0 x1 x2 x3 x4))
          go_still_tail 14, (by kernel_rfl)
          change wpList _ _ _ _ _ w5.drew
          have SD := Aside0.mk (S5.out.after (below_drew1 (Below.refl _ _)))
          have RD := Aside0.mk (R5.out.below (below_drew1 (Below.refl _ _)))
          have MD : Aside0 (∀ r : Nat, w5.drew.heap[r]? = w5.heap[r]?) := ⟨fun _ => rfl⟩
          generalize w5.drew = wd at SD RD MD ⊢
          go_wp2_with (go_at_call 30; refine (sr_put SD.out (a : Int) (rm : Int) (gen + 1) A c b RD.out L3.out (by have := HBL.out; omega) HBY.out HP2.out (by have := HA.out; omega) (by have := HA.out; omega)).mono ?_; unfold SPutPost; rw [HPU.out]; rintro e w6 ⟨rfl, hS, hM⟩; have S6 := Aside0.mk hS; have M6 := Aside0.mk hM; clear hS hM)
          refine bodyPost_ret (v := .tuple #[.int .i64 (0), .int .i64 (E)]) (by simp [results, Tryz.results10, go_sem]) rfl ?_
          exact ⟨by first | rfl | rw [HPU.out], S6.out.less (fun x hx => List.mem_append_right _ (List.mem_cons_of_mem _ hx)), fun x hx => (M6.out x ((fun x hx => List.mem_append_right _ (List.mem_cons_of_mem _ hx)) x hx)).trans ((MD.out x).trans ((M5.out x ((fun x hx => List.mem_append_right _ (List.mem_cons_of_mem _ hx)) x hx)).trans (B4.out.block x (HX.out x hx))))⟩
      · rw [if_neg c5] at hap
        rw [hap]
        have hb1 : ((DS.puth d z DS.zeros16).2 != 0) = true := by simpa using c5
        have hb2 : ((DS.puth d z DS.zeros16).2 == 0) = false := by simpa using c5
        have hb3 : decide ((DS.puth d z DS.zeros16).2 = 0) = false := decide_eq_false c5
        generalize hE : (DS.puth d z DS.zeros16).2 = E at hb1 hb2 hb3
        have HC := Aside0.mk hE
        unfold RAppPost
        clear hm hg hf hs hs4 c1 c2 hrm hsub hb hap hnd hndl c3 hz hzn hzz c4 c5 e2 hE d6 d8
        go_enter Tryz.func10, Tryz.ntmps10
        go_upto_region 1 with (fail)
        rw [← HW1.out, HQ.out]
        go_wp2_with (first
          | (go_at_call 29; refine (sr_clear S4.out z (by have := HPP.out; omega)).mono ?_; rw [show List.replicate 16 (0 : Int) = DS.zeros16 from rfl, HC.out]; rintro e w5 ⟨rfl, hS, hM⟩; have S5 := Aside0.mk hS; have M5 := Aside0.mk hM; have R5 := Aside0.mk (R4.out.step' S4.out.2.1 hS.2.1 hS.2.2 hM); have N5 := Aside0.mk ((hM q (by simp)).trans N4.out); clear hcs z0; (obtain ⟨As, cs, hcs⟩ := sr_len S5.out); rw [HL5.out] at hcs; have z0 := (blk_cell N5.out 0).trans rfl; clear hS hM)
          | (go_at_call 28; refine (rneed_c b.length (by have := HBL.out; omega) _).mono ?_; rw [ND.out]; rintro e w4 ⟨rfl, hB⟩; have B4 := Aside0.mk (B3.out.trans (hB.mono B3.out.size)); have S4 := Aside0.mk (S3.out.after hB); have R4 := Aside0.mk (R3.out.below hB); have N4 := Aside0.mk ((hB.block _ (Array.getElem?_eq_some_iff.1 N3.out).1).trans N3.out); (obtain ⟨As, cs, hcs⟩ := sr_len S4.out); rw [HL.out] at hcs; have z0 := (blk_cell N4.out 0).trans rfl; clear hB)
          | (go_at_call 27; refine (refbytes_o gen n dn st os HST.out HO.out w2).mono ?_; unfold RefBytesO; rw [HBB.out]; rintro e w3 ⟨A, c, rfl, hl, hC, hB, hge⟩; obtain ⟨ys, hrd, hs⟩ := row_ownR S2.out hB hC hge; have B3 := Aside0.mk (B2.out.trans (hB.mono B2.out.size)); have S3 := Aside0.mk hs; have R3 := Aside0.mk hrd; have L3 := Aside0.mk hl; have N3 := Aside0.mk ((hB.block _ (Array.getElem?_eq_some_iff.1 N2.out).1).trans N2.out); clear hB hC hge hl hrd hs hcs z0 z1 z2 z3 z4)
          | (go_at_call 6; refine (rfrom_c S2.out HSS.out).mono ?_; rw [HF.out]; rintro e w8 ⟨rfl, rfl⟩)
          | (go_at_call 26; refine (lazarusref6_Is.calls gen n dn st os _ W1 HIS.out).mono ?_; rw [HM.out]; rintro e w2 ⟨rfl, hB⟩; have B2 := Aside0.mk (B1.out.trans (hB.mono B1.out.size)); have S2 := Aside0.mk (S1.out.after hB); have N2 := Aside0.mk ((hB.block _ (Array.getElem?_eq_some_iff.1 N1.out).1).trans N1.out); have z0 := (blk_cell N2.out 0).trans rfl; have z1 := (blk_cell N2.out 1).trans rfl; have z2 := (blk_cell N2.out 2).trans rfl; have z3 := (blk_cell N2.out 3).trans rfl; have z4 := (blk_cell N2.out 4).trans rfl; (obtain ⟨As, cs, hcs⟩ := sr_len S2.out); rw [HL.out] at hcs; clear hB x0 x1 x2 x3 x4))
        refine bodyPost_ret (v := .tuple #[.int .i64 (0), .int .i64 (E)]) (by simp [results, Tryz.results10, go_sem]) rfl ?_
        exact ⟨by first | rfl | rw [HC.out], S5.out.less (fun x hx => List.mem_append_right _ (List.mem_cons_of_mem _ hx)), fun x hx => (M5.out x ((fun x hx => List.mem_append_right _ (List.mem_cons_of_mem _ hx)) x hx)).trans (B4.out.block x (HX.out x hx))⟩
    · have e2 : app2 d (a : Int) nd = (d, 0) := by unfold app2; rw [if_neg (by rw [hs]; clear hwz1 hwz2 hwa hwb hu0 hu1 hu2; omega)]
      rw [e2, if_pos rfl, hz] at hap
      have d7 : decide ((zn : Int) < (s : Int)) = false := decide_eq_false (by clear hwz1 hwz2; omega)
      have d8 : decide (zn < s) = false := decide_eq_false (by clear hwz1 hwz2; omega)
      rw [hzz] at d4 d5 d7 hwz1 hwz2 hap
      by_cases c6 : (DS.put crcO d (a : Int) (rm : Int) (gen + 1) b).2 = 0
      · rw [if_pos c6] at hap
        rw [hap]
        have HPU := Aside0.mk c6
        unfold RAppPost
        clear hm hg hf hs hs4 c1 c2 hrm hsub hb hap hnd hndl c3 hz hzn hzz c4 c6 e2 d6 d8
        go_enter Tryz.func10, Tryz.ntmps10
        go_upto_region 1 with (fail)
        rw [← HW1.out, HQ.out]
        go_upto_region 11 with (first
          | (go_at_call 28; refine (rneed_c b.length (by have := HBL.out; omega) _).mono ?_; rw [ND.out]; rintro e w4 ⟨rfl, hB⟩; have B4 := Aside0.mk (B3.out.trans (hB.mono B3.out.size)); have S4 := Aside0.mk (S3.out.after hB); have R4 := Aside0.mk (R3.out.below hB); have N4 := Aside0.mk ((hB.block _ (Array.getElem?_eq_some_iff.1 N3.out).1).trans N3.out); (obtain ⟨As, cs, hcs⟩ := sr_len S4.out); rw [HL.out] at hcs; have z0 := (blk_cell N4.out 0).trans rfl; clear hB)
          | (go_at_call 27; refine (refbytes_o gen n dn st os HST.out HO.out w2).mono ?_; unfold RefBytesO; rw [HBB.out]; rintro e w3 ⟨A, c, rfl, hl, hC, hB, hge⟩; obtain ⟨ys, hrd, hs⟩ := row_ownR S2.out hB hC hge; have B3 := Aside0.mk (B2.out.trans (hB.mono B2.out.size)); have S3 := Aside0.mk hs; have R3 := Aside0.mk hrd; have L3 := Aside0.mk hl; have N3 := Aside0.mk ((hB.block _ (Array.getElem?_eq_some_iff.1 N2.out).1).trans N2.out); clear hB hC hge hl hrd hs hcs z0 z1 z2 z3 z4)
          | (go_at_call 6; refine (rfrom_c S2.out HSS.out).mono ?_; rw [HF.out]; rintro e w8 ⟨rfl, rfl⟩)
          | (go_at_call 26; refine (lazarusref6_Is.calls gen n dn st os _ W1 HIS.out).mono ?_; rw [HM.out]; rintro e w2 ⟨rfl, hB⟩; have B2 := Aside0.mk (B1.out.trans (hB.mono B1.out.size)); have S2 := Aside0.mk (S1.out.after hB); have N2 := Aside0.mk ((hB.block _ (Array.getElem?_eq_some_iff.1 N1.out).1).trans N1.out); have z0 := (blk_cell N2.out 0).trans rfl; have z1 := (blk_cell N2.out 1).trans rfl; have z2 := (blk_cell N2.out 2).trans rfl; have z3 := (blk_cell N2.out 3).trans rfl; have z4 := (blk_cell N2.out 4).trans rfl; (obtain ⟨As, cs, hcs⟩ := sr_len S2.out); rw [HL.out] at hcs; clear hB x0 x1 x2 x3 x4))
        go_still_tail 14, (by kernel_rfl)
        change wpList _ _ _ _ _ w4.drew
        have SD := Aside0.mk (S4.out.after (below_drew1 (Below.refl _ _)))
        have RD := Aside0.mk (R4.out.below (below_drew1 (Below.refl _ _)))
        have MD : Aside0 (∀ r : Nat, w4.drew.heap[r]? = w4.heap[r]?) := ⟨fun _ => rfl⟩
        generalize w4.drew = wd at SD RD MD ⊢
        go_wp2_with (go_at_call 30; refine (sr_put SD.out (a : Int) (rm : Int) (gen + 1) A c b RD.out L3.out (by have := HBL.out; omega) HBY.out HPP.out (by have := HA.out; omega) (by have := HA.out; omega)).mono ?_; unfold SPutPost; rw [HPU.out]; rintro e w6 ⟨rfl, hS, hM⟩; have S6 := Aside0.mk hS; have M6 := Aside0.mk hM; clear hS hM)
        refine bodyPost_ret (v := .tuple #[.int .i64 (z), .int .i64 (0)]) (by simp [results, Tryz.results10, go_sem]) rfl ?_
        exact ⟨rfl, S6.out.less (fun x hx => List.mem_append_right _ (List.mem_cons_of_mem _ hx)), fun x hx => (M6.out x ((fun x hx => List.mem_append_right _ (List.mem_cons_of_mem _ hx)) x hx)).trans ((MD.out x).trans ((B4.out.block x (HX.out x hx))))⟩
      · rw [if_neg c6] at hap
        rw [hap]
        have hb1 : ((DS.put crcO d (a : Int) (rm : Int) (gen + 1) b).2 != 0) = true := by simpa using c6
        have hb2 : ((DS.put crcO d (a : Int) (rm : Int) (gen + 1) b).2 == 0) = false := by simpa using c6
        have hb3 : decide ((DS.put crcO d (a : Int) (rm : Int) (gen + 1) b).2 = 0) = false := decide_eq_false c6
        generalize hE : (DS.put crcO d (a : Int) (rm : Int) (gen + 1) b).2 = E at hb1 hb2 hb3
        have HPU := Aside0.mk hE
        unfold RAppPost
        clear hm hg hf hs hs4 c1 c2 hrm hsub hb hap hnd hndl c3 hz hzn hzz c4 c6 e2 hE d6 d8
        go_enter Tryz.func10, Tryz.ntmps10
        go_upto_region 1 with (fail)
        rw [← HW1.out, HQ.out]
        go_upto_region 11 with (first
          | (go_at_call 28; refine (rneed_c b.length (by have := HBL.out; omega) _).mono ?_; rw [ND.out]; rintro e w4 ⟨rfl, hB⟩; have B4 := Aside0.mk (B3.out.trans (hB.mono B3.out.size)); have S4 := Aside0.mk (S3.out.after hB); have R4 := Aside0.mk (R3.out.below hB); have N4 := Aside0.mk ((hB.block _ (Array.getElem?_eq_some_iff.1 N3.out).1).trans N3.out); (obtain ⟨As, cs, hcs⟩ := sr_len S4.out); rw [HL.out] at hcs; have z0 := (blk_cell N4.out 0).trans rfl; clear hB)
          | (go_at_call 27; refine (refbytes_o gen n dn st os HST.out HO.out w2).mono ?_; unfold RefBytesO; rw [HBB.out]; rintro e w3 ⟨A, c, rfl, hl, hC, hB, hge⟩; obtain ⟨ys, hrd, hs⟩ := row_ownR S2.out hB hC hge; have B3 := Aside0.mk (B2.out.trans (hB.mono B2.out.size)); have S3 := Aside0.mk hs; have R3 := Aside0.mk hrd; have L3 := Aside0.mk hl; have N3 := Aside0.mk ((hB.block _ (Array.getElem?_eq_some_iff.1 N2.out).1).trans N2.out); clear hB hC hge hl hrd hs hcs z0 z1 z2 z3 z4)
          | (go_at_call 6; refine (rfrom_c S2.out HSS.out).mono ?_; rw [HF.out]; rintro e w8 ⟨rfl, rfl⟩)
          | (go_at_call 26; refine (lazarusref6_Is.calls gen n dn st os _ W1 HIS.out).mono ?_; rw [HM.out]; rintro e w2 ⟨rfl, hB⟩; have B2 := Aside0.mk (B1.out.trans (hB.mono B1.out.size)); have S2 := Aside0.mk (S1.out.after hB); have N2 := Aside0.mk ((hB.block _ (Array.getElem?_eq_some_iff.1 N1.out).1).trans N1.out); have z0 := (blk_cell N2.out 0).trans rfl; have z1 := (blk_cell N2.out 1).trans rfl; have z2 := (blk_cell N2.out 2).trans rfl; have z3 := (blk_cell N2.out 3).trans rfl; have z4 := (blk_cell N2.out 4).trans rfl; (obtain ⟨As, cs, hcs⟩ := sr_len S2.out); rw [HL.out] at hcs; clear hB x0 x1 x2 x3 x4))
        go_still_tail 14, (by kernel_rfl)
        change wpList _ _ _ _ _ w4.drew
        have SD := Aside0.mk (S4.out.after (below_drew1 (Below.refl _ _)))
        have RD := Aside0.mk (R4.out.below (below_drew1 (Below.refl _ _)))
        have MD : Aside0 (∀ r : Nat, w4.drew.heap[r]? = w4.heap[r]?) := ⟨fun _ => rfl⟩
        generalize w4.drew = wd at SD RD MD ⊢
        go_wp2_with (go_at_call 30; refine (sr_put SD.out (a : Int) (rm : Int) (gen + 1) A c b RD.out L3.out (by have := HBL.out; omega) HBY.out HPP.out (by have := HA.out; omega) (by have := HA.out; omega)).mono ?_; unfold SPutPost; rw [HPU.out]; rintro e w6 ⟨rfl, hS, hM⟩; have S6 := Aside0.mk hS; have M6 := Aside0.mk hM; clear hS hM)
        refine bodyPost_ret (v := .tuple #[.int .i64 (0), .int .i64 (E)]) (by simp [results, Tryz.results10, go_sem]) rfl ?_
        exact ⟨by first | rfl | rw [HPU.out], S6.out.less (fun x hx => List.mem_append_right _ (List.mem_cons_of_mem _ hx)), fun x hx => (M6.out x ((fun x hx => List.mem_append_right _ (List.mem_cons_of_mem _ hx)) x hx)).trans ((MD.out x).trans ((B4.out.block x (HX.out x hx))))⟩
open Go.Proofs.YtkicekddkgehoaaGreatDoor.Dsk hiding R_plain conv_str cell_of_heap C_blk
open Go.Proofs.YtkicekddkgehoaaGreatDoor.«Hnd» hiding KeptB
attribute [local go_sem] Oper.semAt_some
/-! The journal is read, the document's way. -/
def RScanPost (w0 : World) (xs : List Nat) (W : World) (g : Nat) (d : DS) (r : List S35 × Nat) (e : Ending) (w' : World) : Prop :=
  ∃ v, e = .returned (.tuple #[v, .int .i64 (r.2 : Int)]) ∧ Kd.R k35 35 w' W.heap.size (fun _ => True) v r.1 ∧ SR w0 xs w' g d ∧ Below W.heap.size W w'
theorem SR.append {w0 W w1 : World} {xs : List Nat} {g : Nat} {d : DS} {v v1 : Value} (h : SR w0 xs W g d) (hv : ∀ r, v.ownBlock = some r → r ∈ xs ∧ w0.heap.size ≤ r) (hg : W.grownBy w1 v.ownBlock) (hb : Below w0.heap.size w0 w1) (hat : v1.ownBlock = v.ownBlock ∨ ∃ b, v1.ownBlock = some b ∧ W.heap.size ≤ b)
    (hlt : ∀ r, v1.ownBlock = some r → r < w1.heap.size) : ∃ ys, SR w0 (ys ++ xs) w1 g d ∧ ∀ r, v1.ownBlock = some r → r ∈ ys ++ xs := by
  have hlow : ∀ k, k < w0.heap.size → w1.heap[k]? = W.heap[k]? := fun k hk => (hb.block k hk).trans (h.2.1.block k hk).symm
  rcases hat with e | ⟨b, e, hge⟩
  · refine ⟨[], ⟨h.1.step (fun k hk hk2 => hg.block k hk2 (fun e => hk.2 (hv k e.symm).1)) hlow, hb, fun x hx => Nat.lt_of_lt_of_le (h.2.2 x hx) hg.size⟩, fun r hr => by rw [e] at hr; exact (hv r hr).1⟩
  · refine ⟨[b], ⟨((h.1.bound.mono (ok' := fun k => w0.heap.size ≤ k ∧ k ∉ xs ∧ k ≠ b) (fun k hk => ⟨hk.1.1, hk.1.2, fun e => by have := hk.2.2.1; omega⟩)).step (w1 := w1) (fun k hk hk2 => hg.block k hk2 (fun e => hk.2.1 (hv k e.symm).1)) hlow).mono (fun k hk => ⟨hk.1, fun e => (List.mem_cons.1 e).elim hk.2.2 hk.2.1⟩), hb, fun x hx => (List.mem_cons.1 hx).elim (fun e2 => by rw [e2]; exact hlt b e) (fun hx => Nat.lt_of_lt_of_le (h.2.2 x hx) hg.size)⟩, fun r hr => by rw [e] at hr; injection hr with hr; rw [← hr]; simp⟩
set_option maxHeartbeats 8000000 in
set_option maxRecDepth 100000 in
theorem rscan_c {w0 W : World} {xs : List Nat} {g : Nat} {d : DS} (h : SR w0 xs W g d) (gen : Int) (hB : d.AllB) (hS : d.S.length ≤ 4000) :
    Calls Tryz.prog 14 #[.pointer (some ⟨g, 0, none⟩), .int .i64 gen] W (RScanPost w0 xs W g d (scanM crcO d gen)) := by
  obtain ⟨f, hf⟩ : ∃ f, 2 * d.room = f := ⟨_, rfl⟩
  have HF := Aside0.mk hf
  have H := Aside0.mk h
  have HSS := Aside0.mk hS
  have HAB := Aside0.mk hB
  obtain ⟨s, hs⟩ : ∃ s, d.S.length = s := ⟨_, rfl⟩
  have HL := Aside0.mk hs
  have hfs : f ≤ s := by have := DS.room2 d; omega
  have hs4 := hS
  rw [hs] at hs4
  obtain ⟨res, hres⟩ : ∃ res, scanM crcO d gen = res := ⟨_, rfl⟩
  have hsc : (0 ≤ gen ∧ gen < 2147483647) → res = scanL crcO d gen (s + 1) f := fun hg => by rw [← hres]; unfold scanM; rw [if_pos hg, hs, hf]
  have hsn : ¬ (0 ≤ gen ∧ gen < 2147483647) → res = ([], f) := fun hg => by rw [← hres]; unfold scanM; rw [if_neg hg, hf]
  rw [hres]
  have HSC := Aside0.mk hsc
  have HSN := Aside0.mk hsn
  have HFS := Aside0.mk hfs
  have HS4 := Aside0.mk hs4
  unfold RScanPost
  clear h hS hB hf hs hfs hsc hsn hres hs4
  by_cases hg : 0 ≤ gen ∧ gen < 2147483647
  case neg =>
    have hr := HSN.out hg
    go_enter Tryz.func14, Tryz.ntmps14
    go_wp2_with (go_at_call 6; refine (rfrom_c H.out HSS.out).mono ?_; rw [HF.out]; rintro e w8 ⟨rfl, rfl⟩)
    go_loopw [6, 7] (fun u6 u7 wr => wr = W ∧ u6 = .int .i64 (f : Int) ∧ u7 = .slice none 0 0) (fun _ _ _ => 0)
    case atStart => exact ⟨rfl, rfl, rfl⟩
    case round =>
      obtain ⟨rfl, rfl, rfl⟩ := hrel
      by_cases h1 : 0 ≤ gen
      · have d1 : decide (gen ≥ 0) = true := decide_eq_true h1
        have d1' : decide (0 ≤ gen) = true := decide_eq_true h1
        have d2 : decide (gen < 2147483647) = false := decide_eq_false (by omega)
        clear hg h1
        go_wp2
        exact bodyPost_ret (v := .tuple #[.slice none 0 0, .int .i64 (f : Int)]) (by simp [results, Tryz.results14, go_sem]) rfl ⟨_, by rw [hr], by rw [hr]; exact Kd.R_nil _ _ _ _ _, H.out, Below.refl _ _⟩
      · have d1 : decide (gen ≥ 0) = false := decide_eq_false (by omega)
        have d1' : decide (0 ≤ gen) = false := decide_eq_false h1
        clear hg h1
        go_wp2
        exact bodyPost_ret (v := .tuple #[.slice none 0 0, .int .i64 (f : Int)]) (by simp [results, Tryz.results14, go_sem]) rfl ⟨_, by rw [hr], by rw [hr]; exact Kd.R_nil _ _ _ _ _, H.out, Below.refl _ _⟩
  case pos =>
    have hg1 : decide (gen ≥ 0) = true := decide_eq_true hg.1
    have hg1' : decide (0 ≤ gen) = true := decide_eq_true hg.1
    have hg2 : decide (gen < 2147483647) = true := decide_eq_true hg.2
    have hu0 : IntKind.i64.wrap (gen + 1) = gen + 1 := by rw [IntKind.wrap_i64]; omega
    have hu1 : wrap64 (gen + 1) = gen + 1 := by unfold wrap64; omega
    have hu2 : IntKind.u32.wrap (gen + 1) = gen + 1 := by rw [IntKind.wrap_u32]; omega
    have HG := Aside0.mk hg
    clear hg
    go_enter Tryz.func14, Tryz.ntmps14
    go_wp2_with (go_at_call 6; refine (rfrom_c H.out HSS.out).mono ?_; rw [HF.out]; rintro e w8 ⟨rfl, rfl⟩)
    go_loopw [6, 7] (fun u6 u7 wr => ∃ (l : List S35) (nx k : Nat) (ys : List Nat), u6 = .int .i64 (nx : Int) ∧ Aside0 (nx ≤ s) ∧ Aside0 (s < k + nx) ∧ Aside0 (l.length ≤ nx) ∧ Aside0 (res = (l ++ (scanL crcO d gen k nx).1, (scanL crcO d gen k nx).2)) ∧ Aside0 (Kd.R k35 35 wr W.heap.size (fun _ => True) u7 l) ∧ Aside0 (SR w0 (ys ++ xs) wr g d) ∧ Aside0 (∀ r, u7.ownBlock = some r → r ∈ ys ++ xs) ∧ Aside0 (Below W.heap.size W wr)) (fun u6 _ _ => s + 1 - (intOf u6).toNat)
    case atStart => exact ⟨[], f, s + 1, [], rfl, HFS, ⟨by omega⟩, ⟨Nat.zero_le _⟩, ⟨by rw [HSC.out HG.out]; rfl⟩, ⟨Kd.R_nil _ _ _ _ _⟩, H, ⟨fun r hr => by cases hr⟩, ⟨Below.refl _ _⟩⟩
    case round =>
      obtain ⟨l, nx, k, ys, rfl, HNX, HK, HLN, HR, HO, HS, HY, HBW⟩ := hrel
      obtain ⟨k, rfl⟩ : ∃ j, k = j + 1 := ⟨k - 1, by have := HK.out; have := HNX.out; omega⟩
      obtain ⟨As, cs, hcs⟩ := sr_len HS.out
      rw [HL.out] at hcs
      obtain ⟨rm, hrm⟩ : ∃ rm : Nat, s - nx = rm := ⟨_, rfl⟩
      have hnx := HNX.out
      have hs4 := HS4.out
      have hsub : (s : Int) - (nx : Int) = (rm : Int) := by omega
      obtain ⟨tg, b, ok, hG⟩ : ∃ tg x ok, DS.get crcO d (nx : Int) ((s : Int) - (nx : Int)) = (tg, x, ok) := ⟨_, _, _, rfl⟩
      obtain ⟨n1, d1, s1, o1, rk, hRD⟩ : ∃ n1 d1 s1 o1 rk, rdM b = (n1, d1, s1, o1, rk) := ⟨_, _, _, _, _, rfl⟩
      have hgm : gotM crcO d gen nx = if ok = true ∧ tg = gen + 1 ∧ rk = true then some (⟨gen, n1, d1, ⟨s1, o1⟩⟩, nx + DS.need b.length) else none := by unfold gotM; rw [HL.out, hG]; dsimp only; rw [hRD]
      have hok := get_ok (crc := crcO) (i := (nx : Int)) (room := (s : Int) - (nx : Int)) HAB.out
      have hno := DS.get_tag crcO d (nx : Int) ((s : Int) - (nx : Int))
      rw [hG] at hok hno
      dsimp only at hok hno
      rw [hsub] at hG hok
      have HGE := Aside0.mk hG
      have HRD := Aside0.mk hRD
      have hwa : IntKind.i64.wrap ((s : Int) - (nx : Int)) = (rm : Int) := by rw [hsub, IntKind.wrap_i64]; omega
      have hwb : wrap64 ((s : Int) - (nx : Int)) = (rm : Int) := by rw [hsub]; unfold wrap64; omega
      have HRM : Aside0 (rm ≤ 4000) := ⟨by omega⟩
      have HX4 : Aside0 (nx ≤ 4000) := ⟨by omega⟩
      have hbb : NBytes b ∧ b.length ≤ 64000 := by
        cases ok with
        | true =>
          obtain ⟨hby, hn1, hn2⟩ := hok rfl
          exact ⟨hby, by unfold DS.need at hn1; clear hwa hwb hu0 hu1 hu2; omega⟩
        | false =>
          rcases hno with h | ⟨_, _, _, _, h⟩
          · have hb : b = [] := congrArg (fun x => x.2.1) h
            rw [hb]
            exact ⟨(fun x hx => by cases hx), by simp⟩
          · cases h
      have HBY := Aside0.mk hbb.1
      have HBL := Aside0.mk hbb.2
      clear hG hRD hbb hno
      by_cases hall : ok = true ∧ tg = gen + 1 ∧ rk = true
      · obtain ⟨rfl, rfl, rfl⟩ := hall
        obtain ⟨hby, hn1, hn2⟩ := hok rfl
        have hnd : DS.need b.length ≤ rm := by clear hwa hwb hu0 hu1 hu2; omega
        have he1 : ((gen + 1) != (gen + 1)) = false := by simp
        have hgm2 := hgm.trans (if_pos ⟨rfl, rfl, rfl⟩)
        have hr : Aside0 (res = ((l ++ [⟨gen, n1, d1, ⟨s1, o1⟩⟩]) ++ (scanL crcO d gen k (nx + DS.need b.length)).1, (scanL crcO d gen k (nx + DS.need b.length)).2)) := ⟨by rw [HR.out, scan_some _ hgm2, List.append_assoc]; rfl⟩
        have hn0 : 1 ≤ DS.need b.length := by unfold DS.need; omega
        obtain ⟨nd, hndq⟩ : ∃ nd, DS.need b.length = nd := ⟨_, rfl⟩
        have ND := Aside0.mk hndq
        rw [hndq] at hr hnd hn0
        obtain ⟨n2, hn2q⟩ : ∃ n2, nx + nd = n2 := ⟨_, rfl⟩
        rw [hn2q] at hr
        have HN2 : Aside0 (n2 ≤ s ∧ s < k + n2 ∧ l.length + 1 ≤ n2 ∧ nx < n2) := ⟨by have h1 := HK.out; have h2 := HLN.out; clear hwa hwb hu0 hu1 hu2 hgm hgm2; omega⟩
        have hwc : IntKind.i64.wrap ((nx : Int) + (nd : Int)) = (n2 : Int) := by clear hwa hwb hu0 hu1 hu2; rw [IntKind.wrap_i64]; omega
        have hwd : wrap64 ((nx : Int) + (nd : Int)) = (n2 : Int) := by clear hwa hwb hu0 hu1 hu2 hwc; unfold wrap64; omega
        clear hok hrm hnx hs4 hsub hgm hby hn1 hn2 hnd hgm2 hn0 hndq hn2q
        go_upto_region 8 with (first
          | (go_at_call 34; refine (refread_c C3.out L3.out HBY.out (by have := HBL.out; omega)).mono ?_; unfold RdPost; rw [HRD.out]; dsimp only; rintro e w4 ⟨rfl, hB⟩; have S4 := Aside0.mk (S3.out.after hB); have O4 := Aside0.mk (Kd.R_below (Kd.R_below HO.out B3.out) hB); have B4 := Aside0.mk ((HBW.out.trans (B3.out.mono HBW.out.size)).trans (hB.mono (HBW.out.trans (B3.out.mono HBW.out.size)).size)); clear hB)
          | (go_at_call 33; refine (sr_get HS.out (nx : Int) (rm : Int) HAB.out (by have := HX4.out; omega) HSS.out (by omega) (by have := HRM.out; omega)).mono ?_; unfold RGetPost; rw [HGE.out]; rintro e w3 ⟨v3, rfl, hR, hS, hB⟩; (obtain ⟨A3, c3, rfl, hl3, hC3, -, -⟩ := R_plain hR); have L3 := Aside0.mk hl3; have C3 := Aside0.mk hC3; have S3 := Aside0.mk hS; have B3 := Aside0.mk hB; clear hR hS hB hl3 hC3))
        have hb5 := below_alloc (Below.refl w4.heap.size w4) (.cells #[.int .i64 gen, .int .i64 n1, .bool d1, .int .i64 s1, .string o1] 35)
        have hn5 := blk_new w4 (.cells #[.int .i64 gen, .int .i64 n1, .bool d1, .int .i64 s1, .string o1] 35)
        obtain ⟨W5, hW5⟩ : ∃ W5, W5 = w4.alloc (.cells #[.int .i64 gen, .int .i64 n1, .bool d1, .int .i64 s1, .string o1] 35) := ⟨_, rfl⟩
        rw [← hW5] at hb5 hn5 ⊢
        have S5 := Aside0.mk (S4.out.after hb5)
        have O5 := Aside0.mk (Kd.R_below O4.out hb5)
        have B5 := Aside0.mk (B4.out.trans (hb5.mono B4.out.size))
        obtain ⟨q5, hq5⟩ : ∃ q5, w4.heap.size = q5 := ⟨_, rfl⟩
        rw [hq5] at hn5 ⊢
        have y0 := (blk_cell hn5 0).trans rfl
        have y1 := (blk_cell hn5 1).trans rfl
        have y2 := (blk_cell hn5 2).trans rfl
        have y3 := (blk_cell hn5 3).trans rfl
        have y4 := (blk_cell hn5 4).trans rfl
        clear hb5 hn5 hW5 hq5
        go_wp2_with (first
          | (go_at_call 28; refine (rneed_c b.length (by have := HBL.out; omega) _).mono ?_; rw [ND.out]; rintro e w7 ⟨rfl, hB⟩; have S7 := Aside0.mk (S6.out.after hB); have O7 := Aside0.mk (Kd.R_below O6.out hB); have B7 := Aside0.mk (B6.out.trans (hB.mono B6.out.size)); clear hB)
          | ((with_reducible refine gate_builtin (b := .append) (xs := #[.tmp 55, .tmp 57]) rfl ?_); at_builtin; refine Kd.R_append k35 (w0 := W) W.heap.size rfl (.tmp 55) (.tmp 57) 22 35 (.agg #[.int .i64 0, .int .i64 0, .bool false, .int .i64 0, .string ⟨#[]⟩]) 48 rfl Tryz.underlying22 infoMk rfl (by decide) (by omega) u7 l (⟨gen, n1, d1, ⟨s1, o1⟩⟩ : S35) [.int .i64 gen, .int .i64 n1, .bool d1, .int .i64 s1, .string o1] (fun _ => True) (fun _ => False) rfl rfl (k35_mkM _ _ _ (⟨gen, n1, d1, ⟨s1, o1⟩⟩ : S35)) (fun _ hk => hk.elim) (fun _ _ => trivial) O5.out B5.out B5.out.size (by have := HN2.out; have := HNX.out; have := HX4.out; have := HLN.out; omega) ?_; intro v1 w6 ho hb hg hat; obtain ⟨ys2, hs6, hy6⟩ := SR.append S5.out (fun r hr => ⟨HY.out r hr, Nat.le_trans H.out.2.1.size (Kd.R_base HO.out r hr)⟩) hg (H.out.2.1.trans (hb.mono H.out.2.1.size)) hat (fun r hr => Kd.R_lt ho r hr); have S6 := Aside0.mk hs6; have Y6 := Aside0.mk hy6; have O6 := Aside0.mk ho; have B6 := Aside0.mk hb; clear ho hb hg hat hs6 hy6))
        exact ⟨⟨l ++ [⟨gen, n1, d1, ⟨s1, o1⟩⟩], n2, k, ys2 ++ ys, rfl, ⟨HN2.out.1⟩, ⟨HN2.out.2.1⟩, ⟨by rw [List.length_append]; exact HN2.out.2.2.1⟩, hr, O7, ⟨by rw [List.append_assoc]; exact S7.out⟩, ⟨by rw [List.append_assoc]; exact Y6.out⟩, B7⟩, by have := HN2.out; simp [intOf]; omega⟩
      · have hr : res = (l, nx) := by rw [HR.out, scan_none _ (hgm.trans (if_neg hall)), List.append_nil]
        have h3 : ok = false ∨ (ok = true ∧ rk = false) ∨ (ok = true ∧ rk = true ∧ (tg != gen + 1) = true) := by
          cases ok with
          | false => exact .inl rfl
          | true =>
            cases rk with
            | false => exact .inr (.inl ⟨rfl, rfl⟩)
            | true => exact .inr (.inr ⟨rfl, rfl, by have : tg ≠ gen + 1 := fun h => hall ⟨rfl, h, rfl⟩; simpa using this⟩)
        clear hok hrm hnx hs4 hsub hgm hall
        rcases h3 with rfl | ⟨rfl, rfl⟩ | ⟨rfl, rfl, he1⟩
        all_goals
          go_wp2_with (first
            | (go_at_call 34; refine (refread_c C3.out L3.out HBY.out (by have := HBL.out; omega)).mono ?_; unfold RdPost; rw [HRD.out]; dsimp only; rintro e w4 ⟨rfl, hB⟩; have S4 := Aside0.mk (S3.out.after hB); have O4 := Aside0.mk (Kd.R_below (Kd.R_below HO.out B3.out) hB); have B4 := Aside0.mk ((HBW.out.trans (B3.out.mono HBW.out.size)).trans (hB.mono (HBW.out.trans (B3.out.mono HBW.out.size)).size)); clear hB)
            | (go_at_call 33; refine (sr_get HS.out (nx : Int) (rm : Int) HAB.out (by have := HX4.out; omega) HSS.out (by omega) (by have := HRM.out; omega)).mono ?_; unfold RGetPost; rw [HGE.out]; rintro e w3 ⟨v3, rfl, hR, hS, hB⟩; (obtain ⟨A3, c3, rfl, hl3, hC3, -, -⟩ := R_plain hR); have L3 := Aside0.mk hl3; have C3 := Aside0.mk hC3; have S3 := Aside0.mk hS; have B3 := Aside0.mk hB; clear hR hS hB hl3 hC3))
          exact bodyPost_ret (v := .tuple #[u7, .int .i64 (nx : Int)]) (by simp [results, Tryz.results14, go_sem]) rfl ⟨u7, by rw [hr], by rw [hr]; exact Kd.R_alloc O4.out _, (S4.out.after (below_alloc (Below.refl _ _) _)).less (fun x hx => List.mem_append_right _ hx), below_alloc B4.out _⟩
open Go.Proofs.YtkicekddkgehoaaGreatDoor.Dsk hiding R_plain conv_str cell_of_heap C_blk
open Go.Proofs.YtkicekddkgehoaaGreatDoor.«Hnd» hiding KeptB
/-! The journal where both disks stand. -/
theorem scanL_len (crc : List Int → Int) (d : DS) (gen : Int) : ∀ (k nx : Nat), (scanL crc d gen k nx).1.length ≤ k
  | 0, _ => Nat.le_refl _
  | k + 1, nx => by
    rw [scanL]
    cases gotM crc d gen nx with
    | none => exact Nat.zero_le _
    | some p =>
      have := scanL_len crc d gen k p.2
      show ((p.1 :: (scanL crc d gen k p.2).1).length) ≤ k + 1
      rw [List.length_cons]
      omega
theorem scanM_len (crc : List Int → Int) (d : DS) (gen : Int) : (scanM crc d gen).1.length ≤ d.S.length + 1 := by
  unfold scanM
  split
  · exact scanL_len _ _ _ _ _
  · exact Nat.zero_le _
section
variable {w0 W : World} {zs : List Nat} {g x : Nat} {d e : DS}
theorem two_append (h : Two w0 zs W g x d e) (at_ gen n : Int) (dn : Bool) (st : Int) (os : ByteArray) (hst : NT.Rng st) (ho : os.size ≤ 1000000) (hS : d.S.length ≤ 4000) (hP : d.P.length < 1073741824) (hT : NTabs W) :
    Calls Tryz.prog 9 #[.pointer (some ⟨g, 0, none⟩), .int .i64 at_, .agg #[.int .i64 gen, .int .i64 n, .bool dn, .int .i64 st, .string os]] W (TwoPost w0 zs W g x (appendM crcO d at_ gen n dn st os).1 e (.tuple #[.int .i64 (appendM crcO d at_ gen n dn st os).2.1, .int .i64 (appendM crcO d at_ gen n dn st os).2.2])) := by
  obtain ⟨xs, h1, h2⟩ := h.first
  exact (append_c h1 at_ gen n dn st os hst ho hS hP hT).mono fun E w' ⟨e1, hS, hM⟩ => ⟨e1, h2 w' _ hS hM⟩
theorem two_append' (h : Two w0 zs W g x d e) (at_ gen n : Int) (dn : Bool) (st : Int) (os : ByteArray) (hst : NT.Rng st) (ho : os.size ≤ 1000000) (hS : e.S.length ≤ 4000) (hP : e.P.length < 1073741824) :
    Calls Tryz.prog 10 #[.pointer (some ⟨x, 0, none⟩), .int .i64 at_, .agg #[.int .i64 gen, .int .i64 n, .bool dn, .int .i64 st, .string os]] W (TwoPost w0 zs W g x d (appendM crcO e at_ gen n dn st os).1 (.tuple #[.int .i64 (appendM crcO e at_ gen n dn st os).2.1, .int .i64 (appendM crcO e at_ gen n dn st os).2.2])) := by
  obtain ⟨xs, h1, h2⟩ := h.second
  exact (rappend_c h1 at_ gen n dn st os hst ho hS hP).mono fun E w' ⟨e1, hS, hM⟩ => ⟨e1, h2 w' _ hS hM⟩
def TwoScan (w0 : World) (zs : List Nat) (W : World) (g x : Nat) (d e : DS) (r : List S35 × Nat) (E : Ending) (w' : World) : Prop := ∃ v, E = .returned (.tuple #[v, .int .i64 (r.2 : Int)]) ∧ Kd.R k35 35 w' W.heap.size (fun _ => True) v r.1 ∧ Two w0 zs w' g x d e ∧ Below W.heap.size W w'
theorem two_scan (h : Two w0 zs W g x d e) (gen : Int) (hB : d.AllB) (hS : d.S.length ≤ 4000) (hT : NTabs W) :
    Calls Tryz.prog 13 #[.pointer (some ⟨g, 0, none⟩), .int .i64 gen] W (TwoScan w0 zs W g x d e (scanM crcO d gen)) := by
  obtain ⟨xs, h1, h2⟩ := h.first
  exact (scan_c h1 gen hB hS hT).mono fun E w' ⟨v, e1, hR, _, hM⟩ => ⟨v, e1, hR, h.after hM, hM⟩
theorem two_scan' (h : Two w0 zs W g x d e) (gen : Int) (hB : e.AllB) (hS : e.S.length ≤ 4000) :
    Calls Tryz.prog 14 #[.pointer (some ⟨x, 0, none⟩), .int .i64 gen] W (TwoScan w0 zs W g x d e (scanM crcO e gen)) := by
  obtain ⟨xs, h1, h2⟩ := h.second
  exact (rscan_c h1 gen hB hS).mono fun E w' ⟨v, e1, hR, _, hM⟩ => ⟨v, e1, hR, h.after hM, hM⟩
theorem two_from (h : Two w0 zs W g x d e) (hS : e.S.length ≤ 4000) : Calls Tryz.prog 6 #[.pointer (some ⟨x, 0, none⟩)] W fun E w' => E = .returned (.int .i64 ((2 * e.room : Nat) : Int)) ∧ W = w' := by
  obtain ⟨xs, h1, h2⟩ := h.second
  exact rfrom_c h1 hS
end
end Go.Proofs.YtkicekddkgehoaaGreatDoor.Mrk
