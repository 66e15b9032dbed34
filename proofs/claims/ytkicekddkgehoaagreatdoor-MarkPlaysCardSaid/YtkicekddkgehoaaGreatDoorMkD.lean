/- The journal on a disk. -/
import Derived.Test.YtkicekddkgehoaaGreatDoorQMarkPlaysx
import Derived.Test.YtkicekddkgehoaaGreatDoorMkB
import Derived.Test.YtkicekddkgehoaaGreatDoorDkB
import Derived.RangeFuncNested
import Derived.RangeFuncBound
import Derived.RangeFuncCalls
import Derived.RangeFuncLeaves
import Derived.RangeFuncBox
import Derived.Shelf.Abstract
import Derived.Shelf.RegionOpen
import Derived.OwnWalkIn
import Derived.TacticsInMore
import Derived.LoopNIn
import Derived.LoopIn
import Derived.Sort.QuietIn
import Derived.Sort.CutIn
import Derived.Stop.RegionWithIn
import Derived.StillTailTactics
import Derived.Shelf.Strconv.AppendIntPublic10
import Derived.Shelf.Strconv.ErrVarParseInt
import Derived.Shelf.Bytes.IndexByte
import Derived.Lib.ItoaLen
import Derived.Lib.ParseIntBTie
import Derived.Lib.AtoiBound
import Derived.Deep.Upon
namespace Go.Proofs.YtkicekddkgehoaaGreatDoor.Mrk
open Go.RowKit Go.Proofs.YtkicekddkgehoaaGreatDoor.QMarkPlays Go.Proofs.YtkicekddkgehoaaGreatDoorW.PrintWords Go.Proofs.YtkicekddkgehoaaGreatDoorW.PrintLast Go.Proofs.YtkicekddkgehoaaGreatDoorW.Dk Go.Shelf
set_option linter.unusedVariables false
set_option linter.unusedSimpArgs false
set_option linter.unusedVariables false
set_option linter.unusedSimpArgs false
open Go.Proofs.YtkicekddkgehoaaGreatDoor.Dsk hiding R_plain conv_str cell_of_heap C_blk
open Go.Proofs.YtkicekddkgehoaaGreatDoor.«Hnd» hiding KeptB
attribute [local go_sem] Oper.semAt_some
/-! The journal on a disk: what each call makes of it, in plain words. -/
def app2 (d : DS) (at_ : Int) (k : Nat) : DS × Int := if (k : Int) < (d.S.length : Int) - at_ then DS.puth d (at_ + (k : Int)) DS.zeros16 else (d, 0)
def app1 (crc : List Int → Int) (d : DS) (at_ gen : Int) (b : List Int) : DS × Int × Int :=
  if (d.S.length : Int) - at_ < (DS.need b.length : Int) then (d, 0, 4) else
    if (app2 d at_ (DS.need b.length)).2 = 0 then
      if (DS.put crc (app2 d at_ (DS.need b.length)).1 at_ ((d.S.length : Int) - at_) (gen + 1) b).2 = 0 then ((DS.put crc (app2 d at_ (DS.need b.length)).1 at_ ((d.S.length : Int) - at_) (gen + 1) b).1, at_ + (DS.need b.length : Int), 0)
      else ((DS.put crc (app2 d at_ (DS.need b.length)).1 at_ ((d.S.length : Int) - at_) (gen + 1) b).1, 0, (DS.put crc (app2 d at_ (DS.need b.length)).1 at_ ((d.S.length : Int) - at_) (gen + 1) b).2)
    else ((app2 d at_ (DS.need b.length)).1, 0, (app2 d at_ (DS.need b.length)).2)
def appendM (crc : List Int → Int) (d : DS) (at_ gen n : Int) (dn : Bool) (st : Int) (os : ByteArray) : DS × Int × Int :=
  if isM gen n dn st os = true ∧ ((2 * d.room : Nat) : Int) ≤ at_ ∧ at_ < (d.S.length : Int) then app1 crc d at_ gen (bytesM gen n dn st os) else (d, 0, 1)
def AppPost (w0 : World) (xs : List Nat) (W : World) (g : Nat) (r : DS × Int × Int) (e : Ending) (w' : World) : Prop := e = .returned (.tuple #[.int .i64 r.2.1, .int .i64 r.2.2]) ∧ St w0 xs w' g r.1 ∧ Sm xs W w'
theorem is_c (gen n : Int) (dn : Bool) (st : Int) (os : ByteArray) (w : World) : Calls Tryz.prog 19 #[.agg #[.int .i64 gen, .int .i64 n, .bool dn, .int .i64 st, .string os]] w fun e w' => e = .returned (.bool (isM gen n dn st os)) ∧ Below w.heap.size w w' :=
  Go.Proofs.YtkicekddkgehoaaGreatDoor.QMarkPlays.mark_is.calls gen n dn st os _ w (mark_is_f gen n dn st os)
theorem st_room {w0 W : World} {xs : List Nat} {g : Nat} {d : DS} (h : St w0 xs W g d) (hS : d.S.length ≤ 4000) :
    Calls Tryz.prog 35 #[.pointer (some ⟨g, 0, none⟩)] W fun e w' => e = .returned (.int .i64 (d.room : Int)) ∧ W = w' := by
  have H := Aside0.mk h
  have hp0 : (0 : Int) ≤ (d.S.length : Int) := by omega
  have hp1 : (d.S.length : Int) ≤ 4000 := by omega
  have HR : Aside0 (((d.S.length : Int) * 3) / 8 = (d.room : Int)) := ⟨by unfold DS.room; omega⟩
  clear h hS
  go_enter Tryz.func35, Tryz.ntmps35
  go_wp2_with (go_at_call 21; refine (st_size H.out).mono ?_; rintro e w8 ⟨rfl, rfl⟩)
  go_ret
  exact ⟨ret_i HR.out, rfl⟩
theorem first_c {w0 W : World} {xs : List Nat} {g : Nat} {d : DS} (h : St w0 xs W g d) (hS : d.S.length ≤ 4000) :
    Calls Tryz.prog 20 #[.pointer (some ⟨g, 0, none⟩)] W fun e w' => e = .returned (.int .i64 ((2 * d.room : Nat) : Int)) ∧ W = w' := by
  have H := Aside0.mk (st_room h hS)
  have hr : d.room ≤ 1500 := by unfold DS.room; omega
  have hp0 : (0 : Int) ≤ (d.room : Int) := by omega
  have hp1 : (d.room : Int) ≤ 1500 := by omega
  have HR : Aside0 (2 * (d.room : Int) = ((2 * d.room : Nat) : Int)) := ⟨by omega⟩
  clear h hS hr
  go_enter Tryz.func20, Tryz.ntmps20
  go_wp2_with (go_at_call 35; refine H.out.mono ?_; rintro e w8 ⟨rfl, rfl⟩)
  go_ret
  exact ⟨ret_i HR.out, rfl⟩
open Go.Proofs.YtkicekddkgehoaaGreatDoor.Dsk hiding R_plain conv_str cell_of_heap C_blk
open Go.Proofs.YtkicekddkgehoaaGreatDoor.«Hnd» hiding KeptB
attribute [local go_sem] Oper.semAt_some
/-! A mark is put into the journal. -/
/-- A row of bytes that is new: no disk made ahead of it touches it. -/
theorem row_own {w0 W w3 : World} {xs : List Nat} {g : Nat} {d : DS} {v : Value} {b : List Int} (h : St w0 xs W g d) (hB : Below W.heap.size W w3) (hR : (Kd.int .u8).R 5 w3 W.heap.size (fun _ => True) v b) :
    ∃ A c ys, v = .slice A b.length c ∧ b.length ≤ c ∧ Rd w0 (ys ++ xs) w3 A b ∧ St w0 (ys ++ xs) w3 g d := by
  obtain ⟨A, c, rfl, hl, hC, -, hb⟩ := R_plain hR
  cases A with
  | none => exact ⟨none, c, [], rfl, hl, ⟨hC, fun ad e => by cases e⟩, h.after hB⟩
  | some ad =>
    have h2 := hb ad rfl
    exact ⟨some ad, c, [ad.block], rfl, hl, ⟨hC, fun a e _ => by cases e; exact ⟨.inr (by simp), h2.2⟩⟩, h.mores hB [ad.block] (fun y hy => by rw [List.mem_singleton.1 hy]; exact h2)⟩
theorem bytesM_len {gen n : Int} {dn : Bool} {st : Int} {os : ByteArray} (hst : NT.Rng st) (ho : os.size ≤ 1000000) : (bytesM gen n dn st os).length ≤ 1000100 := by
  unfold bytesM
  split
  · rename_i hm
    have hn := isM_n hm
    have l1 := num_len_le (n := n) ⟨by omega, by omega⟩
    have l2 := num_len_le (bitM_rng dn)
    have l3 := num_len_le hst
    have l4 := text_len_le (s := os) (by omega)
    rw [List.length_append, List.length_append, List.length_append]
    omega
  · exact Nat.zero_le _
theorem isM_g {gen n : Int} {dn : Bool} {st : Int} {os : ByteArray} (h : isM gen n dn st os = true) : 0 ≤ gen ∧ gen < 2147483647 := by
  unfold isM at h
  rw [Bool.and_eq_true, Bool.and_eq_true] at h
  exact ⟨of_decide_eq_true h.1, of_decide_eq_true h.2.1⟩
set_option maxHeartbeats 8000000 in
set_option maxRecDepth 100000 in
theorem append_c {w0 W : World} {xs : List Nat} {g : Nat} {d : DS} (h : St w0 xs W g d) (at_ gen n : Int) (dn : Bool) (st : Int) (os : ByteArray) (hst : NT.Rng st) (ho : os.size ≤ 1000000) (hS : d.S.length ≤ 4000) (hP : d.P.length < 1073741824) (hT : NTabs W) :
    Calls Tryz.prog 9 #[.pointer (some ⟨g, 0, none⟩), .int .i64 at_, .agg #[.int .i64 gen, .int .i64 n, .bool dn, .int .i64 st, .string os]] W (AppPost w0 xs W g (appendM crcO d at_ gen n dn st os)) := by
  obtain ⟨q, hq⟩ : ∃ q, W.heap.size = q := ⟨_, rfl⟩
  have hb1 := below_alloc (Below.refl W.heap.size W) (.cells #[.int .i64 gen, .int .i64 n, .bool dn, .int .i64 st, .string os] 35)
  have hn1 := blk_new W (.cells #[.int .i64 gen, .int .i64 n, .bool dn, .int .i64 st, .string os] 35)
  obtain ⟨W1, hW1⟩ : ∃ W1, W1 = W.alloc (.cells #[.int .i64 gen, .int .i64 n, .bool dn, .int .i64 st, .string os] 35) := ⟨_, rfl⟩
  rw [← hW1] at hb1 hn1
  have S1 : Aside0 (St w0 (q :: xs) W1 g d) := ⟨hq ▸ h.more hb1 W.heap.size (Nat.le_refl _) (Array.getElem?_eq_some_iff.1 hn1).1⟩
  rw [hq] at hn1
  have HQ := Aside0.mk hq
  have HW1 := Aside0.mk hW1
  have N1 := Aside0.mk hn1
  have T1 := Aside0.mk (hT.on hb1)
  have B1 := Aside0.mk hb1
  have HX := Aside0.mk h.2.2
  have HST := Aside0.mk hst
  have HO := Aside0.mk ho
  have HSS := Aside0.mk hS
  have HPP := Aside0.mk hP
  have HBL := Aside0.mk (bytesM_len (gen := gen) (n := n) (dn := dn) hst ho)
  have x0 := (blk_cell hn1 0).trans rfl
  have x1 := (blk_cell hn1 1).trans rfl
  have x2 := (blk_cell hn1 2).trans rfl
  have x3 := (blk_cell hn1 3).trans rfl
  have x4 := (blk_cell hn1 4).trans rfl
  clear h hst ho hS hP hT hq hb1 hn1 hW1
  cases hm : isM gen n dn st os with
  | false =>
    rw [show appendM crcO d at_ gen n dn st os = (d, 0, 1) from if_neg (fun h => by rw [hm] at h; cases h.1)]
    have HM := Aside0.mk hm
    unfold AppPost
    clear hm HBL
    go_enter Tryz.func9, Tryz.ntmps9
    go_upto_region 1 with (fail)
    rw [← HW1.out, HQ.out]
    go_wp2_with (first
      | (go_at_call 19; refine (is_c gen n dn st os W1).mono ?_; rw [HM.out]; rintro e w2 ⟨rfl, hB⟩; have B2 := Aside0.mk (B1.out.trans (hB.mono B1.out.size)); have S2 := Aside0.mk (S1.out.after hB); have N2 := Aside0.mk ((hB.block _ (Array.getElem?_eq_some_iff.1 N1.out).1).trans N1.out); have T2 := Aside0.mk (T1.out.on hB); have z0 := (blk_cell N2.out 0).trans rfl; have z1 := (blk_cell N2.out 1).trans rfl; have z2 := (blk_cell N2.out 2).trans rfl; have z3 := (blk_cell N2.out 3).trans rfl; have z4 := (blk_cell N2.out 4).trans rfl; clear hB x0 x1 x2 x3 x4))
    refine bodyPost_ret (v := .tuple #[.int .i64 (0), .int .i64 (1)]) (by simp [results, Tryz.results9, go_sem]) rfl ?_
    exact ⟨rfl, S2.out.less (fun x hx => List.mem_cons_of_mem _ hx), fun x hx => B2.out.block x (HX.out x hx)⟩
  | true =>
    have hg := isM_g hm
    have HM := Aside0.mk hm
    obtain ⟨f, hf⟩ : ∃ f, 2 * d.room = f := ⟨_, rfl⟩
    have HF := Aside0.mk hf
    obtain ⟨s, hs⟩ : ∃ s, d.S.length = s := ⟨_, rfl⟩
    have HL := Aside0.mk hs
    have hs4 := HSS.out
    rw [hs] at hs4
    by_cases c1 : at_ < (f : Int)
    · rw [show appendM crcO d at_ gen n dn st os = (d, 0, 1) from if_neg (fun h => by have := h.2.1; rw [hf] at this; omega)]
      have d1 : decide (at_ < (f : Int)) = true := decide_eq_true c1
      unfold AppPost
      clear hm hg hf hs hs4 HBL c1
      go_enter Tryz.func9, Tryz.ntmps9
      go_upto_region 1 with (fail)
      rw [← HW1.out, HQ.out]
      go_wp2_with (first
        | (go_at_call 20; refine (first_c S2.out HSS.out).mono ?_; rw [HF.out]; rintro e w8 ⟨rfl, rfl⟩)
        | (go_at_call 19; refine (is_c gen n dn st os W1).mono ?_; rw [HM.out]; rintro e w2 ⟨rfl, hB⟩; have B2 := Aside0.mk (B1.out.trans (hB.mono B1.out.size)); have S2 := Aside0.mk (S1.out.after hB); have N2 := Aside0.mk ((hB.block _ (Array.getElem?_eq_some_iff.1 N1.out).1).trans N1.out); have T2 := Aside0.mk (T1.out.on hB); have z0 := (blk_cell N2.out 0).trans rfl; have z1 := (blk_cell N2.out 1).trans rfl; have z2 := (blk_cell N2.out 2).trans rfl; have z3 := (blk_cell N2.out 3).trans rfl; have z4 := (blk_cell N2.out 4).trans rfl; clear hB x0 x1 x2 x3 x4))
      refine bodyPost_ret (v := .tuple #[.int .i64 (0), .int .i64 (1)]) (by simp [results, Tryz.results9, go_sem]) rfl ?_
      exact ⟨rfl, S2.out.less (fun x hx => List.mem_cons_of_mem _ hx), fun x hx => B2.out.block x (HX.out x hx)⟩
    have d1 : decide (at_ < (f : Int)) = false := decide_eq_false c1
    by_cases c2 : (s : Int) ≤ at_
    · rw [show appendM crcO d at_ gen n dn st os = (d, 0, 1) from if_neg (fun h => by have := h.2.2; rw [hs] at this; omega)]
      have d2 : decide ((s : Int) ≤ at_) = true := decide_eq_true c2
      have d3 : decide (at_ ≥ (s : Int)) = true := decide_eq_true c2
      unfold AppPost
      clear hm hg hf hs hs4 HBL c1 c2
      go_enter Tryz.func9, Tryz.ntmps9
      go_upto_region 1 with (fail)
      rw [← HW1.out, HQ.out]
      go_wp2_with (first
        | (go_at_call 21; refine (st_size S2.out).mono ?_; rw [HL.out]; rintro e w8 ⟨rfl, rfl⟩)
        | (go_at_call 20; refine (first_c S2.out HSS.out).mono ?_; rw [HF.out]; rintro e w8 ⟨rfl, rfl⟩)
        | (go_at_call 19; refine (is_c gen n dn st os W1).mono ?_; rw [HM.out]; rintro e w2 ⟨rfl, hB⟩; have B2 := Aside0.mk (B1.out.trans (hB.mono B1.out.size)); have S2 := Aside0.mk (S1.out.after hB); have N2 := Aside0.mk ((hB.block _ (Array.getElem?_eq_some_iff.1 N1.out).1).trans N1.out); have T2 := Aside0.mk (T1.out.on hB); have z0 := (blk_cell N2.out 0).trans rfl; have z1 := (blk_cell N2.out 1).trans rfl; have z2 := (blk_cell N2.out 2).trans rfl; have z3 := (blk_cell N2.out 3).trans rfl; have z4 := (blk_cell N2.out 4).trans rfl; clear hB x0 x1 x2 x3 x4))
      refine bodyPost_ret (v := .tuple #[.int .i64 (0), .int .i64 (1)]) (by simp [results, Tryz.results9, go_sem]) rfl ?_
      exact ⟨rfl, S2.out.less (fun x hx => List.mem_cons_of_mem _ hx), fun x hx => B2.out.block x (HX.out x hx)⟩
    have d2 : decide ((s : Int) ≤ at_) = false := decide_eq_false c2
    have d3 : decide (at_ ≥ (s : Int)) = false := decide_eq_false c2
    obtain ⟨a, rfl⟩ : ∃ a : Nat, at_ = (a : Int) := ⟨at_.toNat, by omega⟩
    have d1n : decide (a < f) = false := decide_eq_false (by omega)
    have d2n : decide (s ≤ a) = false := decide_eq_false (by omega)
    obtain ⟨rm, hrm⟩ : ∃ rm : Nat, s - a = rm := ⟨_, rfl⟩
    have hsub : (s : Int) - (a : Int) = (rm : Int) := by omega
    obtain ⟨b, hb⟩ : ∃ b, bytesM gen n dn st os = b := ⟨_, rfl⟩
    have HBB := Aside0.mk hb
    rw [hb] at HBL
    have hap : appendM crcO d (a : Int) gen n dn st os = app1 crcO d (a : Int) gen b := by
      unfold appendM
      rw [if_pos ⟨hm, by rw [hf]; omega, by rw [hs]; omega⟩, hb]
    obtain ⟨nd, hnd⟩ : ∃ nd, DS.need b.length = nd := ⟨_, rfl⟩
    have ND := Aside0.mk hnd
    have hndl : nd ≤ 100000 := by rw [← hnd]; have := HBL.out; unfold DS.need; omega
    unfold app1 at hap
    rw [hnd, hs, hsub] at hap
    have hwa : IntKind.i64.wrap ((s : Int) - (a : Int)) = (rm : Int) := by rw [hsub, IntKind.wrap_i64]; omega
    have hwb : wrap64 ((s : Int) - (a : Int)) = (rm : Int) := by rw [hsub]; unfold wrap64; omega
    have HA : Aside0 (a ≤ 4000) := ⟨by omega⟩
    by_cases c3 : rm < nd
    · have e1 : appendM crcO d (a : Int) gen n dn st os = (d, 0, 4) := by rw [hap, if_pos (by omega)]
      rw [e1]
      have d4 : decide ((nd : Int) > (rm : Int)) = true := decide_eq_true (by omega)
      have d5 : decide ((rm : Int) < (nd : Int)) = true := decide_eq_true (by omega)
      have d6 : decide (rm < nd) = true := decide_eq_true c3
      unfold AppPost
      clear hm hg hf hs hs4 c1 c2 hrm hsub hb hap hnd hndl c3 e1
      go_enter Tryz.func9, Tryz.ntmps9
      go_upto_region 1 with (fail)
      rw [← HW1.out, HQ.out]
      go_wp2_with (first
        | (go_at_call 23; refine (need_c b.length (by have := HBL.out; omega) _).mono ?_; rw [ND.out]; rintro e w4 ⟨rfl, hB⟩; have B4 := Aside0.mk (B3.out.trans (hB.mono B3.out.size)); have S4 := Aside0.mk (S3.out.after hB); have R4 := Aside0.mk (R3.out.below hB); have N4 := Aside0.mk ((hB.block _ (Array.getElem?_eq_some_iff.1 N3.out).1).trans N3.out); clear hB)
        | (go_at_call 21; refine (st_size S3.out).mono ?_; rw [HL.out]; rintro e w8 ⟨rfl, rfl⟩)
        | (go_at_call 21; refine (st_size S2.out).mono ?_; rw [HL.out]; rintro e w8 ⟨rfl, rfl⟩)
        | (go_at_call 22; refine (mbytes_c gen n dn st os HST.out HO.out w2 T2.out).mono ?_; rw [HBB.out]; rintro e w3 ⟨v3, rfl, hR, hB⟩; obtain ⟨A, c, ys, rfl, hl, hrd, hs⟩ := row_own S2.out hB hR; have B3 := Aside0.mk (B2.out.trans (hB.mono B2.out.size)); have S3 := Aside0.mk hs; have R3 := Aside0.mk hrd; have L3 := Aside0.mk hl; have N3 := Aside0.mk ((hB.block _ (Array.getElem?_eq_some_iff.1 N2.out).1).trans N2.out); clear hB hR hl hrd hs z0 z1 z2 z3 z4)
        | (go_at_call 20; refine (first_c S2.out HSS.out).mono ?_; rw [HF.out]; rintro e w8 ⟨rfl, rfl⟩)
        | (go_at_call 19; refine (is_c gen n dn st os W1).mono ?_; rw [HM.out]; rintro e w2 ⟨rfl, hB⟩; have B2 := Aside0.mk (B1.out.trans (hB.mono B1.out.size)); have S2 := Aside0.mk (S1.out.after hB); have N2 := Aside0.mk ((hB.block _ (Array.getElem?_eq_some_iff.1 N1.out).1).trans N1.out); have T2 := Aside0.mk (T1.out.on hB); have z0 := (blk_cell N2.out 0).trans rfl; have z1 := (blk_cell N2.out 1).trans rfl; have z2 := (blk_cell N2.out 2).trans rfl; have z3 := (blk_cell N2.out 3).trans rfl; have z4 := (blk_cell N2.out 4).trans rfl; clear hB x0 x1 x2 x3 x4))
      refine bodyPost_ret (v := .tuple #[.int .i64 (0), .int .i64 (4)]) (by simp [results, Tryz.results9, go_sem]) rfl ?_
      exact ⟨rfl, S4.out.less (fun x hx => List.mem_append_right _ (List.mem_cons_of_mem _ hx)), fun x hx => B4.out.block x (HX.out x hx)⟩
    have d4 : decide ((nd : Int) > (rm : Int)) = false := decide_eq_false (by omega)
    have d5 : decide ((rm : Int) < (nd : Int)) = false := decide_eq_false (by omega)
    have d6 : decide (rm < nd) = false := decide_eq_false c3
    have hu1 : IntKind.u32.wrap gen = gen := by rw [IntKind.wrap_u32]; omega
    have hu2 : IntKind.u32.wrap (gen + 1) = gen + 1 := by rw [IntKind.wrap_u32]; omega
    rw [if_neg (by omega)] at hap
    obtain ⟨z, hz⟩ : ∃ z : Int, (a : Int) + (nd : Int) = z := ⟨_, rfl⟩
    have hwz1 : IntKind.i64.wrap ((a : Int) + (nd : Int)) = z := by rw [hz, IntKind.wrap_i64]; omega
    have hwz2 : wrap64 ((a : Int) + (nd : Int)) = z := by rw [hz]; unfold wrap64; omega
    by_cases c4 : nd < rm
    · have e2 : app2 d (a : Int) nd = DS.puth d z DS.zeros16 := by unfold app2; rw [if_pos (by rw [hs]; omega), hz]
      rw [e2] at hap
      have d7 : decide ((nd : Int) < (rm : Int)) = true := decide_eq_true (by omega)
      have d8 : decide (nd < rm) = true := decide_eq_true c4
      by_cases c5 : (DS.puth d z DS.zeros16).2 = 0
      · rw [if_pos c5] at hap
        have HC := Aside0.mk c5
        have HP2 : Aside0 ((DS.puth d z DS.zeros16).1.P.length < 1073741824) := ⟨by rw [DS.puth_P _ _ _ c5]; decide⟩
        by_cases c6 : (DS.put crcO (DS.puth d z DS.zeros16).1 (a : Int) (rm : Int) (gen + 1) b).2 = 0
        · rw [if_pos c6, hz] at hap
          rw [hap]
          have HPU := Aside0.mk c6
          unfold AppPost
          clear hm hg hf hs hs4 c1 c2 hrm hsub hb hap hnd hndl c3 hz c4 c5 c6 e2
          go_enter Tryz.func9, Tryz.ntmps9
          go_upto_region 1 with (fail)
          rw [← HW1.out, HQ.out]
          go_wp2_with (first
            | (go_at_call 25; refine (st_putS S5.out (a : Int) (rm : Int) (gen + 1) A c b R5.out L3.out (by have := HBL.out; omega) HP2.out (by have := HA.out; omega) (by have := HA.out; omega)).mono ?_; unfold PutPost; rw [HPU.out]; rintro e w6 ⟨rfl, hS, hM, -⟩; have S6 := Aside0.mk hS; have M6 := Aside0.mk hM; clear hS hM)
            | (go_at_call 24; refine (st_clear S4.out z (by have := HPP.out; omega)).mono ?_; rw [show List.replicate 16 (0 : Int) = DS.zeros16 from rfl, HC.out]; rintro e w5 ⟨rfl, hS, hM⟩; have S5 := Aside0.mk hS; have M5 := Aside0.mk hM; have R5 := Aside0.mk (R4.out.step' S4.out.2.1 hS.2.1 hS.2.2 hM); have N5 := Aside0.mk ((hM q (by simp)).trans N4.out); have z0 := (blk_cell N5.out 0).trans rfl; clear hS hM)
            | (go_at_call 23; refine (need_c b.length (by have := HBL.out; omega) _).mono ?_; rw [ND.out]; rintro e w4 ⟨rfl, hB⟩; have B4 := Aside0.mk (B3.out.trans (hB.mono B3.out.size)); have S4 := Aside0.mk (S3.out.after hB); have R4 := Aside0.mk (R3.out.below hB); have N4 := Aside0.mk ((hB.block _ (Array.getElem?_eq_some_iff.1 N3.out).1).trans N3.out); clear hB)
            | (go_at_call 21; refine (st_size S3.out).mono ?_; rw [HL.out]; rintro e w8 ⟨rfl, rfl⟩)
            | (go_at_call 21; refine (st_size S2.out).mono ?_; rw [HL.out]; rintro e w8 ⟨rfl, rfl⟩)
            | (go_at_call 22; refine (mbytes_c gen n dn st os HST.out HO.out w2 T2.out).mono ?_; rw [HBB.out]; rintro e w3 ⟨v3, rfl, hR, hB⟩; obtain ⟨A, c, ys, rfl, hl, hrd, hs⟩ := row_own S2.out hB hR; have B3 := Aside0.mk (B2.out.trans (hB.mono B2.out.size)); have S3 := Aside0.mk hs; have R3 := Aside0.mk hrd; have L3 := Aside0.mk hl; have N3 := Aside0.mk ((hB.block _ (Array.getElem?_eq_some_iff.1 N2.out).1).trans N2.out); clear hB hR hl hrd hs z0 z1 z2 z3 z4)
            | (go_at_call 20; refine (first_c S2.out HSS.out).mono ?_; rw [HF.out]; rintro e w8 ⟨rfl, rfl⟩)
            | (go_at_call 19; refine (is_c gen n dn st os W1).mono ?_; rw [HM.out]; rintro e w2 ⟨rfl, hB⟩; have B2 := Aside0.mk (B1.out.trans (hB.mono B1.out.size)); have S2 := Aside0.mk (S1.out.after hB); have N2 := Aside0.mk ((hB.block _ (Array.getElem?_eq_some_iff.1 N1.out).1).trans N1.out); have T2 := Aside0.mk (T1.out.on hB); have z0 := (blk_cell N2.out 0).trans rfl; have z1 := (blk_cell N2.out 1).trans rfl; have z2 := (blk_cell N2.out 2).trans rfl; have z3 := (blk_cell N2.out 3).trans rfl; have z4 := (blk_cell N2.out 4).trans rfl; clear hB x0 x1 x2 x3 x4))
          refine bodyPost_ret (v := .tuple #[.int .i64 (z), .int .i64 (0)]) (by simp [results, Tryz.results9, go_sem]) rfl ?_
          exact ⟨rfl, S6.out.less (fun x hx => List.mem_append_right _ (List.mem_cons_of_mem _ hx)), fun x hx => (M6.out x ((fun x hx => List.mem_append_right _ (List.mem_cons_of_mem _ hx)) x hx)).trans ((M5.out x ((fun x hx => List.mem_append_right _ (List.mem_cons_of_mem _ hx)) x hx)).trans (B4.out.block x (HX.out x hx)))⟩
        · rw [if_neg c6] at hap
          rw [hap]
          have hb1 : ((DS.put crcO (DS.puth d z DS.zeros16).1 (a : Int) (rm : Int) (gen + 1) b).2 != 0) = true := by simpa using c6
          have hb2 : ((DS.put crcO (DS.puth d z DS.zeros16).1 (a : Int) (rm : Int) (gen + 1) b).2 == 0) = false := by simpa using c6
          generalize hE : (DS.put crcO (DS.puth d z DS.zeros16).1 (a : Int) (rm : Int) (gen + 1) b).2 = E at hb1 hb2
          have HPU := Aside0.mk hE
          unfold AppPost
          clear hm hg hf hs hs4 c1 c2 hrm hsub hb hap hnd hndl c3 hz c4 c5 c6 e2 hE
          go_enter Tryz.func9, Tryz.ntmps9
          go_upto_region 1 with (fail)
          rw [← HW1.out, HQ.out]
          go_wp2_with (first
            | (go_at_call 25; refine (st_putS S5.out (a : Int) (rm : Int) (gen + 1) A c b R5.out L3.out (by have := HBL.out; omega) HP2.out (by have := HA.out; omega) (by have := HA.out; omega)).mono ?_; unfold PutPost; rw [HPU.out]; rintro e w6 ⟨rfl, hS, hM, -⟩; have S6 := Aside0.mk hS; have M6 := Aside0.mk hM; clear hS hM)
            | (go_at_call 24; refine (st_clear S4.out z (by have := HPP.out; omega)).mono ?_; rw [show List.replicate 16 (0 : Int) = DS.zeros16 from rfl, HC.out]; rintro e w5 ⟨rfl, hS, hM⟩; have S5 := Aside0.mk hS; have M5 := Aside0.mk hM; have R5 := Aside0.mk (R4.out.step' S4.out.2.1 hS.2.1 hS.2.2 hM); have N5 := Aside0.mk ((hM q (by simp)).trans N4.out); have z0 := (blk_cell N5.out 0).trans rfl; clear hS hM)
            | (go_at_call 23; refine (need_c b.length (by have := HBL.out; omega) _).mono ?_; rw [ND.out]; rintro e w4 ⟨rfl, hB⟩; have B4 := Aside0.mk (B3.out.trans (hB.mono B3.out.size)); have S4 := Aside0.mk (S3.out.after hB); have R4 := Aside0.mk (R3.out.below hB); have N4 := Aside0.mk ((hB.block _ (Array.getElem?_eq_some_iff.1 N3.out).1).trans N3.out); clear hB)
            | (go_at_call 21; refine (st_size S3.out).mono ?_; rw [HL.out]; rintro e w8 ⟨rfl, rfl⟩)
            | (go_at_call 21; refine (st_size S2.out).mono ?_; rw [HL.out]; rintro e w8 ⟨rfl, rfl⟩)
            | (go_at_call 22; refine (mbytes_c gen n dn st os HST.out HO.out w2 T2.out).mono ?_; rw [HBB.out]; rintro e w3 ⟨v3, rfl, hR, hB⟩; obtain ⟨A, c, ys, rfl, hl, hrd, hs⟩ := row_own S2.out hB hR; have B3 := Aside0.mk (B2.out.trans (hB.mono B2.out.size)); have S3 := Aside0.mk hs; have R3 := Aside0.mk hrd; have L3 := Aside0.mk hl; have N3 := Aside0.mk ((hB.block _ (Array.getElem?_eq_some_iff.1 N2.out).1).trans N2.out); clear hB hR hl hrd hs z0 z1 z2 z3 z4)
            | (go_at_call 20; refine (first_c S2.out HSS.out).mono ?_; rw [HF.out]; rintro e w8 ⟨rfl, rfl⟩)
            | (go_at_call 19; refine (is_c gen n dn st os W1).mono ?_; rw [HM.out]; rintro e w2 ⟨rfl, hB⟩; have B2 := Aside0.mk (B1.out.trans (hB.mono B1.out.size)); have S2 := Aside0.mk (S1.out.after hB); have N2 := Aside0.mk ((hB.block _ (Array.getElem?_eq_some_iff.1 N1.out).1).trans N1.out); have T2 := Aside0.mk (T1.out.on hB); have z0 := (blk_cell N2.out 0).trans rfl; have z1 := (blk_cell N2.out 1).trans rfl; have z2 := (blk_cell N2.out 2).trans rfl; have z3 := (blk_cell N2.out 3).trans rfl; have z4 := (blk_cell N2.out 4).trans rfl; clear hB x0 x1 x2 x3 x4))
          refine bodyPost_ret (v := .tuple #[.int .i64 (0), .int .i64 (E)]) (by simp [results, Tryz.results9, go_sem]) rfl ?_
          exact ⟨by first | rfl | rw [HPU.out], S6.out.less (fun x hx => List.mem_append_right _ (List.mem_cons_of_mem _ hx)), fun x hx => (M6.out x ((fun x hx => List.mem_append_right _ (List.mem_cons_of_mem _ hx)) x hx)).trans ((M5.out x ((fun x hx => List.mem_append_right _ (List.mem_cons_of_mem _ hx)) x hx)).trans (B4.out.block x (HX.out x hx)))⟩
      · rw [if_neg c5] at hap
        rw [hap]
        have hb1 : ((DS.puth d z DS.zeros16).2 != 0) = true := by simpa using c5
        have hb2 : ((DS.puth d z DS.zeros16).2 == 0) = false := by simpa using c5
        generalize hE : (DS.puth d z DS.zeros16).2 = E at hb1 hb2
        have HC := Aside0.mk hE
        unfold AppPost
        clear hm hg hf hs hs4 c1 c2 hrm hsub hb hap hnd hndl c3 hz c4 c5 e2 hE
        go_enter Tryz.func9, Tryz.ntmps9
        go_upto_region 1 with (fail)
        rw [← HW1.out, HQ.out]
        go_wp2_with (first
          | (go_at_call 24; refine (st_clear S4.out z (by have := HPP.out; omega)).mono ?_; rw [show List.replicate 16 (0 : Int) = DS.zeros16 from rfl, HC.out]; rintro e w5 ⟨rfl, hS, hM⟩; have S5 := Aside0.mk hS; have M5 := Aside0.mk hM; have R5 := Aside0.mk (R4.out.step' S4.out.2.1 hS.2.1 hS.2.2 hM); have N5 := Aside0.mk ((hM q (by simp)).trans N4.out); have z0 := (blk_cell N5.out 0).trans rfl; clear hS hM)
          | (go_at_call 23; refine (need_c b.length (by have := HBL.out; omega) _).mono ?_; rw [ND.out]; rintro e w4 ⟨rfl, hB⟩; have B4 := Aside0.mk (B3.out.trans (hB.mono B3.out.size)); have S4 := Aside0.mk (S3.out.after hB); have R4 := Aside0.mk (R3.out.below hB); have N4 := Aside0.mk ((hB.block _ (Array.getElem?_eq_some_iff.1 N3.out).1).trans N3.out); clear hB)
          | (go_at_call 21; refine (st_size S3.out).mono ?_; rw [HL.out]; rintro e w8 ⟨rfl, rfl⟩)
          | (go_at_call 21; refine (st_size S2.out).mono ?_; rw [HL.out]; rintro e w8 ⟨rfl, rfl⟩)
          | (go_at_call 22; refine (mbytes_c gen n dn st os HST.out HO.out w2 T2.out).mono ?_; rw [HBB.out]; rintro e w3 ⟨v3, rfl, hR, hB⟩; obtain ⟨A, c, ys, rfl, hl, hrd, hs⟩ := row_own S2.out hB hR; have B3 := Aside0.mk (B2.out.trans (hB.mono B2.out.size)); have S3 := Aside0.mk hs; have R3 := Aside0.mk hrd; have L3 := Aside0.mk hl; have N3 := Aside0.mk ((hB.block _ (Array.getElem?_eq_some_iff.1 N2.out).1).trans N2.out); clear hB hR hl hrd hs z0 z1 z2 z3 z4)
          | (go_at_call 20; refine (first_c S2.out HSS.out).mono ?_; rw [HF.out]; rintro e w8 ⟨rfl, rfl⟩)
          | (go_at_call 19; refine (is_c gen n dn st os W1).mono ?_; rw [HM.out]; rintro e w2 ⟨rfl, hB⟩; have B2 := Aside0.mk (B1.out.trans (hB.mono B1.out.size)); have S2 := Aside0.mk (S1.out.after hB); have N2 := Aside0.mk ((hB.block _ (Array.getElem?_eq_some_iff.1 N1.out).1).trans N1.out); have T2 := Aside0.mk (T1.out.on hB); have z0 := (blk_cell N2.out 0).trans rfl; have z1 := (blk_cell N2.out 1).trans rfl; have z2 := (blk_cell N2.out 2).trans rfl; have z3 := (blk_cell N2.out 3).trans rfl; have z4 := (blk_cell N2.out 4).trans rfl; clear hB x0 x1 x2 x3 x4))
        refine bodyPost_ret (v := .tuple #[.int .i64 (0), .int .i64 (E)]) (by simp [results, Tryz.results9, go_sem]) rfl ?_
        exact ⟨by first | rfl | rw [HC.out], S5.out.less (fun x hx => List.mem_append_right _ (List.mem_cons_of_mem _ hx)), fun x hx => (M5.out x ((fun x hx => List.mem_append_right _ (List.mem_cons_of_mem _ hx)) x hx)).trans (B4.out.block x (HX.out x hx))⟩
    · have e2 : app2 d (a : Int) nd = (d, 0) := by unfold app2; rw [if_neg (by rw [hs]; omega)]
      rw [e2, if_pos rfl] at hap
      have d7 : decide ((nd : Int) < (rm : Int)) = false := decide_eq_false (by omega)
      have d8 : decide (nd < rm) = false := decide_eq_false c4
      by_cases c6 : (DS.put crcO d (a : Int) (rm : Int) (gen + 1) b).2 = 0
      · rw [if_pos c6, hz] at hap
        rw [hap]
        have HPU := Aside0.mk c6
        unfold AppPost
        clear hm hg hf hs hs4 c1 c2 hrm hsub hb hap hnd hndl c3 hz c4 c6 e2
        go_enter Tryz.func9, Tryz.ntmps9
        go_upto_region 1 with (fail)
        rw [← HW1.out, HQ.out]
        go_wp2_with (first
          | (go_at_call 25; refine (st_putS S4.out (a : Int) (rm : Int) (gen + 1) A c b R4.out L3.out (by have := HBL.out; omega) HPP.out (by have := HA.out; omega) (by have := HA.out; omega)).mono ?_; unfold PutPost; rw [HPU.out]; rintro e w6 ⟨rfl, hS, hM, -⟩; have S6 := Aside0.mk hS; have M6 := Aside0.mk hM; clear hS hM)
          | (go_at_call 23; refine (need_c b.length (by have := HBL.out; omega) _).mono ?_; rw [ND.out]; rintro e w4 ⟨rfl, hB⟩; have B4 := Aside0.mk (B3.out.trans (hB.mono B3.out.size)); have S4 := Aside0.mk (S3.out.after hB); have R4 := Aside0.mk (R3.out.below hB); have N4 := Aside0.mk ((hB.block _ (Array.getElem?_eq_some_iff.1 N3.out).1).trans N3.out); have z0 := (blk_cell N4.out 0).trans rfl; clear hB)
          | (go_at_call 21; refine (st_size S3.out).mono ?_; rw [HL.out]; rintro e w8 ⟨rfl, rfl⟩)
          | (go_at_call 21; refine (st_size S2.out).mono ?_; rw [HL.out]; rintro e w8 ⟨rfl, rfl⟩)
          | (go_at_call 22; refine (mbytes_c gen n dn st os HST.out HO.out w2 T2.out).mono ?_; rw [HBB.out]; rintro e w3 ⟨v3, rfl, hR, hB⟩; obtain ⟨A, c, ys, rfl, hl, hrd, hs⟩ := row_own S2.out hB hR; have B3 := Aside0.mk (B2.out.trans (hB.mono B2.out.size)); have S3 := Aside0.mk hs; have R3 := Aside0.mk hrd; have L3 := Aside0.mk hl; have N3 := Aside0.mk ((hB.block _ (Array.getElem?_eq_some_iff.1 N2.out).1).trans N2.out); clear hB hR hl hrd hs z0 z1 z2 z3 z4)
          | (go_at_call 20; refine (first_c S2.out HSS.out).mono ?_; rw [HF.out]; rintro e w8 ⟨rfl, rfl⟩)
          | (go_at_call 19; refine (is_c gen n dn st os W1).mono ?_; rw [HM.out]; rintro e w2 ⟨rfl, hB⟩; have B2 := Aside0.mk (B1.out.trans (hB.mono B1.out.size)); have S2 := Aside0.mk (S1.out.after hB); have N2 := Aside0.mk ((hB.block _ (Array.getElem?_eq_some_iff.1 N1.out).1).trans N1.out); have T2 := Aside0.mk (T1.out.on hB); have z0 := (blk_cell N2.out 0).trans rfl; have z1 := (blk_cell N2.out 1).trans rfl; have z2 := (blk_cell N2.out 2).trans rfl; have z3 := (blk_cell N2.out 3).trans rfl; have z4 := (blk_cell N2.out 4).trans rfl; clear hB x0 x1 x2 x3 x4))
        refine bodyPost_ret (v := .tuple #[.int .i64 (z), .int .i64 (0)]) (by simp [results, Tryz.results9, go_sem]) rfl ?_
        exact ⟨rfl, S6.out.less (fun x hx => List.mem_append_right _ (List.mem_cons_of_mem _ hx)), fun x hx => (M6.out x ((fun x hx => List.mem_append_right _ (List.mem_cons_of_mem _ hx)) x hx)).trans ((B4.out.block x (HX.out x hx)))⟩
      · rw [if_neg c6] at hap
        rw [hap]
        have hb1 : ((DS.put crcO d (a : Int) (rm : Int) (gen + 1) b).2 != 0) = true := by simpa using c6
        have hb2 : ((DS.put crcO d (a : Int) (rm : Int) (gen + 1) b).2 == 0) = false := by simpa using c6
        generalize hE : (DS.put crcO d (a : Int) (rm : Int) (gen + 1) b).2 = E at hb1 hb2
        have HPU := Aside0.mk hE
        unfold AppPost
        clear hm hg hf hs hs4 c1 c2 hrm hsub hb hap hnd hndl c3 hz c4 c6 e2 hE
        go_enter Tryz.func9, Tryz.ntmps9
        go_upto_region 1 with (fail)
        rw [← HW1.out, HQ.out]
        go_wp2_with (first
          | (go_at_call 25; refine (st_putS S4.out (a : Int) (rm : Int) (gen + 1) A c b R4.out L3.out (by have := HBL.out; omega) HPP.out (by have := HA.out; omega) (by have := HA.out; omega)).mono ?_; unfold PutPost; rw [HPU.out]; rintro e w6 ⟨rfl, hS, hM, -⟩; have S6 := Aside0.mk hS; have M6 := Aside0.mk hM; clear hS hM)
          | (go_at_call 23; refine (need_c b.length (by have := HBL.out; omega) _).mono ?_; rw [ND.out]; rintro e w4 ⟨rfl, hB⟩; have B4 := Aside0.mk (B3.out.trans (hB.mono B3.out.size)); have S4 := Aside0.mk (S3.out.after hB); have R4 := Aside0.mk (R3.out.below hB); have N4 := Aside0.mk ((hB.block _ (Array.getElem?_eq_some_iff.1 N3.out).1).trans N3.out); have z0 := (blk_cell N4.out 0).trans rfl; clear hB)
          | (go_at_call 21; refine (st_size S3.out).mono ?_; rw [HL.out]; rintro e w8 ⟨rfl, rfl⟩)
          | (go_at_call 21; refine (st_size S2.out).mono ?_; rw [HL.out]; rintro e w8 ⟨rfl, rfl⟩)
          | (go_at_call 22; refine (mbytes_c gen n dn st os HST.out HO.out w2 T2.out).mono ?_; rw [HBB.out]; rintro e w3 ⟨v3, rfl, hR, hB⟩; obtain ⟨A, c, ys, rfl, hl, hrd, hs⟩ := row_own S2.out hB hR; have B3 := Aside0.mk (B2.out.trans (hB.mono B2.out.size)); have S3 := Aside0.mk hs; have R3 := Aside0.mk hrd; have L3 := Aside0.mk hl; have N3 := Aside0.mk ((hB.block _ (Array.getElem?_eq_some_iff.1 N2.out).1).trans N2.out); clear hB hR hl hrd hs z0 z1 z2 z3 z4)
          | (go_at_call 20; refine (first_c S2.out HSS.out).mono ?_; rw [HF.out]; rintro e w8 ⟨rfl, rfl⟩)
          | (go_at_call 19; refine (is_c gen n dn st os W1).mono ?_; rw [HM.out]; rintro e w2 ⟨rfl, hB⟩; have B2 := Aside0.mk (B1.out.trans (hB.mono B1.out.size)); have S2 := Aside0.mk (S1.out.after hB); have N2 := Aside0.mk ((hB.block _ (Array.getElem?_eq_some_iff.1 N1.out).1).trans N1.out); have T2 := Aside0.mk (T1.out.on hB); have z0 := (blk_cell N2.out 0).trans rfl; have z1 := (blk_cell N2.out 1).trans rfl; have z2 := (blk_cell N2.out 2).trans rfl; have z3 := (blk_cell N2.out 3).trans rfl; have z4 := (blk_cell N2.out 4).trans rfl; clear hB x0 x1 x2 x3 x4))
        refine bodyPost_ret (v := .tuple #[.int .i64 (0), .int .i64 (E)]) (by simp [results, Tryz.results9, go_sem]) rfl ?_
        exact ⟨by first | rfl | rw [HPU.out], S6.out.less (fun x hx => List.mem_append_right _ (List.mem_cons_of_mem _ hx)), fun x hx => (M6.out x ((fun x hx => List.mem_append_right _ (List.mem_cons_of_mem _ hx)) x hx)).trans (B4.out.block x (HX.out x hx))⟩
open Go.Proofs.YtkicekddkgehoaaGreatDoor.Dsk hiding R_plain conv_str cell_of_heap C_blk
open Go.Proofs.YtkicekddkgehoaaGreatDoor.«Hnd» hiding KeptB
attribute [local go_sem] Oper.semAt_some
/-! The journal is read. -/
theorem grab_bytes {d : DS} (h : d.AllB) : ∀ (k : Nat) (i : Int), DS.Bytes (DS.grab d i k)
  | 0, _ => DS.bytes_nil
  | k + 1, i => DS.bytes_app (DS.rd_bytes h i) (grab_bytes h k (i + 1))
theorem need_mono {a b : Nat} (h : a ≤ b) : DS.need a ≤ DS.need b := by unfold DS.need; omega
theorem get_ok {crc : List Int → Int} {d : DS} {i room : Int} (hd : d.AllB) (h : (DS.get crc d i room).2.2 = true) : DS.Bytes (DS.get crc d i room).2.1 ∧ (DS.need (DS.get crc d i room).2.1.length : Int) ≤ room ∧ (DS.need (DS.get crc d i room).2.1.length : Int) ≤ d.S.length - i := by
  unfold DS.get at h ⊢
  split at h
  · cases h
  · rename_i h1
    rw [if_neg h1]
    split at h
    · cases h
    · rename_i h2
      rw [if_neg h2]
      split at h
      · rename_i h3
        rw [if_pos h3]
        have hl : ((DS.grab d (i + 1) (DS.need (DS.get4 ((d.rd i).drop 4)).toNat - 1)).take (DS.get4 ((d.rd i).drop 4)).toNat).length ≤ (DS.get4 ((d.rd i).drop 4)).toNat := by rw [List.length_take]; omega
        have hn := need_mono hl
        exact ⟨DS.bytes_take (grab_bytes hd _ _) _, by dsimp only; omega, by dsimp only; omega⟩
      · cases h
/-- The mark at a sector, of a generation, and the sector behind it. -/
def gotM (crc : List Int → Int) (d : DS) (gen : Int) (nx : Nat) : Option (S35 × Nat) :=
  if (DS.get crc d nx ((d.S.length : Int) - nx)).2.2 = true ∧ (DS.get crc d nx ((d.S.length : Int) - nx)).1 = gen + 1 ∧ (rdM (DS.get crc d nx ((d.S.length : Int) - nx)).2.1).2.2.2.2 = true then
    some (⟨gen, (rdM (DS.get crc d nx ((d.S.length : Int) - nx)).2.1).1, (rdM (DS.get crc d nx ((d.S.length : Int) - nx)).2.1).2.1, ⟨(rdM (DS.get crc d nx ((d.S.length : Int) - nx)).2.1).2.2.1, (rdM (DS.get crc d nx ((d.S.length : Int) - nx)).2.1).2.2.2.1⟩⟩, nx + DS.need (DS.get crc d nx ((d.S.length : Int) - nx)).2.1.length)
  else none
def scanL (crc : List Int → Int) (d : DS) (gen : Int) : Nat → Nat → List S35 × Nat
  | 0, nx => ([], nx)
  | k + 1, nx => match gotM crc d gen nx with
    | some (m, n2) => (m :: (scanL crc d gen k n2).1, (scanL crc d gen k n2).2)
    | none => ([], nx)
def scanM (crc : List Int → Int) (d : DS) (gen : Int) : List S35 × Nat := if 0 ≤ gen ∧ gen < 2147483647 then scanL crc d gen (d.S.length + 1) (2 * d.room) else ([], 2 * d.room)
theorem scan_none {crc : List Int → Int} {d : DS} {gen : Int} {nx : Nat} (k : Nat) (h : gotM crc d gen nx = none) : scanL crc d gen k nx = ([], nx) := by
  cases k with
  | zero => rfl
  | succ k => rw [scanL, h]
theorem scan_some {crc : List Int → Int} {d : DS} {gen : Int} {nx n2 : Nat} {m : S35} (k : Nat) (h : gotM crc d gen nx = some (m, n2)) : scanL crc d gen (k + 1) nx = (m :: (scanL crc d gen k n2).1, (scanL crc d gen k n2).2) := by rw [scanL, h]
def ScanPost (w0 : World) (xs : List Nat) (W : World) (g : Nat) (d : DS) (r : List S35 × Nat) (e : Ending) (w' : World) : Prop :=
  ∃ v, e = .returned (.tuple #[v, .int .i64 (r.2 : Int)]) ∧ Kd.R k35 35 w' W.heap.size (fun _ => True) v r.1 ∧ St w0 xs w' g d ∧ Below W.heap.size W w'
/-- A row of its own grows beside a disk. -/
theorem St.append {w0 W w1 : World} {xs : List Nat} {g : Nat} {d : DS} {v v1 : Value} (h : St w0 xs W g d) (hv : ∀ r, v.ownBlock = some r → r ∈ xs ∧ w0.heap.size ≤ r) (hg : W.grownBy w1 v.ownBlock) (hb : Below w0.heap.size w0 w1) (hat : v1.ownBlock = v.ownBlock ∨ ∃ b, v1.ownBlock = some b ∧ W.heap.size ≤ b)
    (hlt : ∀ r, v1.ownBlock = some r → r < w1.heap.size) : ∃ ys, St w0 (ys ++ xs) w1 g d ∧ ∀ r, v1.ownBlock = some r → r ∈ ys ++ xs := by
  rcases hat with e | ⟨b, e, hge⟩
  · refine ⟨[], ⟨h.1.step (fun k hk hk2 => hg.block k hk2 (fun e => hk.2 (hv k e.symm).1)), hb, fun x hx => Nat.lt_of_lt_of_le (h.2.2 x hx) hg.size⟩, fun r hr => by rw [e] at hr; exact (hv r hr).1⟩
  · refine ⟨[b], ⟨(h.1.bound.mono (ok' := fun k => w0.heap.size ≤ k ∧ k ∉ xs ∧ k ≠ b) (fun k hk => ⟨hk.1.1, hk.1.2, fun e => by have := hk.2.2.1; omega⟩)).step (w1 := w1) (fun k hk hk2 => hg.block k hk2 (fun e => hk.2.1 (hv k e.symm).1)) |>.mono (fun k hk => ⟨hk.1, fun e => (List.mem_cons.1 e).elim hk.2.2 hk.2.1⟩), hb, fun x hx => (List.mem_cons.1 hx).elim (fun e2 => by rw [e2]; exact hlt b e) (fun hx => Nat.lt_of_lt_of_le (h.2.2 x hx) hg.size)⟩, fun r hr => by rw [e] at hr; injection hr with hr; rw [← hr]; simp⟩
theorem infoMk : (Tryz.prog.info? 35).map (fun i => (i.zero, i.size, i.bytes)) = some (some (.agg #[.int .i64 0, .int .i64 0, .bool false, .int .i64 0, .string ⟨#[]⟩]), 5, 48) := by kernel_rfl
set_option maxHeartbeats 8000000 in
set_option maxRecDepth 100000 in
theorem scan_c {w0 W : World} {xs : List Nat} {g : Nat} {d : DS} (h : St w0 xs W g d) (gen : Int) (hB : d.AllB) (hS : d.S.length ≤ 4000) (hT : NTabs W) :
    Calls Tryz.prog 13 #[.pointer (some ⟨g, 0, none⟩), .int .i64 gen] W (ScanPost w0 xs W g d (scanM crcO d gen)) := by
  obtain ⟨f, hf⟩ : ∃ f, 2 * d.room = f := ⟨_, rfl⟩
  have HF := Aside0.mk hf
  have H := Aside0.mk h
  have HSS := Aside0.mk hS
  have HAB := Aside0.mk hB
  have HT := Aside0.mk hT
  by_cases hg : 0 ≤ gen ∧ gen < 2147483647
  case neg =>
    rw [show scanM crcO d gen = ([], 2 * d.room) from if_neg hg, hf]
    unfold ScanPost
    by_cases h1 : gen < 0
    · have d1 : decide (gen < 0) = true := decide_eq_true h1
      clear hg h1 h hS hB hT hf
      go_enter Tryz.func13, Tryz.ntmps13
      go_wp2_with (go_at_call 20; refine (first_c H.out HSS.out).mono ?_; rw [HF.out]; rintro e w8 ⟨rfl, rfl⟩)
      exact bodyPost_ret (v := .tuple #[.slice none 0 0, .int .i64 (f : Int)]) (by simp [results, Tryz.results13, go_sem]) rfl ⟨_, rfl, Kd.R_nil _ _ _ _ _, H.out, Below.refl _ _⟩
    · have d1 : decide (gen < 0) = false := decide_eq_false h1
      have d2 : decide (gen ≥ 2147483647) = true := decide_eq_true (by omega)
      have d3 : decide (2147483647 ≤ gen) = true := decide_eq_true (by omega)
      clear hg h1 h hS hB hT hf
      go_enter Tryz.func13, Tryz.ntmps13
      go_wp2_with (go_at_call 20; refine (first_c H.out HSS.out).mono ?_; rw [HF.out]; rintro e w8 ⟨rfl, rfl⟩)
      exact bodyPost_ret (v := .tuple #[.slice none 0 0, .int .i64 (f : Int)]) (by simp [results, Tryz.results13, go_sem]) rfl ⟨_, rfl, Kd.R_nil _ _ _ _ _, H.out, Below.refl _ _⟩
  case pos =>
    obtain ⟨s, hs⟩ : ∃ s, d.S.length = s := ⟨_, rfl⟩
    have HL := Aside0.mk hs
    have hfs : f ≤ s := by have := DS.room2 d; omega
    have hsc : scanM crcO d gen = scanL crcO d gen (s + 1) f := by unfold scanM; rw [if_pos hg, hs, hf]
    have hg1 : decide (gen < 0) = false := decide_eq_false (by omega)
    have hg2 : decide (gen ≥ 2147483647) = false := decide_eq_false (by omega)
    have hg3 : decide (2147483647 ≤ gen) = false := decide_eq_false (by omega)
    have hu1 : IntKind.u32.wrap gen = gen := by rw [IntKind.wrap_u32]; omega
    have hu2 : IntKind.u32.wrap (gen + 1) = gen + 1 := by rw [IntKind.wrap_u32]; omega
    obtain ⟨res, hres⟩ : ∃ res, scanM crcO d gen = res := ⟨_, rfl⟩
    rw [hres] at hsc ⊢
    have HSC := Aside0.mk hsc
    have HFS := Aside0.mk hfs
    have hs4 := HSS.out
    rw [hs] at hs4
    have HS4 := Aside0.mk hs4
    have HG := Aside0.mk hg
    unfold ScanPost
    clear hg h hS hB hT hf hs hfs hsc hres hs4
    go_enter Tryz.func13, Tryz.ntmps13
    go_wp2_with (go_at_call 20; refine (first_c H.out HSS.out).mono ?_; rw [HF.out]; rintro e w8 ⟨rfl, rfl⟩)
    go_loopw [4, 5] (fun u4 u5 wr => ∃ (l : List S35) (nx k : Nat) (ys : List Nat), u5 = .int .i64 (nx : Int) ∧ Aside0 (nx ≤ s) ∧ Aside0 (s < k + nx) ∧ Aside0 (l.length ≤ nx) ∧ Aside0 (res = (l ++ (scanL crcO d gen k nx).1, (scanL crcO d gen k nx).2)) ∧ Aside0 (Kd.R k35 35 wr W.heap.size (fun _ => True) u4 l) ∧ Aside0 (St w0 (ys ++ xs) wr g d) ∧ Aside0 (∀ r, u4.ownBlock = some r → r ∈ ys ++ xs) ∧ Aside0 (Below W.heap.size W wr)) (fun _ u5 _ => s + 1 - (intOf u5).toNat)
    case atStart => exact ⟨[], f, s + 1, [], rfl, HFS, ⟨by omega⟩, ⟨Nat.zero_le _⟩, ⟨by rw [HSC.out]; rfl⟩, ⟨Kd.R_nil _ _ _ _ _⟩, H, ⟨fun r hr => by cases hr⟩, ⟨Below.refl _ _⟩⟩
    case round =>
      obtain ⟨l, nx, k, ys, rfl, HNX, HK, HLN, HR, HO, HS, HY, HBW⟩ := hrel
      obtain ⟨k, rfl⟩ : ∃ j, k = j + 1 := ⟨k - 1, by have := HK.out; have := HNX.out; omega⟩
      obtain ⟨rm, hrm⟩ : ∃ rm : Nat, s - nx = rm := ⟨_, rfl⟩
      have hnx := HNX.out
      have hs4 := HS4.out
      have hg4 := HG.out
      have hsub : (s : Int) - (nx : Int) = (rm : Int) := by omega
      obtain ⟨tg, b, ok, hG⟩ : ∃ tg x ok, DS.get crcO d (nx : Int) ((s : Int) - (nx : Int)) = (tg, x, ok) := ⟨_, _, _, rfl⟩
      obtain ⟨n1, d1, s1, o1, rk, hRD⟩ : ∃ n1 d1 s1 o1 rk, rdM b = (n1, d1, s1, o1, rk) := ⟨_, _, _, _, _, rfl⟩
      have hgm : gotM crcO d gen nx = if ok = true ∧ tg = gen + 1 ∧ rk = true then some (⟨gen, n1, d1, ⟨s1, o1⟩⟩, nx + DS.need b.length) else none := by unfold gotM; rw [HL.out, hG]; dsimp only; rw [hRD]
      have hok := get_ok (crc := crcO) (i := (nx : Int)) (room := (s : Int) - (nx : Int)) HAB.out
      rw [hG] at hok
      dsimp only at hok
      rw [hsub] at hG hok
      have HGE := Aside0.mk hG
      have HRD := Aside0.mk hRD
      have hwa : IntKind.i64.wrap ((s : Int) - (nx : Int)) = (rm : Int) := by rw [hsub, IntKind.wrap_i64]; omega
      have hwb : wrap64 ((s : Int) - (nx : Int)) = (rm : Int) := by rw [hsub]; unfold wrap64; omega
      have HRM : Aside0 (rm ≤ 4000) := ⟨by omega⟩
      have HX4 : Aside0 (nx ≤ 4000) := ⟨by omega⟩
      have HW4 := Aside0.mk hgm
      clear hG hRD
      cases ok with
      | false =>
        have hr : res = (l, nx) := by rw [HR.out, scan_none _ (hgm.trans (if_neg (by simp))), List.append_nil]
        clear hok hrm hnx hs4 hg4 hsub hgm
        go_wp2_with (first
          | (go_at_call 31; refine (st_get HS.out (nx : Int) (rm : Int) HAB.out (by have := HX4.out; omega) HSS.out (by omega) (by have := HRM.out; omega)).mono ?_; rw [HGE.out]; rintro e w3 ⟨v3, rfl, hR, hS, hB⟩; (obtain ⟨A3, c3, rfl, hl3, hC3, -, -⟩ := R_plain hR); have L3 := Aside0.mk hl3; have C3 := Aside0.mk hC3; have S3 := Aside0.mk hS; have B3 := Aside0.mk hB; clear hR hS hB hl3 hC3)
          | (go_at_call 21; refine (st_size HS.out).mono ?_; rw [HL.out]; rintro e w8 ⟨rfl, rfl⟩))
        exact bodyPost_ret (v := .tuple #[u4, .int .i64 (nx : Int)]) (by simp [results, Tryz.results13, go_sem]) rfl ⟨u4, by rw [hr], by rw [hr]; exact Kd.R_below HO.out B3.out, S3.out.less (fun x hx => List.mem_append_right _ hx), HBW.out.trans (B3.out.mono HBW.out.size)⟩
      | true =>
        obtain ⟨hby, hn1, hn2⟩ := hok rfl
        have hnd : DS.need b.length ≤ rm := by omega
        have HBL : Aside0 (b.length ≤ 64000) := ⟨by unfold DS.need at hnd; omega⟩
        have HBY := Aside0.mk hby
        by_cases ht : tg = gen + 1
        · subst ht
          have he1 : ((gen + 1) != (gen + 1)) = false := by simp
          cases rk with
          | false =>
            have hr : res = (l, nx) := by rw [HR.out, scan_none _ (hgm.trans (if_neg (by simp))), List.append_nil]
            clear hok hrm hnx hs4 hg4 hsub hgm hby hn1 hn2 hnd
            go_wp2_with (first
              | (go_at_call 32; refine (mread_c C3.out L3.out HBY.out (by have := HBL.out; omega) (HT.out.on (HBW.out.trans (B3.out.mono HBW.out.size)))).mono ?_; unfold RdPost; rw [HRD.out]; dsimp only; rintro e w4 ⟨rfl, hB⟩; have S4 := Aside0.mk (S3.out.after hB); have O4 := Aside0.mk (Kd.R_below (Kd.R_below HO.out B3.out) hB); have B4 := Aside0.mk ((HBW.out.trans (B3.out.mono HBW.out.size)).trans (hB.mono (HBW.out.trans (B3.out.mono HBW.out.size)).size)); clear hB)
              | (go_at_call 31; refine (st_get HS.out (nx : Int) (rm : Int) HAB.out (by have := HX4.out; omega) HSS.out (by omega) (by have := HRM.out; omega)).mono ?_; rw [HGE.out]; rintro e w3 ⟨v3, rfl, hR, hS, hB⟩; (obtain ⟨A3, c3, rfl, hl3, hC3, -, -⟩ := R_plain hR); have L3 := Aside0.mk hl3; have C3 := Aside0.mk hC3; have S3 := Aside0.mk hS; have B3 := Aside0.mk hB; clear hR hS hB hl3 hC3)
              | (go_at_call 21; refine (st_size HS.out).mono ?_; rw [HL.out]; rintro e w8 ⟨rfl, rfl⟩))
            exact bodyPost_ret (v := .tuple #[u4, .int .i64 (nx : Int)]) (by simp [results, Tryz.results13, go_sem]) rfl ⟨u4, by rw [hr], by rw [hr]; exact Kd.R_alloc O4.out _, (S4.out.after (below_alloc (Below.refl _ _) _)).less (fun x hx => List.mem_append_right _ hx), below_alloc B4.out _⟩
          | true =>
            have hgm2 := hgm.trans (if_pos ⟨rfl, rfl, rfl⟩)
            have hr : Aside0 (res = ((l ++ [⟨gen, n1, d1, ⟨s1, o1⟩⟩]) ++ (scanL crcO d gen k (nx + DS.need b.length)).1, (scanL crcO d gen k (nx + DS.need b.length)).2)) := ⟨by rw [HR.out, scan_some _ hgm2, List.append_assoc]; rfl⟩
            have hn0 : 1 ≤ DS.need b.length := by unfold DS.need; omega
            obtain ⟨nd, hndq⟩ : ∃ nd, DS.need b.length = nd := ⟨_, rfl⟩
            have ND := Aside0.mk hndq
            rw [hndq] at hr hnd hn0
            obtain ⟨n2, hn2q⟩ : ∃ n2, nx + nd = n2 := ⟨_, rfl⟩
            rw [hn2q] at hr
            have hwc : IntKind.i64.wrap ((nx : Int) + (nd : Int)) = (n2 : Int) := by rw [IntKind.wrap_i64]; omega
            have hwd : wrap64 ((nx : Int) + (nd : Int)) = (n2 : Int) := by unfold wrap64; omega
            have HN2 : Aside0 (n2 ≤ s ∧ s < k + n2 ∧ l.length + 1 ≤ n2 ∧ nx < n2) := ⟨by have h1 := HK.out; have h2 := HLN.out; clear hwa hwb hwc hwd hu1 hu2 hg1 hg2 hg3 hgm hgm2; omega⟩
            clear hok hrm hnx hs4 hg4 hsub hgm hby hn1 hn2 hnd hgm2 hn0 hndq hn2q HW4
            go_upto_region 11 with (first
              | (go_at_call 32; refine (mread_c C3.out L3.out HBY.out (by have := HBL.out; omega) (HT.out.on (HBW.out.trans (B3.out.mono HBW.out.size)))).mono ?_; unfold RdPost; rw [HRD.out]; dsimp only; rintro e w4 ⟨rfl, hB⟩; have S4 := Aside0.mk (S3.out.after hB); have O4 := Aside0.mk (Kd.R_below (Kd.R_below HO.out B3.out) hB); have B4 := Aside0.mk ((HBW.out.trans (B3.out.mono HBW.out.size)).trans (hB.mono (HBW.out.trans (B3.out.mono HBW.out.size)).size)); clear hB)
              | (go_at_call 31; refine (st_get HS.out (nx : Int) (rm : Int) HAB.out (by have := HX4.out; omega) HSS.out (by omega) (by have := HRM.out; omega)).mono ?_; rw [HGE.out]; rintro e w3 ⟨v3, rfl, hR, hS, hB⟩; (obtain ⟨A3, c3, rfl, hl3, hC3, -, -⟩ := R_plain hR); have L3 := Aside0.mk hl3; have C3 := Aside0.mk hC3; have S3 := Aside0.mk hS; have B3 := Aside0.mk hB; clear hR hS hB hl3 hC3)
              | (go_at_call 21; refine (st_size HS.out).mono ?_; rw [HL.out]; rintro e w8 ⟨rfl, rfl⟩))
            have hb5 := below_alloc (Below.refl w4.heap.size w4) (.cells #[.int .i64 gen, .int .i64 n1, .bool d1, .int .i64 s1, .string o1] 35)
            have hn5 := blk_new w4 (.cells #[.int .i64 gen, .int .i64 n1, .bool d1, .int .i64 s1, .string o1] 35)
            obtain ⟨W5, hW5⟩ : ∃ W5, W5 = w4.alloc (.cells #[.int .i64 gen, .int .i64 n1, .bool d1, .int .i64 s1, .string o1] 35) := ⟨_, rfl⟩
            rw [← hW5] at hb5 hn5 ⊢
            have S5 := Aside0.mk (S4.out.after hb5)
            have O5 := Aside0.mk (Kd.R_below O4.out hb5)
            have B5 := Aside0.mk (B4.out.trans (hb5.mono B4.out.size))
            obtain ⟨q5, hq5⟩ : ∃ q5, w4.heap.size = q5 := ⟨_, rfl⟩
            rw [hq5] at hn5 ⊢
            have y0 := (blk_cell hn5 0).trans rfl
            have y1 := (blk_cell hn5 1).trans rfl
            have y2 := (blk_cell hn5 2).trans rfl
            have y3 := (blk_cell hn5 3).trans rfl
            have y4 := (blk_cell hn5 4).trans rfl
            clear hb5 hn5 hW5 hq5
            go_wp2_with (first
              | (go_at_call 23; refine (need_c b.length (by have := HBL.out; omega) _).mono ?_; rw [ND.out]; rintro e w7 ⟨rfl, hB⟩; have S7 := Aside0.mk (S6.out.after hB); have O7 := Aside0.mk (Kd.R_below O6.out hB); have B7 := Aside0.mk (B6.out.trans (hB.mono B6.out.size)); clear hB)
              | ((with_reducible refine gate_builtin (b := .append) (xs := #[.tmp 52, .tmp 54]) rfl ?_); at_builtin; refine Kd.R_append k35 (w0 := W) W.heap.size rfl (.tmp 52) (.tmp 54) 22 35 (.agg #[.int .i64 0, .int .i64 0, .bool false, .int .i64 0, .string ⟨#[]⟩]) 48 rfl Tryz.underlying22 infoMk rfl (by decide) (by omega) u4 l (⟨gen, n1, d1, ⟨s1, o1⟩⟩ : S35) [.int .i64 gen, .int .i64 n1, .bool d1, .int .i64 s1, .string o1] (fun _ => True) (fun _ => False) rfl rfl (k35_mkM _ _ _ (⟨gen, n1, d1, ⟨s1, o1⟩⟩ : S35)) (fun _ hk => hk.elim) (fun _ _ => trivial) O5.out B5.out B5.out.size (by have := HN2.out; have := HNX.out; have := HX4.out; have := HLN.out; omega) ?_; intro v1 w6 ho hb hg hat; obtain ⟨ys2, hs6, hy6⟩ := St.append S5.out (fun r hr => ⟨HY.out r hr, Nat.le_trans H.out.2.1.size (Kd.R_base HO.out r hr)⟩) hg (H.out.2.1.trans (hb.mono H.out.2.1.size)) hat (fun r hr => Kd.R_lt ho r hr); have S6 := Aside0.mk hs6; have Y6 := Aside0.mk hy6; have O6 := Aside0.mk ho; have B6 := Aside0.mk hb; clear ho hb hg hat hs6 hy6))
            exact ⟨⟨l ++ [⟨gen, n1, d1, ⟨s1, o1⟩⟩], n2, k, ys2 ++ ys, rfl, ⟨HN2.out.1⟩, ⟨HN2.out.2.1⟩, ⟨by rw [List.length_append]; exact HN2.out.2.2.1⟩, hr, O7, ⟨by rw [List.append_assoc]; exact S7.out⟩, ⟨by rw [List.append_assoc]; exact Y6.out⟩, B7⟩, by have := HN2.out; simp [intOf]; omega⟩
        · have he1 : (tg != gen + 1) = true := by simpa using ht
          have hr : res = (l, nx) := by rw [HR.out, scan_none _ (hgm.trans (if_neg (fun h => ht h.2.1))), List.append_nil]
          clear hok hrm hnx hs4 hg4 hsub hgm hby hn1 hn2 hnd
          go_wp2_with (first
            | (go_at_call 31; refine (st_get HS.out (nx : Int) (rm : Int) HAB.out (by have := HX4.out; omega) HSS.out (by omega) (by have := HRM.out; omega)).mono ?_; rw [HGE.out]; rintro e w3 ⟨v3, rfl, hR, hS, hB⟩; (obtain ⟨A3, c3, rfl, hl3, hC3, -, -⟩ := R_plain hR); have L3 := Aside0.mk hl3; have C3 := Aside0.mk hC3; have S3 := Aside0.mk hS; have B3 := Aside0.mk hB; clear hR hS hB hl3 hC3)
            | (go_at_call 21; refine (st_size HS.out).mono ?_; rw [HL.out]; rintro e w8 ⟨rfl, rfl⟩))
          exact bodyPost_ret (v := .tuple #[u4, .int .i64 (nx : Int)]) (by simp [results, Tryz.results13, go_sem]) rfl ⟨u4, by rw [hr], by rw [hr]; exact Kd.R_below HO.out B3.out, S3.out.less (fun x hx => List.mem_append_right _ hx), HBW.out.trans (B3.out.mono HBW.out.size)⟩
open Go.Proofs.YtkicekddkgehoaaGreatDoor.Dsk hiding R_plain conv_str cell_of_heap C_blk
open Go.Proofs.YtkicekddkgehoaaGreatDoor.«Hnd» hiding KeptB
/-! Marks in a row, in plain words. -/
def bM (m : S35) : List Int := bytesM m.f0 m.f1 m.f2 m.f3.f0 m.f3.f1
def okM (m : S35) : Prop := isM m.f0 m.f1 m.f2 m.f3.f0 m.f3.f1 = true ∧ NT.Rng m.f3.f0 ∧ m.f3.f1.size ≤ 1000000
/-- Marks lie one behind the other, from a sector to another. -/
def J (crc : List Int → Int) (d : DS) : Nat → List S35 → Nat → Prop
  | p, [], q => p = q
  | p, m :: l, q => DS.Lies crc d p (m.f0 + 1) (bM m) ∧ J crc d (p + DS.need (bM m).length) l q
theorem J.le {crc : List Int → Int} {d : DS} : ∀ {l : List S35} {p q : Nat}, J crc d p l q → p + l.length ≤ q
  | [], p, q, h => by
    have h1 : p = q := h
    simp only [List.length_nil]
    omega
  | m :: l, p, q, h => by
    have h1 := J.le h.2
    have h2 : 1 ≤ DS.need (bM m).length := by unfold DS.need; omega
    rw [List.length_cons]
    omega
theorem J.snoc {crc : List Int → Int} {d : DS} : ∀ {l : List S35} {p q : Nat} {m : S35}, J crc d p l q → DS.Lies crc d q (m.f0 + 1) (bM m) → J crc d p (l ++ [m]) (q + DS.need (bM m).length)
  | [], p, q, m, h, hl => by
    obtain rfl : p = q := h
    exact ⟨hl, rfl⟩
  | x :: l, p, q, m, h, hl => ⟨h.1, J.snoc h.2 hl⟩
theorem got_lies {crc : List Int → Int} (hc : ∀ b, 0 ≤ crc b ∧ crc b < 4294967296) {d : DS} {p : Nat} {m : S35} (h : DS.Lies crc d p (m.f0 + 1) (bM m)) (hP : d.P = []) (hm : okM m) (hp : p + DS.need (bM m).length ≤ d.S.length) : gotM crc d m.f0 p = some (m, p + DS.need (bM m).length) := by
  have hg := isM_g hm.1
  have hl := bytesM_len (gen := m.f0) (n := m.f1) (dn := m.f2) hm.2.1 hm.2.2
  have hl2 : (bM m).length ≤ 1000100 := hl
  have h1 := h.get (room := (d.S.length : Int) - (p : Int)) hP (hc _).1 (hc _).2 (by omega) (by omega) (by omega) (by omega) hp
  have h2 := rdM_bytes m.f0 m.f1 m.f2 m.f3.f0 m.f3.f1 hm.2.1 (by have := hm.2.2; omega)
  rw [if_pos hm.1] at h2
  have h3 : rdM (bM m) = (m.f1, m.f2, m.f3.f0, m.f3.f1, true) := h2
  unfold gotM
  rw [h1]
  dsimp only
  rw [h3]
  dsimp only
  rw [if_pos ⟨rfl, rfl, rfl⟩]
theorem J.scan {crc : List Int → Int} (hc : ∀ b, 0 ≤ crc b ∧ crc b < 4294967296) {d : DS} (hP : d.P = []) {gen : Int} : ∀ {l : List S35} {p q : Nat}, J crc d p l q → (∀ m ∈ l, okM m ∧ m.f0 = gen) → q ≤ d.S.length → gotM crc d gen q = none → ∀ k, l.length ≤ k → scanL crc d gen k p = (l, q)
  | [], p, q, h, _, _, hn, k, _ => by
    obtain rfl : p = q := h
    exact scan_none k hn
  | m :: l, p, q, h, hm, hq, hn, k, hk => by
    obtain ⟨k, rfl⟩ : ∃ j, k = j + 1 := ⟨k - 1, by rw [List.length_cons] at hk; omega⟩
    have h1 := hm m (by simp)
    have h2 := J.le h.2
    have h3 := got_lies hc h.1 hP h1.1 (by omega)
    rw [h1.2] at h3
    rw [scan_some k h3, J.scan hc hP h.2 (fun x hx => hm x (List.mem_cons_of_mem _ hx)) hq hn k (by rw [List.length_cons] at hk; omega)]
theorem J.whole {crc : List Int → Int} (hc : ∀ b, 0 ≤ crc b ∧ crc b < 4294967296) {d : DS} (hP : d.P = []) {gen : Int} (hg : 0 ≤ gen ∧ gen < 2147483647) {l : List S35} {q : Nat} (h : J crc d (2 * d.room) l q) (hm : ∀ m ∈ l, okM m ∧ m.f0 = gen) (hq : q ≤ d.S.length) (hn : gotM crc d gen q = none) : scanM crc d gen = (l, q) := by
  unfold scanM
  rw [if_pos hg]
  exact h.scan hc hP hm hq hn _ (by have := h.le; omega)
theorem app2_bytes {d : DS} (h : d.AllB) (q : Int) (k : Nat) : (app2 d q k).1.AllB := by
  unfold app2
  split
  · exact DS.puth_bytes h _ (DS.bytes_zero 16)
  · exact h
theorem app_bytes {crc : List Int → Int} {d : DS} (h : d.AllB) (q gen n : Int) (dn : Bool) (st : Int) (os : ByteArray) : (appendM crc d q gen n dn st os).1.AllB := by
  unfold appendM
  split
  · unfold app1
    split
    · exact h
    split
    · split
      · exact DS.put_bytes (app2_bytes h _ _) _ _ _ (bytesM_bytes gen n dn st os)
      · exact DS.put_bytes (app2_bytes h _ _) _ _ _ (bytesM_bytes gen n dn st os)
    · exact app2_bytes h _ _
  · exact h
theorem app2_len (d : DS) (q : Int) (k : Nat) : (app2 d q k).1.S.length = d.S.length := by
  unfold app2
  split
  · exact DS.puth_len _ _ _
  · rfl
theorem app_len (crc : List Int → Int) (d : DS) (q gen n : Int) (dn : Bool) (st : Int) (os : ByteArray) : (appendM crc d q gen n dn st os).1.S.length = d.S.length := by
  unfold appendM
  split
  · unfold app1
    split
    · rfl
    split
    · split
      · exact (DS.put_len _ _ _ _ _ _).trans (app2_len _ _ _)
      · exact (DS.put_len _ _ _ _ _ _).trans (app2_len _ _ _)
    · exact app2_len _ _ _
  · rfl
open Go.Proofs.YtkicekddkgehoaaGreatDoor.Dsk hiding R_plain conv_str cell_of_heap C_blk
open Go.Proofs.YtkicekddkgehoaaGreatDoor.«Hnd» hiding KeptB
/-! A row of marks on a disk at rest; how long a small mark is; two rows that are one. -/
structure RB (n f : Nat) (d : DS) : Prop where
  calm : d.Calm
  all : d.AllB
  len : d.S.length = n
  fst : 2 * d.room = f
theorem same_refl (l : List S35) (hl : l.length ≤ 1000) : ∀ (j i : Nat), i + j = l.length → lazarusref6_Same.l0 (j + 1) l l (i : Int) = some true
  | 0, i, h => by
    rw [lazarusref6_Same.l0, if_neg (by omega)]
  | j + 1, i, h => by
    rw [lazarusref6_Same.l0, if_pos (by omega), if_pos (by omega), if_pos (by omega)]
    rw [if_neg]
    · rw [show wrap64 ((i : Int) + 1) = ((i + 1 : Nat) : Int) by unfold wrap64; omega]
      exact same_refl l hl j (i + 1) (by omega)
    · simp
theorem same_one (l : List S35) (hl : l.length ≤ 1000) : lazarusref6_Same.f (l.length + 1) l l = some true := by
  unfold lazarusref6_Same.f
  rw [if_pos rfl]
  exact same_refl l hl l.length 0 (by omega)
open Go.Proofs.YtkicekddkgehoaaGreatDoor.Dsk hiding R_plain conv_str cell_of_heap C_blk
open Go.Proofs.YtkicekddkgehoaaGreatDoor.«Hnd» hiding KeptB
/-! The last mark of a row, with a crash within. -/
theorem J.restart {crc : List Int → Int} {e : DS} : ∀ {l : List S35} {p q : Nat}, J crc e p l q → J crc e.restart p l q
  | [], p, q, h => h
  | m :: l, p, q, h => ⟨h.1, J.restart h.2⟩
end Go.Proofs.YtkicekddkgehoaaGreatDoor.Mrk
