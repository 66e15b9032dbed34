/- The contract of the law SlotPlays, by hand. -/
import Derived.Test.YtkicekddkgehoaaRefB
import Derived.RangeFuncNested
import Derived.RangeFuncBound
import Derived.RangeFuncCalls
import Derived.RangeFuncLeaves
import Derived.RangeFuncBox
import Derived.Shelf.Abstract
import Derived.Shelf.RegionOpen
import Derived.OwnWalkIn
import Derived.TacticsInMore
import Derived.LoopNIn
import Derived.LoopIn
namespace Go.Proofs.Ytkicekddkgehoaa.LSlotPlays
open Go.RowKit Go.Proofs.Ytkicekddkgehoaa.QSlotLast Go.Proofs.Ytkicekddkgehoaa.Hnd Go.Proofs.YtkicekddkgehoaaW.PrintWords Go.Proofs.YtkicekddkgehoaaW.PrintLast Go.Proofs.YtkicekddkgehoaaW.Dk Go.Shelf
set_option linter.unusedVariables false
set_option linter.unusedSimpArgs false
attribute [local go_sem] Oper.semAt_some
structure S38 where
  f0 : Int
  f1 : (List S63)
def k38 : Kd S38 := Kd.iso (Kd.pair (Kd.int .i64) (Kd.slice 63 k63)) (fun x : S38 => (x.f0, x.f1))
structure S40 where
  f0 : (List Int)
  f1 : Bool
  f2 : S38
  f3 : Int
def z40 : S40 := ⟨[], false, ⟨0, []⟩, 0⟩
def k40 : Kd S40 := Kd.iso (Kd.pair (Kd.slice 5 (Kd.int .u8)) (Kd.pair Kd.bool (Kd.pair k38 (Kd.int .i64)))) (fun x : S40 => (x.f0, x.f1, x.f2, x.f3))
def actAt (xs : List S40) (k : Nat) : S40 := xs.getD k z40
theorem act_at {w : World} {A : Option Addr} {n : Nat} {xs : List S40} (h : Kd.C k40 w A n xs) (k : Nat) (hk : k < n) : ∃ ad Ab cb Al cl, A = some ad ∧ ad.block < w.heap.size ∧
    w.cell? (ad.add (k * 5)) = some (.slice Ab (actAt xs k).f0.length cb) ∧ w.cell? ⟨(ad.add (k * 5)).block, (ad.add (k * 5)).off + 1, none⟩ = some (.bool (actAt xs k).f1) ∧ w.cell? ⟨(ad.add (k * 5)).block, (ad.add (k * 5)).off + 2, none⟩ = some (.int .i64 (actAt xs k).f2.f0) ∧
    w.cell? ⟨(ad.add (k * 5)).block, (ad.add (k * 5)).off + 3, none⟩ = some (.slice Al (actAt xs k).f2.f1.length cl) ∧ w.cell? ⟨(ad.add (k * 5)).block, (ad.add (k * 5)).off + 4, none⟩ = some (.int .i64 (actAt xs k).f3) ∧
    (actAt xs k).f0.length ≤ cb ∧ (Kd.int .u8).C w Ab (actAt xs k).f0.length (actAt xs k).f0 ∧ (actAt xs k).f2.f1.length ≤ cl ∧ Kd.C k63 w Al (actAt xs k).f2.f1.length (actAt xs k).f2.f1 := by
  have hlt : ∀ ad, A = some ad → ad.block < w.heap.size := fun ad e => by subst e; exact Kd.C_lt h (by omega) (by decide)
  obtain ⟨ad, c, e, hl, hK, hc0⟩ := Kd.C_get h z40 (k : Int) (by omega) (by omega)
  rw [Int.toNat_natCast] at hK hc0
  have hc : ∀ j u, c[j]? = some u → w.cell? (ad.add (k * 5 + j)) = some u := hc0
  change (k40).K w (actAt xs k) c at hK
  generalize actAt xs k = x at hK ⊢
  obtain ⟨c0, c1, rfl, ⟨Ab, cb, h0, hlb, hCb⟩, c2, c3, rfl, h2, c4, c5, rfl, ⟨c6, c7, rfl, h6, Al, cl, h7, hll, hCl⟩, h5⟩ := hK
  have h2' : c2 = [.bool x.f1] := h2
  have h5' : c5 = [.int .i64 x.f3] := h5
  have h6' : c6 = [.int .i64 x.f2.f0] := h6
  have h0' : c0 = [.slice Ab x.f0.length cb] := h0
  have h7' : c7 = [.slice Al x.f2.f1.length cl] := h7
  subst h0' h2' h5' h6' h7'
  refine ⟨ad, Ab, cb, Al, cl, e, hlt ad e, ?_, ?_, ?_, ?_, ?_, hlb, hCb, hll, hCl⟩
  · have := hc 0 _ rfl
    rwa [Nat.add_zero] at this
  · have := hc 1 _ rfl
    rwa [← Addr.add_add] at this
  · have := hc 2 _ rfl
    rwa [← Addr.add_add] at this
  · have := hc 3 _ rfl
    rwa [← Addr.add_add] at this
  · have := hc 4 _ rfl
    rwa [← Addr.add_add] at this
def okAct (x : S40) : Bool := DS.isB x.f0
theorem okAct_at {l : List S40} (h : l.all okAct = true) (k : Nat) : DS.Bytes (actAt l k).f0 := by
  unfold actAt
  by_cases hk : k < l.length
  · rw [List.getD_eq_getElem?_getD, List.getElem?_eq_getElem hk]
    exact DS.isB_bytes (List.all_eq_true.1 h _ (List.getElem_mem hk))
  · rw [List.getD_eq_getElem?_getD, List.getElem?_eq_none (by omega)]
    exact DS.bytes_nil
theorem wr_code (d : DS) (i : Int) (b : List Int) : 0 ≤ (d.wr i b).2 ∧ (d.wr i b).2 ≤ 5 := by
  unfold DS.wr
  split
  · exact ⟨by dsimp only; decide, by dsimp only; decide⟩
  split
  · exact ⟨by dsimp only; decide, by dsimp only; decide⟩
  split
  · exact ⟨by dsimp only; decide, by dsimp only; decide⟩
  split
  · exact ⟨by dsimp only; decide, by dsimp only; decide⟩
  · exact ⟨by dsimp only; decide, by dsimp only; decide⟩
theorem fl_code (d : DS) : 0 ≤ d.fl.2 ∧ d.fl.2 ≤ 5 := by
  unfold DS.fl
  split
  · exact ⟨by dsimp only; decide, by dsimp only; decide⟩
  split
  · exact ⟨by dsimp only; decide, by dsimp only; decide⟩
  · exact ⟨by dsimp only; decide, by dsimp only; decide⟩
theorem putC_code : ∀ (cs : List (List Int)) (d : DS) (i : Int), 0 ≤ (DS.putC d i cs).2 ∧ (DS.putC d i cs).2 ≤ 5
  | [], d, i => ⟨Int.le_refl _, by show (0 : Int) ≤ 5; decide⟩
  | c :: cs, d, i => by
    rw [DS.putC]
    split
    · exact putC_code cs _ _
    · exact wr_code _ _ _
theorem puth_code (d : DS) (i : Int) (h : List Int) : 0 ≤ (DS.puth d i h).2 ∧ (DS.puth d i h).2 ≤ 5 := by
  unfold DS.puth
  split
  · exact fl_code _
  · exact wr_code _ _ _
theorem put_code (crc : List Int → Int) (d : DS) (i room tag : Int) (b : List Int) : 0 ≤ (DS.put crc d i room tag b).2 ∧ (DS.put crc d i room tag b).2 ≤ 5 := by
  unfold DS.put
  split
  · exact ⟨by dsimp only; decide, by dsimp only; decide⟩
  split
  · split
    · exact puth_code _ _ _
    · exact fl_code _
  · exact putC_code _ _ _
theorem save_code (crc : List Int → Int) (d : DS) (gen : Int) (b : List Int) : 0 ≤ (DS.save crc d gen b).2 ∧ (DS.save crc d gen b).2 ≤ 5 := by
  unfold DS.save
  split
  · exact ⟨by dsimp only; decide, by dsimp only; decide⟩
  split
  · exact ⟨by dsimp only; decide, by dsimp only; decide⟩
  split
  · exact put_code _ _ _ _ _ _
  · exact puth_code _ _ _
def lazaruslaw5_SlotPlays.f (a0 : Int) (l1 : List S40) : Option Bool := if l1.all okAct = true then some true else none
set_option maxHeartbeats 8000000 in
set_option maxRecDepth 100000 in
theorem plays_core (m : Nat) (A1 : Option Addr) (c1 : Nat) (l1 : List S40) (w : World) (hr1 : Kd.C k40 w A1 l1.length l1) (hm : m ≤ 60) (hB : l1.all okAct = true) (h20 : l1.length ≤ 20) :
    Calls Try.prog 5 #[.int .i64 (m : Int), .slice A1 l1.length c1] w fun e w' => e = .returned (.bool true) ∧ Below w.heap.size w w' := by
  have a1 : decide ((m : Int) < 0) = false := decide_eq_false (by omega)
  have a2 : decide ((m : Int) > 60) = false := decide_eq_false (by omega)
  have a2' : decide ((60 : Int) < (m : Int)) = false := decide_eq_false (by omega)
  have a2'' : decide (60 < m) = false := decide_eq_false (by omega)
  have d0 : decide ((l1.length : Int) > 20) = false := decide_eq_false (by omega)
  have d0' : decide ((20 : Int) < (l1.length : Int)) = false := decide_eq_false (by omega)
  have d0'' : decide (20 < l1.length) = false := decide_eq_false (by omega)
  have HR := Aside0.mk hr1
  have HB := Aside0.mk hB
  have H20 := Aside0.mk h20
  have HM := Aside0.mk hm
  clear hr1 hB h20 hm
  go_enter Try.func5, Try.ntmps5
  go_wp2_with (first
    | (go_at_call 12; refine (two_new S1.out (by have := HM.out; omega)).mono ?_; rintro e w2 ⟨rfl, hS⟩; have T2 := Aside0.mk hS; clear hS)
    | (go_at_call 7; refine (st_new m (by have := HM.out; omega) w _ (Below.refl _ _) [] (fun x hx => by cases hx)).mono ?_; rintro e w1 ⟨rfl, hS, hM⟩; have S1 := Aside0.mk hS; clear hS hM))
  go_loopw [7] (fun u7 wr => ∃ (k : Nat) (d : DS), u7 = .int .i64 (k : Int) ∧ Aside0 (k ≤ l1.length) ∧ Aside0 (d.P = [] ∧ d.S.length = m ∧ d.AllB) ∧ Aside0 (Two w [] wr w.heap.size w1.heap.size d d)) (fun u7 _ => l1.length + 1 - (intOf u7).toNat)
  case atStart => exact ⟨0, _, rfl, ⟨Nat.zero_le _⟩, ⟨rfl, DS.new_len m, DS.new_bytes m⟩, T2⟩
  case round =>
    obtain ⟨k, d, rfl, HK, HD, HS⟩ := hrel
    by_cases hlt : k < l1.length
    · have hd : decide ((k : Int) < (l1.length : Int)) = true := decide_eq_true (by omega)
      have hd2 : decide (k < l1.length) = true := decide_eq_true hlt
      obtain ⟨ad, Ab, cb, Al, cl, e1, hlb, y0, y1, y2, y3, y4, hlc, hCb, hll, hCl⟩ := act_at HR.out k hlt
      subst e1
      have hmv : ∀ j, wr.cell? ⟨(ad.add (k * 5)).block, j, none⟩ = w.cell? ⟨(ad.add (k * 5)).block, j, none⟩ := fun j => HS.out.below.cell (p := ⟨(ad.add (k * 5)).block, j, none⟩) (by show (ad.add (k * 5)).block < _; rw [Go.Proofs.Ytkicekddkgehoaa.Hnd.add_block]; exact hlb)
      have x0 := (HS.out.below.cell (p := ad.add (k * 5)) (by rw [Go.Proofs.Ytkicekddkgehoaa.Hnd.add_block]; exact hlb)).trans y0
      have x1 := (hmv _).trans y1
      have x2 := (hmv _).trans y2
      have x3 := (hmv _).trans y3
      have x4 := (hmv _).trans y4
      have hby := okAct_at HB.out k
      generalize actAt l1 k = x at *
      obtain ⟨b, arm, ⟨at_, lft⟩, ggen⟩ := x
      dsimp only at *
      have HCB := Aside0.mk hCb
      have HCL := Aside0.mk hCl
      have HLC := Aside0.mk hlc
      have HLL := Aside0.mk hll
      have HBY := Aside0.mk hby
      have HLT := Aside0.mk hlt
      have hp0 : (0 : Int) ≤ (k : Int) := by omega
      have hp1 : (k : Int) < (l1.length : Int) := by omega
      clear hmv y0 y1 y2 y3 y4 hlc hCb hll hCl hby hlt hlb
      go_upto_region 10 with (fail)
      have hq := blk_new wr (.cells #[.slice Ab b.length cb, .bool arm, .int .i64 at_, .slice Al lft.length cl, .int .i64 ggen] 40)
      have S1 : Aside0 (Two w [wr.heap.size] (wr.alloc (.cells #[.slice Ab b.length cb, .bool arm, .int .i64 at_, .slice Al lft.length cl, .int .i64 ggen] 40)) w.heap.size w1.heap.size d d) := ⟨HS.out.mores (below_alloc (Below.refl _ _) (.cells #[.slice Ab b.length cb, .bool arm, .int .i64 at_, .slice Al lft.length cl, .int .i64 ggen] 40)) [wr.heap.size] (by simp)⟩
      obtain ⟨W1, hW1⟩ : ∃ W1, W1 = wr.alloc (.cells #[.slice Ab b.length cb, .bool arm, .int .i64 at_, .slice Al lft.length cl, .int .i64 ggen] 40) := ⟨_, rfl⟩
      rw [← hW1] at hq S1 ⊢
      have z0 : W1.cell? ⟨wr.heap.size, 0, none⟩ = some (.slice Ab b.length cb) := (blk_cell hq 0).trans rfl
      have z1 : W1.cell? ⟨wr.heap.size, 1, none⟩ = some (.bool arm) := (blk_cell hq 1).trans rfl
      have z2 : W1.cell? ⟨wr.heap.size, 2, none⟩ = some (.int .i64 at_) := (blk_cell hq 2).trans rfl
      have z3 : W1.cell? ⟨wr.heap.size, 3, none⟩ = some (.slice Al lft.length cl) := (blk_cell hq 3).trans rfl
      have z4 : W1.cell? ⟨wr.heap.size, 4, none⟩ = some (.int .i64 ggen) := (blk_cell hq 4).trans rfl
      obtain ⟨q, hqq⟩ : ∃ q, wr.heap.size = q := ⟨_, rfl⟩
      rw [hqq] at z0 z1 z2 z3 z4 S1 ⊢
      have HZ0 := Aside0.mk z0
      have HZ2 := Aside0.mk z2
      have HZ3 := Aside0.mk z3
      have HZ4 := Aside0.mk z4
      have hkk : (k : Int) + 1 ≤ 9223372036854775807 := by have := H20.out; have := HLT.out; omega
      clear hq hW1 hqq x0 x1 x2 x3 x4 hd hd2
      by_cases hb : b.length ≤ 300
      · have b1 : decide ((b.length : Int) > 300) = false := decide_eq_false (by omega)
        have b1' : decide ((300 : Int) < (b.length : Int)) = false := decide_eq_false (by omega)
        have b1'' : decide (300 < b.length) = false := decide_eq_false (by omega)
        by_cases hf : lft.length ≤ 50
        · have b2 : decide ((lft.length : Int) > 50) = false := decide_eq_false (by omega)
          have b2' : decide ((50 : Int) < (lft.length : Int)) = false := decide_eq_false (by omega)
          have b2'' : decide (50 < lft.length) = false := decide_eq_false (by omega)
          have HBL := Aside0.mk hb
          have HFL := Aside0.mk hf
          clear hb hf
          cases arm with
          | true =>
            go_upto_region 15 with (first
              | (go_at_call 14; refine (two_arm' S2.out at_ Al cl lft HCL.out HLL.out).mono ?_; rintro e w3 ⟨rfl, hS, hM⟩; have S3 := Aside0.mk hS; (have u0 := (cell_of_heap (p := ⟨q, 0, none⟩) (hM q (by simp))).trans HV0.out); have HU0 := Aside0.mk u0; (have u2 := (cell_of_heap (p := ⟨q, 2, none⟩) (hM q (by simp))).trans HV2.out); have HU2 := Aside0.mk u2; (have u3 := (cell_of_heap (p := ⟨q, 3, none⟩) (hM q (by simp))).trans HV3.out); have HU3 := Aside0.mk u3; (have u4 := (cell_of_heap (p := ⟨q, 4, none⟩) (hM q (by simp))).trans HV4.out); have HU4 := Aside0.mk u4; clear hS hM v0 v2 v3 v4)
              | (go_at_call 13; refine (two_arm S1.out at_ Al cl lft HCL.out HLL.out (by have := HFL.out; omega)).mono ?_; rintro e w2 ⟨rfl, hS, hM⟩; have S2 := Aside0.mk hS; (have v0 := (cell_of_heap (p := ⟨q, 0, none⟩) (hM q (by simp))).trans HZ0.out); have HV0 := Aside0.mk v0; (have v2 := (cell_of_heap (p := ⟨q, 2, none⟩) (hM q (by simp))).trans HZ2.out); have HV2 := Aside0.mk v2; (have v3 := (cell_of_heap (p := ⟨q, 3, none⟩) (hM q (by simp))).trans HZ3.out); have HV3 := Aside0.mk v3; (have v4 := (cell_of_heap (p := ⟨q, 4, none⟩) (hM q (by simp))).trans HZ4.out); have HV4 := Aside0.mk v4; clear hS hM z0 z2 z3 z4))
            have HD0 : Aside0 ((d.arm at_ (lft.map fun x => x.f0)).P = [] ∧ (d.arm at_ (lft.map fun x => x.f0)).S.length = m ∧ (d.arm at_ (lft.map fun x => x.f0)).AllB) := ⟨HD.out.1, HD.out.2.1, DS.arm_bytes HD.out.2.2 _ _⟩
            generalize d.arm at_ (lft.map fun x => x.f0) = d0 at S3 HD0 ⊢
            clear u2 u3
            obtain ⟨d1, E, hsv⟩ : ∃ d1 E, DS.save crcO d0 ggen b = (d1, E) := ⟨_, _, rfl⟩
            have hc := save_code crcO d0 ggen b
            have hsl := DS.save_len crcO d0 ggen b
            have hsb := DS.save_bytes (crc := crcO) HD0.out.2.2 ggen HBY.out
            rw [hsv] at hc hsl hsb
            have hE0 : 0 ≤ E := hc.1
            have hE1 : E ≤ 5 := hc.2
            have hwE : IntKind.i64.wrap E = E := by rw [IntKind.wrap_i64]; omega
            have hwE2 : wrap64 E = E := by unfold wrap64; omega
            have HSV := Aside0.mk hsv
            have HL1 : Aside0 (d1.S.length = m) := ⟨hsl.trans HD0.out.2.1⟩
            have HB1 : Aside0 (d1.AllB) := ⟨hsb⟩
            obtain ⟨rm, hrm⟩ : ∃ rm, d1.room = rm := ⟨_, rfl⟩
            have HRM := Aside0.mk hrm
            obtain ⟨lg, lb, lok, hld⟩ : ∃ lg lb lok, DS.load crcO d1.restart = (lg, lb, lok) := ⟨_, _, _, rfl⟩
            have HLD := Aside0.mk hld
            have HP0 : Aside0 (d0.P.length < 1073741824) := ⟨by rw [HD0.out.1]; decide⟩
            have HS0 : Aside0 (d0.S.length ≤ 4000) := ⟨by rw [HD0.out.2.1]; have := HM.out; omega⟩
            have HS1 : Aside0 (d1.S.length ≤ 4000) := ⟨by rw [HL1.out]; have := HM.out; omega⟩
            have HS2 : Aside0 (d1.restart.S.length ≤ 4000) := ⟨HS1.out⟩
            have HB2 : Aside0 (d1.restart.AllB) := ⟨DS.restart_bytes HB1.out⟩
            have HW0 : Aside0 (w3.drew.cell? ⟨q, 0, none⟩ = some (.slice Ab b.length cb)) := ⟨HU0.out⟩
            have HW4 : Aside0 (w3.drew.cell? ⟨q, 4, none⟩ = some (.int .i64 ggen)) := ⟨HU4.out⟩
            clear hc hsl hsb hsv hrm hld
            go_region_held (fun w' => w'.cell? ⟨q, 0, none⟩ = some (.slice Ab b.length cb) ∧ w'.cell? ⟨q, 4, none⟩ = some (.int .i64 ggen)) (first | (exact ⟨HY0.out, HY4.out⟩) | (exact ⟨HX0.out, HX4.out⟩) | (exact ⟨HW0.out, HW4.out⟩)) (first
              | (go_at_call 17; refine (two_room' S5.out HS1.out).mono ?_; rw [HRM.out]; rintro e w8 ⟨rfl, rfl⟩)
              | (go_at_call 16; refine (two_room S5.out HS1.out).mono ?_; rw [HRM.out]; rintro e w8 ⟨rfl, rfl⟩)
              | (go_at_call 15; refine (two_save' S4.out ggen Ab cb b HCB.out HLC.out (by have := HBL.out; omega) HBY.out HP0.out HS0.out).mono ?_; rw [HSV.out]; rintro e w5 ⟨rfl, hS, hM⟩; have S5 := Aside0.mk hS; (have y0 := (cell_of_heap (p := ⟨q, 0, none⟩) (hM q (by simp))).trans HX0.out); have HY0 := Aside0.mk y0; (have y4 := (cell_of_heap (p := ⟨q, 4, none⟩) (hM q (by simp))).trans HX4.out); have HY4 := Aside0.mk y4; clear hS hM)
              | (go_at_call 8; refine (two_save (S3.out.after (below_drew1 (Below.refl _ _))) ggen Ab cb b HCB.out HLC.out (by have := HBL.out; omega) HP0.out HS0.out).mono ?_; rw [HSV.out]; rintro e w4 ⟨rfl, hS, hM⟩; have S4 := Aside0.mk hS; (have x0 := (cell_of_heap (p := ⟨q, 0, none⟩) (hM q (by simp))).trans HW0.out); have HX0 := Aside0.mk x0; (have x4 := (cell_of_heap (p := ⟨q, 4, none⟩) (hM q (by simp))).trans HW4.out); have HX4 := Aside0.mk x4; clear hS hM))
            go_upto_region 21 with (first
              | (go_at_call 20; refine (two_load' S8.out HB2.out HS2.out).mono ?_; rw [HLD.out]; unfold TwoLoad; dsimp only; rintro e_ w9 ⟨A9, c9, rfl, hC, hS, hB⟩; have S9 := Aside0.mk hS; have C9 := Aside0.mk hC; have C8b := Aside0.mk (Kd.C_below C8.out hB); clear hC hS hB)
              | (go_at_call 9; refine (two_load S7.out HB2.out HS2.out).mono ?_; rw [HLD.out]; unfold TwoLoad; dsimp only; rintro e_ w8 ⟨A8, c8, rfl, hC, hS, hB⟩; have S8 := Aside0.mk hS; have C8 := Aside0.mk hC; clear hC hS hB)
              | (go_at_call 19; refine (two_restart' S6.out).mono ?_; rintro e_ w7 ⟨rfl, hS, hM⟩; have S7 := Aside0.mk hS; clear hS hM)
              | (go_at_call 18; refine (two_restart S5.out).mono ?_; rintro e_ w6 ⟨rfl, hS, hM⟩; have S6 := Aside0.mk hS; clear hS hM))
            have hcv1 := conv_str (c := c8) C8b.out
            have hcv2 := conv_str (c := c9) C9.out
            go_wp2
            all_goals exact ⟨⟨k + 1, d1.restart, by go_num, ⟨by have := HLT.out; omega⟩, ⟨rfl, HL1.out, HB2.out⟩, ⟨S9.out.none⟩⟩, by have := HLT.out; simp [intOf]; omega⟩
          | false =>
            go_upto_region 15 with (fail)
            obtain ⟨w3, hw3⟩ : ∃ w3, w3 = W1 := ⟨_, rfl⟩
            rw [← hw3] at z0 z4 HZ0 HZ4 S1 ⊢
            obtain ⟨d0, hd0⟩ : ∃ d0, d0 = d := ⟨_, rfl⟩
            have S3 : Aside0 (Two w [q] w3 w.heap.size w1.heap.size d0 d0) := ⟨by rw [hd0]; exact S1.out⟩
            have HD0 : Aside0 (d0.P = [] ∧ d0.S.length = m ∧ d0.AllB) := ⟨by rw [hd0]; exact HD.out⟩
            have u0 := z0
            have u4 := z4
            have HU0 := HZ0
            have HU4 := HZ4
            clear S1 z0 z1 z2 z3 z4 hw3 hd0 HZ0 HZ4 HZ2 HZ3
            obtain ⟨d1, E, hsv⟩ : ∃ d1 E, DS.save crcO d0 ggen b = (d1, E) := ⟨_, _, rfl⟩
            have hc := save_code crcO d0 ggen b
            have hsl := DS.save_len crcO d0 ggen b
            have hsb := DS.save_bytes (crc := crcO) HD0.out.2.2 ggen HBY.out
            rw [hsv] at hc hsl hsb
            have hE0 : 0 ≤ E := hc.1
            have hE1 : E ≤ 5 := hc.2
            have hwE : IntKind.i64.wrap E = E := by rw [IntKind.wrap_i64]; omega
            have hwE2 : wrap64 E = E := by unfold wrap64; omega
            have HSV := Aside0.mk hsv
            have HL1 : Aside0 (d1.S.length = m) := ⟨hsl.trans HD0.out.2.1⟩
            have HB1 : Aside0 (d1.AllB) := ⟨hsb⟩
            obtain ⟨rm, hrm⟩ : ∃ rm, d1.room = rm := ⟨_, rfl⟩
            have HRM := Aside0.mk hrm
            obtain ⟨lg, lb, lok, hld⟩ : ∃ lg lb lok, DS.load crcO d1.restart = (lg, lb, lok) := ⟨_, _, _, rfl⟩
            have HLD := Aside0.mk hld
            have HP0 : Aside0 (d0.P.length < 1073741824) := ⟨by rw [HD0.out.1]; decide⟩
            have HS0 : Aside0 (d0.S.length ≤ 4000) := ⟨by rw [HD0.out.2.1]; have := HM.out; omega⟩
            have HS1 : Aside0 (d1.S.length ≤ 4000) := ⟨by rw [HL1.out]; have := HM.out; omega⟩
            have HS2 : Aside0 (d1.restart.S.length ≤ 4000) := ⟨HS1.out⟩
            have HB2 : Aside0 (d1.restart.AllB) := ⟨DS.restart_bytes HB1.out⟩
            have HW0 : Aside0 (w3.drew.cell? ⟨q, 0, none⟩ = some (.slice Ab b.length cb)) := ⟨HU0.out⟩
            have HW4 : Aside0 (w3.drew.cell? ⟨q, 4, none⟩ = some (.int .i64 ggen)) := ⟨HU4.out⟩
            clear hc hsl hsb hsv hrm hld
            go_region_held (fun w' => w'.cell? ⟨q, 0, none⟩ = some (.slice Ab b.length cb) ∧ w'.cell? ⟨q, 4, none⟩ = some (.int .i64 ggen)) (first | (exact ⟨HY0.out, HY4.out⟩) | (exact ⟨HX0.out, HX4.out⟩) | (exact ⟨HW0.out, HW4.out⟩)) (first
              | (go_at_call 17; refine (two_room' S5.out HS1.out).mono ?_; rw [HRM.out]; rintro e w8 ⟨rfl, rfl⟩)
              | (go_at_call 16; refine (two_room S5.out HS1.out).mono ?_; rw [HRM.out]; rintro e w8 ⟨rfl, rfl⟩)
              | (go_at_call 15; refine (two_save' S4.out ggen Ab cb b HCB.out HLC.out (by have := HBL.out; omega) HBY.out HP0.out HS0.out).mono ?_; rw [HSV.out]; rintro e w5 ⟨rfl, hS, hM⟩; have S5 := Aside0.mk hS; (have y0 := (cell_of_heap (p := ⟨q, 0, none⟩) (hM q (by simp))).trans HX0.out); have HY0 := Aside0.mk y0; (have y4 := (cell_of_heap (p := ⟨q, 4, none⟩) (hM q (by simp))).trans HX4.out); have HY4 := Aside0.mk y4; clear hS hM)
              | (go_at_call 8; refine (two_save (S3.out.after (below_drew1 (Below.refl _ _))) ggen Ab cb b HCB.out HLC.out (by have := HBL.out; omega) HP0.out HS0.out).mono ?_; rw [HSV.out]; rintro e w4 ⟨rfl, hS, hM⟩; have S4 := Aside0.mk hS; (have x0 := (cell_of_heap (p := ⟨q, 0, none⟩) (hM q (by simp))).trans HW0.out); have HX0 := Aside0.mk x0; (have x4 := (cell_of_heap (p := ⟨q, 4, none⟩) (hM q (by simp))).trans HW4.out); have HX4 := Aside0.mk x4; clear hS hM))
            go_upto_region 21 with (first
              | (go_at_call 20; refine (two_load' S8.out HB2.out HS2.out).mono ?_; rw [HLD.out]; unfold TwoLoad; dsimp only; rintro e_ w9 ⟨A9, c9, rfl, hC, hS, hB⟩; have S9 := Aside0.mk hS; have C9 := Aside0.mk hC; have C8b := Aside0.mk (Kd.C_below C8.out hB); clear hC hS hB)
              | (go_at_call 9; refine (two_load S7.out HB2.out HS2.out).mono ?_; rw [HLD.out]; unfold TwoLoad; dsimp only; rintro e_ w8 ⟨A8, c8, rfl, hC, hS, hB⟩; have S8 := Aside0.mk hS; have C8 := Aside0.mk hC; clear hC hS hB)
              | (go_at_call 19; refine (two_restart' S6.out).mono ?_; rintro e_ w7 ⟨rfl, hS, hM⟩; have S7 := Aside0.mk hS; clear hS hM)
              | (go_at_call 18; refine (two_restart S5.out).mono ?_; rintro e_ w6 ⟨rfl, hS, hM⟩; have S6 := Aside0.mk hS; clear hS hM))
            have hcv1 := conv_str (c := c8) C8b.out
            have hcv2 := conv_str (c := c9) C9.out
            go_wp2
            all_goals exact ⟨⟨k + 1, d1.restart, by go_num, ⟨by have := HLT.out; omega⟩, ⟨rfl, HL1.out, HB2.out⟩, ⟨S9.out.none⟩⟩, by have := HLT.out; simp [intOf]; omega⟩
        · have b2 : decide ((lft.length : Int) > 50) = true := decide_eq_true (by omega)
          have b2' : decide ((50 : Int) < (lft.length : Int)) = true := decide_eq_true (by omega)
          have b2'' : decide (50 < lft.length) = true := decide_eq_true (by omega)
          clear hb hf
          go_wp2
          go_ret
          exact ⟨rfl, S1.out.below⟩
      · have b1 : decide ((b.length : Int) > 300) = true := decide_eq_true (by omega)
        have b1' : decide ((300 : Int) < (b.length : Int)) = true := decide_eq_true (by omega)
        have b1'' : decide (300 < b.length) = true := decide_eq_true (by omega)
        clear hb
        go_wp2
        go_ret
        exact ⟨rfl, S1.out.below⟩
    · obtain rfl : k = l1.length := by have := HK.out; omega
      have hd : decide ((l1.length : Int) < (l1.length : Int)) = false := decide_eq_false (by omega)
      have hd2 : decide (l1.length < l1.length) = false := decide_eq_false (by omega)
      clear hlt
      go_wp2_with (go_at_call 10; refine (known5_any _).mono ?_; rintro e w9 ⟨rfl, hB⟩; have B9 := Aside0.mk (HS.out.below.trans (hB.mono HS.out.below.size)); clear hB)
      go_ret
      exact ⟨rfl, B9.out⟩
theorem lazaruslaw5_SlotPlays.calls (a0 : Int) (A1 : Option Addr) (c1 : Nat) (l1 : List S40) (r : Bool) (w : World) (hr1 : Kd.C k40 w A1 l1.length l1) (hc1 : l1.length ≤ c1) (h : lazaruslaw5_SlotPlays.f a0 l1 = some r) :
    Calls Try.prog 5 #[.int .i64 a0, .slice A1 l1.length c1] w fun e w' => e = .returned (.bool r) ∧ Below w.heap.size w w' := by
  unfold lazaruslaw5_SlotPlays.f at h
  by_cases hB : l1.all okAct = true
  · rw [if_pos hB] at h
    obtain rfl : true = r := Option.some.inj h
    clear h
    by_cases h0 : a0 < 0
    · have d1 : decide (a0 < 0) = true := decide_eq_true h0
      clear hB h0 hr1 hc1
      go_enter Try.func5, Try.ntmps5
      go_wp2
      go_ret
      exact ⟨rfl, Below.refl _ _⟩
    by_cases h1 : a0 > 60
    · have d1 : decide (a0 < 0) = false := decide_eq_false h0
      have d2 : decide (a0 > 60) = true := decide_eq_true h1
      have d2' : decide (60 < a0) = true := decide_eq_true h1
      clear hB h0 h1 hr1 hc1
      go_enter Try.func5, Try.ntmps5
      go_wp2
      go_ret
      exact ⟨rfl, Below.refl _ _⟩
    by_cases h20 : l1.length ≤ 20
    · obtain ⟨m, rfl⟩ := Int.eq_ofNat_of_zero_le (Int.not_lt.1 h0)
      exact plays_core m A1 c1 l1 w hr1 (by omega) hB h20
    · have d1 : decide (a0 < 0) = false := decide_eq_false h0
      have d2 : decide (a0 > 60) = false := decide_eq_false h1
      have d2' : decide (60 < a0) = false := decide_eq_false h1
      have e0 : decide ((l1.length : Int) > 20) = true := decide_eq_true (by omega)
      have e0' : decide ((20 : Int) < (l1.length : Int)) = true := decide_eq_true (by omega)
      have e0'' : decide (20 < l1.length) = true := decide_eq_true (by omega)
      clear hB h0 h1 h20 hr1 hc1
      go_enter Try.func5, Try.ntmps5
      go_wp2
      go_ret
      exact ⟨rfl, Below.refl _ _⟩
  · rw [if_neg hB] at h
    cases h
end Go.Proofs.Ytkicekddkgehoaa.LSlotPlays
