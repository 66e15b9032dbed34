/- Contracts of the calls, by hand. -/
import Derived.Test.YtkicekddkgehoaaQSlotLastx1
import Derived.Test.YtkicekddkgehoaaSlot1
import Derived.RangeFuncNested
import Derived.RangeFuncBound
import Derived.RangeFuncCalls
import Derived.RangeFuncLeaves
import Derived.RangeFuncBox
import Derived.Shelf.Abstract
import Derived.Shelf.RegionOpen
import Derived.OwnWalkIn
import Derived.TacticsInMore
import Derived.LoopNIn
import Derived.LoopIn
import Derived.Sort.QuietIn
import Derived.Sort.CutIn
import Derived.Stop.RegionWithIn
namespace Go.Proofs.Ytkicekddkgehoaa.Hnd
open Go.RowKit Go.Proofs.Ytkicekddkgehoaa.QSlotLast Go.Proofs.YtkicekddkgehoaaW.PrintWords Go.Proofs.YtkicekddkgehoaaW.PrintLast Go.Proofs.YtkicekddkgehoaaW.Dk Go.Shelf
set_option linter.unusedVariables false
set_option linter.unusedSimpArgs false
attribute [local go_sem] Oper.semAt_some
/-! Two places for what is saved: the calls. -/
theorem st_room {w0 W : World} {xs : List Nat} {g : Nat} {d : DS} (h : St w0 xs W g d) (hS : d.S.length ≤ 4000) :
    Calls Try.prog 16 #[.pointer (some ⟨g, 0, none⟩)] W fun e w' => e = .returned (.int .i64 (d.room : Int)) ∧ W = w' := by
  have H := Aside0.mk h
  have hp0 : (0 : Int) ≤ (d.S.length : Int) := by omega
  have hp1 : (d.S.length : Int) ≤ 4000 := by omega
  have HR : Aside0 (((d.S.length : Int) * 3) / 8 = (d.room : Int)) := ⟨by unfold DS.room; omega⟩
  clear h hS
  go_enter Try.func16, Try.ntmps16
  go_wp2_with (go_at_call 29; refine (st_size H.out).mono ?_; rintro e w8 ⟨rfl, rfl⟩)
  go_ret
  exact ⟨ret_i HR.out, rfl⟩
set_option maxHeartbeats 1000000 in
theorem save_arg {w0 W : World} {xs : List Nat} {g : Nat} {d : DS} (h : St w0 xs W g d) (gen : Int) (v : Value) (hg : gen < 1 ∨ gen > 2147483647) :
    Calls Try.prog 8 #[.pointer (some ⟨g, 0, none⟩), .int .i64 gen, v] W fun e w' => e = .returned (.int .i64 1) ∧ W = w' := by
  clear h
  by_cases h1 : gen < 1
  · have d1 : decide (gen < 1) = true := decide_eq_true h1
    clear hg h1
    go_enter Try.func8, Try.ntmps8
    go_wp2
    go_ret
    exact ⟨rfl, rfl⟩
  · have d1 : decide (gen < 1) = false := decide_eq_false h1
    have d2 : decide (gen > 2147483647) = true := decide_eq_true (by omega)
    have d3 : decide (2147483647 < gen) = true := decide_eq_true (by omega)
    clear hg h1
    go_enter Try.func8, Try.ntmps8
    go_wp2
    go_ret
    exact ⟨rfl, rfl⟩
def SavePost (w0 : World) (xs : List Nat) (W : World) (g : Nat) (r : DS × Int) (e : Ending) (w' : World) : Prop := e = .returned (.int .i64 r.2) ∧ St w0 xs w' g r.1 ∧ Sm xs W w'
set_option maxHeartbeats 4000000 in
set_option maxRecDepth 100000 in
theorem st_save {w0 W : World} {xs : List Nat} {g : Nat} {d : DS} (h : St w0 xs W g d) (gen : Int) (A : Option Addr) (c : Nat) (b : List Int) (hr : Rd w0 xs W A b) (hc : b.length ≤ c) (hb : b.length < 268435456) (hP : d.P.length < 1073741824) (hS : d.S.length ≤ 4000) :
    Calls Try.prog 8 #[.pointer (some ⟨g, 0, none⟩), .int .i64 gen, .slice A b.length c] W (SavePost w0 xs W g (DS.save crcO d gen b)) := by
  by_cases hg : gen < 1 ∨ gen > 2147483647
  · have e : DS.save crcO d gen b = (d, 1) := by unfold DS.save; rw [if_pos hg]
    rw [e]
    exact (save_arg h gen _ hg).mono fun e w' ⟨h1, h2⟩ => ⟨h1, h2 ▸ h, fun x _ => by rw [h2]⟩
  have d1 : decide (gen < 1) = false := decide_eq_false (by omega)
  have d2 : decide (gen > 2147483647) = false := decide_eq_false (by omega)
  have d3 : decide (2147483647 < gen) = false := decide_eq_false (by omega)
  have hrl : d.room ≤ 1500 := by unfold DS.room; omega
  have HRM := Aside0.mk (st_room h hS)
  have H := Aside0.mk h
  have HR := Aside0.mk hr
  have HC := Aside0.mk hc
  have HB := Aside0.mk hb
  by_cases hn : (d.room : Int) < (DS.need b.length : Int)
  · have e : DS.save crcO d gen b = (d, 4) := by unfold DS.save; rw [if_neg hg, if_pos hn]
    rw [e]
    have d4 : decide ((DS.need b.length : Int) > (d.room : Int)) = true := decide_eq_true hn
    have d5 : decide ((d.room : Int) < (DS.need b.length : Int)) = true := decide_eq_true hn
    have d6 : decide (d.room < DS.need b.length) = true := decide_eq_true (by omega)
    generalize d.room = rm at *
    obtain ⟨nd, hnd⟩ : ∃ nd, DS.need b.length = nd := ⟨_, rfl⟩
    rw [hnd] at d4 d5 d6
    have ND := Aside0.mk hnd
    unfold SavePost
    clear h hr hc hb hP hS hg hn e hnd hrl
    go_enter Try.func8, Try.ntmps8
    go_wp2_with (first
      | (go_at_call 21; refine (need_c b.length (by have := HB.out; omega) _).mono ?_; rw [ND.out]; rintro e w1 ⟨rfl, hB⟩; have B1 := Aside0.mk hB; clear hB)
      | (go_at_call 16; refine HRM.out.mono ?_; rintro e w8 ⟨rfl, rfl⟩))
    go_ret
    exact ⟨rfl, H.out.after B1.out, fun x hx => B1.out.block x (H.out.2.2 x hx)⟩
  have d4 : decide ((DS.need b.length : Int) > (d.room : Int)) = false := decide_eq_false hn
  have d5 : decide ((d.room : Int) < (DS.need b.length : Int)) = false := decide_eq_false hn
  have d6 : decide (d.room < DS.need b.length) = false := decide_eq_false (by omega)
  obtain ⟨a, ha⟩ : ∃ a, DS.slotAt d gen = a := ⟨_, rfl⟩
  have hal : a ≤ 1500 := by rw [← ha]; exact Nat.le_trans (DS.slotAt_le _ _) hrl
  have haq : gen % 2 * (d.room : Int) = (a : Int) := by rw [← ha]; exact DS.slotAt_eq d gen
  have hsv : DS.save crcO d gen b = if (DS.puth d (a : Int) DS.zeros16).2 = 0 then DS.put crcO (DS.puth d (a : Int) DS.zeros16).1 (a : Int) d.room gen b else DS.puth d (a : Int) DS.zeros16 := by
    unfold DS.save
    rw [if_neg hg, if_neg hn, haq]
  have HPL : Aside0 (d.P.length < 1099511627776) := ⟨by omega⟩
  have hg1 : 1 ≤ gen := by omega
  have hg2 : gen ≤ 2147483647 := by omega
  have hw : IntKind.u32.wrap gen = gen := by rw [IntKind.wrap_u32]; omega
  have ht : Int.tmod gen 2 * (d.room : Int) = (a : Int) := by rw [Int.tmod_eq_emod_of_nonneg (by omega)]; exact haq
  obtain ⟨rm, hrm⟩ : ∃ rm, d.room = rm := ⟨_, rfl⟩
  rw [hrm] at d4 d5 d6 ht haq hsv HRM
  obtain ⟨nd, hnd⟩ : ∃ nd, DS.need b.length = nd := ⟨_, rfl⟩
  rw [hnd] at d4 d5 d6
  have ND := Aside0.mk hnd
  have hwr0 : wrap64 (gen % 2 * (rm : Int)) = (a : Int) := by rw [haq]; unfold wrap64; omega
  have hwr1 : IntKind.i64.wrap (gen % 2 * (rm : Int)) = (a : Int) := by rw [haq, IntKind.wrap_i64]; omega
  have hwa : wrap64 (a : Int) = (a : Int) := by unfold wrap64; omega
  have HAL := Aside0.mk hal
  by_cases h0 : (DS.puth d (a : Int) DS.zeros16).2 = 0
  · rw [hsv, if_pos h0]
    have H00 := Aside0.mk h0
    have HPP : Aside0 ((DS.puth d (a : Int) DS.zeros16).1.P.length < 1073741824) := ⟨by rw [DS.puth_P _ _ _ h0]; decide⟩
    unfold SavePost
    clear h hr hc hb hP hS hg hn hnd hrl hrm hal h0 hsv ha
    go_enter Try.func8, Try.ntmps8
    go_wp2_with (first
      | (go_at_call 23; refine (st_putS S2.out (a : Int) (rm : Int) gen A c b (HR.out.step' H.out.2.1 S2.out.2.1 S2.out.2.2 (fun x hx => (M2.out x hx).trans (B1.out.block x (H.out.2.2 x hx)))) HC.out HB.out HPP.out (by have := HAL.out; omega) (by have := HAL.out; omega)).mono ?_; rintro e w3 ⟨rfl, hS, hM, hZ⟩; have S3 := Aside0.mk hS; have M3 := Aside0.mk hM; clear hS hM hZ)
      | (go_at_call 22; refine (st_clear S1.out (a : Int) HPL.out).mono ?_; rw [show List.replicate 16 (0 : Int) = DS.zeros16 from rfl, H00.out]; rintro e w2 ⟨rfl, hS, hM⟩; have S2 := Aside0.mk hS; have M2 := Aside0.mk hM; clear hS hM)
      | (go_at_call 21; refine (need_c b.length (by have := HB.out; omega) _).mono ?_; rw [ND.out]; rintro e w1 ⟨rfl, hB⟩; have B1 := Aside0.mk hB; have S1 := Aside0.mk (H.out.after hB); clear hB)
      | (go_at_call 16; refine HRM.out.mono ?_; rintro e w8 ⟨rfl, rfl⟩))
    go_ret
    exact ⟨rfl, S3.out, fun x hx => (M3.out x hx).trans ((M2.out x hx).trans (B1.out.block x (H.out.2.2 x hx)))⟩
  · rw [hsv, if_neg h0]
    have hb1 : ((DS.puth d (a : Int) DS.zeros16).2 != 0) = true := by simpa using h0
    have hb2 : ((DS.puth d (a : Int) DS.zeros16).2 == 0) = false := by simpa using h0
    generalize hE : (DS.puth d (a : Int) DS.zeros16).2 = E at hb1 hb2
    have HE := Aside0.mk hE
    unfold SavePost
    clear h hr hc hb hP hS hg hn hnd hrl hrm hal h0 hsv ha hE
    go_enter Try.func8, Try.ntmps8
    go_wp2_with (first
      | (go_at_call 23; fail; refine (st_putS S2.out (a : Int) (rm : Int) gen A c b (HR.out.step' H.out.2.1 S2.out.2.1 S2.out.2.2 (fun x hx => (M2.out x hx).trans (B1.out.block x (H.out.2.2 x hx)))) HC.out HB.out HPP.out (by have := HAL.out; omega) (by have := HAL.out; omega)).mono ?_; rintro e w3 ⟨rfl, hS, hM, hZ⟩; have S3 := Aside0.mk hS; have M3 := Aside0.mk hM; clear hS hM hZ)
      | (go_at_call 22; refine (st_clear S1.out (a : Int) HPL.out).mono ?_; rw [show List.replicate 16 (0 : Int) = DS.zeros16 from rfl, HE.out]; rintro e w2 ⟨rfl, hS, hM⟩; have S2 := Aside0.mk hS; have M2 := Aside0.mk hM; clear hS hM)
      | (go_at_call 21; refine (need_c b.length (by have := HB.out; omega) _).mono ?_; rw [ND.out]; rintro e w1 ⟨rfl, hB⟩; have B1 := Aside0.mk hB; have S1 := Aside0.mk (H.out.after hB); clear hB)
      | (go_at_call 16; refine HRM.out.mono ?_; rintro e w8 ⟨rfl, rfl⟩))
    go_ret
    exact ⟨by first | exact ret_i HE.out.symm | exact HE.out.symm | simp [HE.out], S2.out, fun x hx => (M2.out x hx).trans (B1.out.block x (H.out.2.2 x hx))⟩
/-- What is loaded. -/
def LoadPost (w0 : World) (xs : List Nat) (W : World) (g : Nat) (d : DS) (r : Int × List Int × Bool) (e : Ending) (w' : World) : Prop :=
  ∃ v, e = .returned (.tuple #[.int .i64 r.1, v, .bool r.2.2]) ∧ (Kd.int .u8).R 5 w' W.heap.size (fun _ => True) v r.2.1 ∧ St w0 xs w' g d ∧ Below W.heap.size W w'
theorem load1_or (crc : List Int → Int) (d : DS) (i : Nat) (s : Int × List Int × Bool) : DS.load1 crc d i s = s ∨ DS.load1 crc d i s = DS.get crc d ((i : Int) * d.room) d.room := by
  unfold DS.load1
  split
  · exact .inr rfl
  · exact .inl rfl
theorem get_rng (crc : List Int → Int) {d : DS} (h : d.AllB) (i room : Int) : 0 ≤ (DS.get crc d i room).1 ∧ (DS.get crc d i room).1 < 4294967296 := by
  rcases DS.get_tag crc d i room with e | ⟨e, _⟩
  · rw [e]
    exact ⟨by decide, by decide⟩
  · rw [e]
    exact get4_lt _ (DS.rd_bytes h i)
set_option maxHeartbeats 4000000 in
set_option maxRecDepth 100000 in
theorem st_load {w0 W : World} {xs : List Nat} {g : Nat} {d : DS} (h : St w0 xs W g d) (hB : d.AllB) (hS : d.S.length ≤ 4000) :
    Calls Try.prog 9 #[.pointer (some ⟨g, 0, none⟩)] W (LoadPost w0 xs W g d (DS.load crcO d)) := by
  have hrl : d.room ≤ 1500 := by unfold DS.room; omega
  have HRM := Aside0.mk (st_room h hS)
  have H := Aside0.mk h
  have HAB := Aside0.mk hB
  have HSS := Aside0.mk hS
  have HLD : Aside0 (DS.load crcO d = DS.load1 crcO d 1 (DS.load1 crcO d 0 (0, [], false))) := ⟨rfl⟩
  obtain ⟨rm, hrm⟩ : ∃ rm, d.room = rm := ⟨_, rfl⟩
  rw [hrm] at HRM hrl
  have HRL := Aside0.mk hrl
  have HRQ := Aside0.mk hrm
  unfold LoadPost
  obtain ⟨res, hres⟩ : ∃ res, DS.load crcO d = res := ⟨_, rfl⟩
  rw [hres]
  rw [hres] at HLD
  clear h hB hS hrl hrm hres
  go_enter Try.func9, Try.ntmps9
  go_wp2_with (go_at_call 16; refine HRM.out.mono ?_; rintro e w8 ⟨rfl, rfl⟩)
  go_loopw [2, 3, 4, 12] (fun u2 u3 u4 u12 wr => ∃ (k : Nat) (s : Int × List Int × Bool), u12 = .int .i64 (k : Int) ∧ u2 = .int .i64 s.1 ∧ u4 = .bool s.2.2 ∧ Aside0 (k ≤ 2) ∧ Aside0 ((Kd.int .u8).R 5 wr W.heap.size (fun _ => True) u3 s.2.1) ∧ Aside0 (St w0 xs wr g d) ∧ Aside0 (Below W.heap.size W wr) ∧ Aside0 ((k = 0 → s = (0, [], false)) ∧ (k = 1 → s = DS.load1 crcO d 0 (0, [], false)) ∧ (k = 2 → s = res))) (fun u2 u3 u4 u12 _ => 3 - (intOf u12).toNat)
  case atStart => exact ⟨0, (0, [], false), rfl, rfl, rfl, ⟨by omega⟩, ⟨Kd.R_nil _ _ _ _ _⟩, H, ⟨Below.refl _ _⟩, ⟨fun _ => rfl, fun h => by omega, fun h => by omega⟩⟩
  case round =>
    obtain ⟨k, s, rfl, rfl, rfl, HK, HV, HS, HBW, HQ⟩ := hrel
    by_cases hlt : k < 2
    · have hd : decide ((k : Int) < 2) = true := decide_eq_true (by omega)
      have hd2 : decide (k < 2) = true := decide_eq_true hlt
      obtain ⟨a, ha⟩ : ∃ a, k * rm = a := ⟨_, rfl⟩
      have hal : a ≤ 3000 := by
        have h1 : k ≤ 1 := by omega
        have h2 := Nat.mul_le_mul h1 HRL.out
        omega
      have haq : (k : Int) * (rm : Int) = (a : Int) := by rw [← ha]; exact (Int.natCast_mul k rm).symm
      have hwa : wrap64 (a : Int) = (a : Int) := by unfold wrap64; omega
      have hwb : IntKind.i64.wrap ((k : Int) * (rm : Int)) = (a : Int) := by rw [haq, IntKind.wrap_i64]; omega
      have hk0 : (0 : Int) ≤ (k : Int) := by omega
      have hk1 : (k : Int) + 1 ≤ 9223372036854775807 := by omega
      have HAL := Aside0.mk hal
      obtain ⟨tg, x, ok, hG⟩ : ∃ tg x ok, DS.get crcO d (a : Int) (rm : Int) = (tg, x, ok) := ⟨_, _, _, rfl⟩
      have hrng := get_rng crcO HAB.out (a : Int) (rm : Int)
      rw [hG] at hrng
      have hr0 : 0 ≤ tg := hrng.1
      have hr1 : tg < 4294967296 := hrng.2
      have hwt : IntKind.i64.wrap tg = tg := by rw [IntKind.wrap_i64]; omega
      have hl1 : DS.load1 crcO d k s = if ok = true ∧ tg ≤ 2147483647 ∧ s.1 < tg then (tg, x, ok) else s := by
        unfold DS.load1
        rw [HRQ.out, haq, hG]
      obtain ⟨s2, hs2⟩ : ∃ s2, DS.load1 crcO d k s = s2 := ⟨_, rfl⟩
      have HN : Aside0 ((k + 1 = 0 → s2 = (0, [], false)) ∧ (k + 1 = 1 → s2 = DS.load1 crcO d 0 (0, [], false)) ∧ (k + 1 = 2 → s2 = res)) := ⟨fun h => by omega, fun h => by
        obtain rfl : k = 0 := by omega
        rw [← hs2, HQ.out.1 rfl], fun h => by
        obtain rfl : k = 1 := by omega
        rw [← hs2, HQ.out.2.1 rfl, HLD.out]⟩
      rw [hs2] at hl1
      have HG := Aside0.mk hG
      have HLT := Aside0.mk hlt
      have cases4 : (ok = false ∧ s2 = s) ∨ (ok = true ∧ decide (tg ≤ 2147483647) = false ∧ s2 = s) ∨ (ok = true ∧ decide (tg ≤ 2147483647) = true ∧ decide (tg > s.1) = false ∧ decide (s.1 < tg) = false ∧ s2 = s) ∨ (ok = true ∧ decide (tg ≤ 2147483647) = true ∧ decide (tg > s.1) = true ∧ decide (s.1 < tg) = true ∧ s2 = (tg, x, true)) := by
        cases ok with
        | false => exact .inl ⟨rfl, by rw [hl1, if_neg (by simp)]⟩
        | true =>
          by_cases c1 : tg ≤ 2147483647
          · by_cases c2 : s.1 < tg
            · exact .inr (.inr (.inr ⟨rfl, decide_eq_true c1, decide_eq_true c2, decide_eq_true c2, by rw [hl1, if_pos ⟨rfl, c1, c2⟩]⟩))
            · exact .inr (.inr (.inl ⟨rfl, decide_eq_true c1, decide_eq_false c2, decide_eq_false c2, by rw [hl1, if_neg (fun h => c2 h.2.2)]⟩))
          · exact .inr (.inl ⟨rfl, decide_eq_false c1, by rw [hl1, if_neg (fun h => c1 h.2.1)]⟩)
      obtain ⟨s0, sb, so⟩ := s
      clear hlt hal ha hG hrng hr0 hr1 hl1 hs2
      dsimp only at cases4
      rcases cases4 with ⟨rfl, rfl⟩ | ⟨rfl, e1, rfl⟩ | ⟨rfl, e1, e2, e3, rfl⟩ | ⟨rfl, e1, e2, e3, rfl⟩
      all_goals
        go_wp2_with (go_at_call 24; refine (st_get HS.out (a : Int) (rm : Int) HAB.out (by have := HAL.out; omega) HSS.out (by omega) (by have := HRL.out; omega)).mono ?_; rw [HG.out]; rintro e w3 ⟨v3, rfl, hR, hS, hB⟩; have R3 := Aside0.mk hR; have S3 := Aside0.mk hS; have B3 := Aside0.mk hB; clear hR hS hB)
        all_goals first
          | exact ⟨⟨k + 1, (s0, sb, so), by go_num, rfl, rfl, ⟨by have := HLT.out; omega⟩, ⟨Kd.R_below HV.out B3.out⟩, S3, ⟨HBW.out.trans (B3.out.mono HBW.out.size)⟩, HN⟩, by have := HLT.out; simp [intOf]; omega⟩
          | exact ⟨⟨k + 1, (tg, x, true), by go_num, rfl, rfl, ⟨by have := HLT.out; omega⟩, ⟨Kd.R_lower R3.out HBW.out.size⟩, S3, ⟨HBW.out.trans (B3.out.mono HBW.out.size)⟩, HN⟩, by have := HLT.out; simp [intOf]; omega⟩
    · obtain rfl : k = 2 := by have := HK.out; omega
      have hq := HQ.out.2.2 rfl
      subst hq
      obtain ⟨s0, sb, so⟩ := s
      clear hlt
      go_wp2
      exact bodyPost_ret (v := .tuple #[.int .i64 s0, u3, .bool so]) (by simp [results, Try.results9, go_sem]) rfl ⟨_, rfl, HV.out, HS.out, HBW.out⟩
end Go.Proofs.Ytkicekddkgehoaa.Hnd
