/- Contracts of the calls, by hand. -/
import Derived.Test.YtkicekddkgehoaaDoorQMarkBytesx2
import Derived.Test.YtkicekddkgehoaaDoorNet7
import Derived.RangeFuncNested
import Derived.RangeFuncBound
import Derived.RangeFuncCalls
import Derived.RangeFuncLeaves
import Derived.RangeFuncBox
import Derived.Shelf.Abstract
import Derived.Shelf.RegionOpen
import Derived.OwnWalkIn
import Derived.TacticsInMore
import Derived.LoopNIn
import Derived.LoopIn
import Derived.Sort.QuietIn
import Derived.Sort.CutIn
import Derived.Stop.RegionWithIn
import Derived.StillTailTactics
import Derived.Shelf.Strconv.AppendIntPublic10
import Derived.Shelf.Strconv.ErrVarParseInt
import Derived.Shelf.Bytes.IndexByte
import Derived.Lib.ItoaLen
import Derived.Lib.ParseIntBTie
import Derived.Lib.AtoiBound
namespace Go.Proofs.YtkicekddkgehoaaDoor.Hnd
open Go.RowKit Go.Proofs.YtkicekddkgehoaaDoor.QMarkBytes Go.Proofs.YtkicekddkgehoaaDoorW.PrintWords Go.Proofs.YtkicekddkgehoaaDoorW.PrintLast  Go.Shelf
set_option linter.unusedVariables false
set_option linter.unusedSimpArgs false
attribute [local go_sem] Oper.semAt_some
theorem getD_bytes {b : List Int} (h : NBytes b) {j : Nat} (hj : j < b.length) : 0 ≤ b.getD j 0 ∧ b.getD j 0 < 256 := by
  rw [List.getD_eq_getElem?_getD, List.getElem?_eq_getElem hj]
  exact h _ (List.getElem_mem hj)
theorem tk_ref {b : List Int} {v : Int} (hv : NT.rval b = v) : tk b = if (NT.num v).length ≤ b.length ∧ b.take (NT.num v).length = NT.num v then (v, (NT.num v).length, true) else (0, 0, false) := by
  unfold tk
  rw [← NT.rtake_eq, NT.rtake, hv]
  by_cases h : (NT.num v).length ≤ b.length ∧ b.take (NT.num v).length = NT.num v
  · rw [if_pos h, if_pos h]
  · rw [if_neg h, if_neg h]
theorem str_ne {a b : List Int} (ha : NBytes a) (hb : NBytes b) (h : a ≠ b) : strOfNums a ≠ strOfNums b := fun e => h (by
  have := congrArg strL e
  rwa [strL_strOf ha, strL_strOf hb] at this)
theorem at_byte' {w : World} {ad : Addr} {n : Nat} {xs : List Int} (h : (Kd.int .u8).C w (some ad) n xs) (k : Nat) (hk : k < n) : w.cell? (ad.add k) = some (.int .u8 (xs.getD k 0)) := by
  obtain ⟨ad2, e, h2⟩ := at_byte h k hk
  injection e with e
  subst e
  exact h2
theorem list_ne {a b : List Int} (ha : NBytes a) (hb : NBytes b) (h : a ≠ b) : ((strOfNums a).toList == (strOfNums b).toList) = false := by
  rw [Lib.strOfNums_toList, Lib.strOfNums_toList, beq_eq_false_iff_ne]
  intro e
  apply h
  have := congrArg NT.ints e
  rwa [show NT.ints (Lib.bytesOf a) = a from NT.ints_u8s ha, show NT.ints (Lib.bytesOf b) = b from NT.ints_u8s hb] at this
def RNPost (W : World) (bad : List Nat) (g : Nat) (b : List Int) (r : Int × Nat × Bool) (e : Ending) (w' : World) : Prop :=
  e = .returned (.tuple #[.int .i64 r.1, .bool r.2.2]) ∧ NR 63 False w' bad g (b.drop r.2.1) ∧ KeptB (fun k => k = g) W w'
set_option maxHeartbeats 8000000 in
set_option maxRecDepth 100000 in
theorem refrnum_c {W : World} {bad : List Nat} {g : Nat} {b : List Int} (h : NR 63 False W bad g b) :
    Calls Tryd.prog 32 #[.pointer (some ⟨g, 0, none⟩)] W (RNPost W bad g b (tk b)) := by
  have HW := Aside0.mk h
  obtain ⟨A, c, h1, h2, h3, h4, h5, h6, h7⟩ := h
  obtain ⟨v, hv⟩ : ∃ v, NT.rval b = v := ⟨_, rfl⟩
  have htk := tk_ref hv
  obtain ⟨nm, hnm⟩ : ∃ nm, NT.num v = nm := ⟨_, rfl⟩
  obtain ⟨m, hm⟩ : ∃ m, nm.length = m := ⟨_, rfl⟩
  rw [hnm, hm] at htk
  have HTK := Aside0.mk htk
  have HNM := Aside0.mk hnm
  have HMQ : Aside0 ((NT.num v).length = m) := ⟨by rw [hnm, hm]⟩
  rcases A with _ | ad
  · have hb0 : b = [] := Kd.C_none h4
    have hvv : NT.wS (NT.rloop (b.drop 0) 0 0) = v := by rw [← hv, hb0]; rfl
    obtain ⟨R, hR⟩ : ∃ R, NT.rloop (b.drop 0) 0 0 = R := ⟨_, rfl⟩
    rw [hR] at hvv
    have HR0 := Aside0.mk hR
    have HV0 : Aside0 (∀ a, a = R → NT.wS a = v) := ⟨fun a e => by rw [e]; exact hvv⟩
    have HE0 : Aside0 (b.length = 0) := ⟨by rw [hb0]; rfl⟩
    have HI0 : Aside0 (0 ≤ b.length) := ⟨Nat.zero_le _⟩
    have hvl : decide ((b.length : Int) > 0) = false := by rw [hb0]; rfl
    have hvl2 : decide ((0 : Int) < (b.length : Int)) = false := by rw [hb0]; rfl
    have hvl3 : decide (0 < b.length) = false := by rw [hb0]; rfl
    have hlt0 : g < W.heap.size := (Array.getElem?_eq_some_iff.1 h1).1
    have z : W.cell? ⟨g, 0, none⟩ = some (.slice none b.length c) := (blk_cell h1 0).trans rfl
    have HLT := Aside0.mk hlt0
    have H1 := Aside0.mk h1
    have H2 := Aside0.mk h2
    have H3 := Aside0.mk h3
    have H4 := Aside0.mk h4
    have H5 := Aside0.mk h5
    have H7 := Aside0.mk h7
    clear hvv hR h1 h2 h3 h4 h5 h6 h7 hv htk hnm hm hlt0 hb0
    go_enter Tryd.func32, Tryd.ntmps32
    go_wp2
    go_loopw [4, 6] (fun u4 u6 wr => ∃ (j : Nat) (a : Int), u4 = .int .i64 (j : Int) ∧ u6 = .int .u64 a ∧ W = wr ∧ Aside0 (j ≤ b.length) ∧ Aside0 (NT.rloop (b.drop j) j a = R) ∧ Aside0 (0 ≤ a ∧ a < 18446744073709551616)) (fun u4 u6 _ => b.length + 1 - (intOf u4).toNat)
    case atStart => exact ⟨0, 0, rfl, rfl, rfl, HI0, HR0, ⟨by decide, by decide⟩⟩
    case round =>
      obtain ⟨j, a, rfl, rfl, rfl, HJ, HRL, HA⟩ := hrel
      by_cases hlt : j < b.length
      · exact absurd hlt (by rw [HE0.out]; exact Nat.not_lt_zero _)
      · have hd : decide ((j : Int) < (b.length : Int)) = false := decide_eq_false (by omega)
        have hd2 : decide (j < b.length) = false := decide_eq_false hlt
        have hra := (rloop_end hlt a).symm.trans HRL.out
        clear hlt HRL HA
        have hv2 : IntKind.i64.wrap a = NT.wS a := i64_wS a
        have hvv : NT.wS a = v := HV0.out a hra
        have HV := Aside0.mk (show NT.Rng v from hvv ▸ NT.wS_rng _)
        rw [hvv] at hv2
        clear hra
        by_cases hm : m ≤ b.length
        · have ht := run_take none c b.length m (Nat.le_trans hm H3.out)
          have HC1 := Aside0.mk (take_C H4.out hm)
          have hd1 : decide ((m : Int) > (b.length : Int)) = false := decide_eq_false (by omega)
          have hd1' : decide ((b.length : Int) < (m : Int)) = false := decide_eq_false (by omega)
          have hd1'' : decide (b.length < m) = false := decide_eq_false (by omega)
          have HM := Aside0.mk hm
          have hdr := run_drop none c b.length m hm
          go_upto_region 12 with (go_at_call 30; refine (refnum_c v HV.out W).mono ?_; rintro e w2 hN; (obtain ⟨q, c2, he, hq, hlc, hC2, hB⟩ := refnum_row HV.out hN); rw [HMQ.out] at he hlc hC2; subst he; have B2 := Aside0.mk hB; have C2 := Aside0.mk hC2; (have hh := (hB.block g HLT.out).trans H1.out); have z2 : w2.cell? ⟨g, 0, none⟩ = some (.slice none b.length c) := (blk_cell hh 0).trans rfl; have fz := blk_frozen hh 0; have HH := Aside0.mk hh; have Z2 := Aside0.mk z2; have D1 := Aside0.mk (Kd.C_drew (Kd.C_below HC1.out hB)); have D2 := Aside0.mk (Kd.C_drew hC2); clear hN hq hlc hC2 hB hh)
          go_region_held (fun w' => w'.cell? ⟨g, 0, none⟩ = some (.slice none b.length c) ∧ (convert 26 9 (.slice none m c)).run Tryd.prog w' = .ok (.string (strOfNums (b.take m))) w' ∧ (convert 26 9 (.slice (some ⟨q, 0, none⟩) m c2)).run Tryd.prog w' = .ok (.string (strOfNums nm)) w') (exact ⟨Z2.out, conv_str D1.out, conv_str (by rw [← HNM.out]; exact D2.out)⟩) (fail)
          have hcut := NR.cut (W := w2) (g := g) (bad := bad) (pl := False) (T := 63) HH.out H2.out H3.out (Kd.C_below H4.out B2.out) H5.out (fun h => h.elim) (fun ad e hp => ⟨(H7.out ad e hp).1, Nat.lt_of_lt_of_le (H7.out ad e hp).2 B2.out.size⟩) m HM.out
          have HCUT := Aside0.mk hcut
          clear hcut
          have HKB := Aside0.mk (KeptB.of_below (B2.out.trans ((below_drew1 (Below.refl w2.heap.size w2)).mono B2.out.size)) (fun k => k = g))
          have HWN : Aside0 (NR 63 False w2.drew bad g b) := ⟨HW.out.after (B2.out.trans ((below_drew1 (Below.refl w2.heap.size w2)).mono B2.out.size))⟩
          by_cases hq2 : b.take m = nm
          · rw [hq2]
            have hse1 : ((strOfNums nm).toList == (strOfNums nm).toList) = true := beq_self_eq_true _
            have hse2 : (!((strOfNums nm).toList == (strOfNums nm).toList)) = false := by rw [hse1]; rfl
            go_wp2
            all_goals first | exact bodyPost_ret (v := .tuple #[.int .i64 v, .bool true]) (by simp [results, Tryd.results32, go_sem]) rfl (by show RNPost W bad g b (tk b) _ _; rw [HTK.out, if_pos ⟨HM.out, hq2⟩]; exact ⟨rfl, HCUT.out.1.after (below_drew1 (Below.refl _ _)), ((KeptB.of_below B2.out _).trans HCUT.out.2).drew⟩) | (exfalso; rename_i hx; first | (rw [hse1] at hx; cases hx; done) | (simp at hx; done) | (simp at hx; exact hse3 hx))
          · have hse1 := list_ne (bytes_take H5.out m) (HNM.out ▸ NT.num_bytes v) hq2
            have hse2 : (!((strOfNums (b.take m)).toList == (strOfNums nm).toList)) = true := by rw [hse1]; rfl
            have hse3 : ¬ (strOfNums (b.take m)).toList = (strOfNums nm).toList := beq_eq_false_iff_ne.1 hse1
            go_wp2
            all_goals first | exact bodyPost_ret (v := .tuple #[.int .i64 0, .bool false]) (by simp [results, Tryd.results32, go_sem]) rfl (by show RNPost W bad g b (tk b) _ _; rw [HTK.out, if_neg (fun h => hq2 h.2)]; exact ⟨rfl, HWN.out, HKB.out⟩) | (exfalso; rename_i hx; first | (rw [hse1] at hx; cases hx; done) | (simp at hx; done) | (simp at hx; exact hse3 hx))
        · have hd1 : decide ((m : Int) > (b.length : Int)) = true := decide_eq_true (by omega)
          have hd1' : decide ((b.length : Int) < (m : Int)) = true := decide_eq_true (by omega)
          have hd1'' : decide (b.length < m) = true := decide_eq_true (by omega)
          have HTK2 : Aside0 (tk b = (0, 0, false)) := ⟨by rw [HTK.out, if_neg (fun h => hm h.1)]⟩
          clear hm
          go_upto_region 12 with (go_at_call 30; refine (refnum_c v HV.out W).mono ?_; rintro e w2 hN; (obtain ⟨q, c2, he, hq, hlc, hC2, hB⟩ := refnum_row HV.out hN); rw [HMQ.out] at he hlc hC2; subst he; have B2 := Aside0.mk hB; (have hh := (hB.block g HLT.out).trans H1.out); have z2 : w2.cell? ⟨g, 0, none⟩ = some (.slice none b.length c) := (blk_cell hh 0).trans rfl; clear hN hq hlc hC2 hB hh)
          go_quiet (first | fail)
          go_wp2
          have HB3 := (B2.out.trans ((pw_below_drewN (Below.refl w2.heap.size w2) nq).mono B2.out.size))
          exact bodyPost_ret (v := .tuple #[.int .i64 0, .bool false]) (by simp [results, Tryd.results32, go_sem]) rfl (by show RNPost W bad g b (tk b) _ _; rw [HTK2.out]; exact ⟨rfl, HW.out.after HB3, KeptB.of_below HB3 _⟩)
  have hlt0 : g < W.heap.size := (Array.getElem?_eq_some_iff.1 h1).1
  have z : W.cell? ⟨g, 0, none⟩ = some (.slice (some ad) b.length c) := (blk_cell h1 0).trans rfl
  have HLT := Aside0.mk hlt0
  have H1 := Aside0.mk h1
  have H2 := Aside0.mk h2
  have H3 := Aside0.mk h3
  have H4 := Aside0.mk h4
  have H5 := Aside0.mk h5
  have H7 := Aside0.mk h7
  by_cases hneg : b.head? = some 45
  · have hvv : NT.wS (-(NT.wS (NT.rloop (b.drop 1) 1 0))) = v := by rw [← hv, NT.rval, if_pos hneg]
    have hpos : 0 < b.length := by
      cases b with
      | nil => cases hneg
      | cons x r => exact Nat.succ_pos _
    have hg45 : b.getD 0 0 = 45 := by
      cases b with
      | nil => cases hneg
      | cons x r =>
        rw [List.head?_cons] at hneg
        injection hneg with e
    obtain ⟨R, hR⟩ : ∃ R, NT.rloop (b.drop 1) 1 0 = R := ⟨_, rfl⟩
    rw [hR] at hvv
    have HR0 := Aside0.mk hR
    have HV0 : Aside0 (∀ a, a = R → NT.wS (-(NT.wS a)) = v) := ⟨fun a e => by rw [e]; exact hvv⟩
    have x0 : W.cell? (ad.add 0) = some (.int .u8 45) := hg45 ▸ at_byte' h4 0 hpos
    have ea : ad.add 0 = ad := by simp [Addr.add]
    have x1 : W.cell? ad = some (.int .u8 45) := by rw [ea] at x0; exact x0
    have g0 : decide ((b.length : Int) > 0) = true := decide_eq_true (by omega)
    have g0' : decide ((0 : Int) < (b.length : Int)) = true := decide_eq_true (by omega)
    have g0'' : (0 : Int) < (b.length : Int) := by omega
    have g1 : decide (0 < b.length) = true := decide_eq_true hpos
    have HI0 : Aside0 (1 ≤ b.length) := ⟨hpos⟩
    clear hneg hvv hR h1 h2 h3 h4 h5 h6 h7 hv htk hnm hm hlt0 ea hpos hg45
    go_enter Tryd.func32, Tryd.ntmps32
    go_wp2
    go_loopw [4, 6] (fun u4 u6 wr => ∃ (j : Nat) (a : Int), u4 = .int .i64 (j : Int) ∧ u6 = .int .u64 a ∧ W = wr ∧ Aside0 (j ≤ b.length) ∧ Aside0 (NT.rloop (b.drop j) j a = R) ∧ Aside0 (0 ≤ a ∧ a < 18446744073709551616)) (fun u4 u6 _ => b.length + 1 - (intOf u4).toNat)
    case atStart => exact ⟨1, 0, rfl, rfl, rfl, HI0, HR0, ⟨by decide, by decide⟩⟩
    case round =>
      obtain ⟨j, a, rfl, rfl, rfl, HJ, HRL, HA⟩ := hrel
      by_cases hlt : j < b.length
      · have hd : decide ((j : Int) < (b.length : Int)) = true := decide_eq_true (by omega)
        have hd2 : decide (j < b.length) = true := decide_eq_true hlt
        have x0 := at_byte' H4.out j hlt
        have hrl := rloop_drop hlt a
        rw [HRL.out] at hrl
        have hbr := getD_bytes H5.out hlt
        obtain ⟨ch, hch⟩ : ∃ ch, b.getD j 0 = ch := ⟨_, rfl⟩
        rw [hch] at x0 hrl hbr
        have HLTJ := Aside0.mk hlt
        have hp1 : (j : Int) < (b.length : Int) := by omega
        have hp0 : (0 : Int) ≤ (j : Int) := by omega
        clear hch
        by_cases c1 : 48 ≤ ch
        · have e1 : decide (ch ≥ 48) = true := decide_eq_true c1
          have e1' : decide (48 ≤ ch) = true := decide_eq_true c1
          by_cases c2 : ch ≤ 57
          · have e2 : decide (ch ≤ 57) = true := decide_eq_true c2
            by_cases c3 : j < 21
            · have e3 : decide ((j : Int) < 21) = true := decide_eq_true (by omega)
              have e3' : decide (j < 21) = true := decide_eq_true c3
              rw [if_pos ⟨by unfold NT.dig; rw [e1', e2]; rfl, c3⟩] at hrl
              obtain ⟨p, hp⟩ : ∃ p, IntKind.u64.wrap (10 * a) = p := ⟨_, rfl⟩
              obtain ⟨q, hq⟩ : ∃ q, IntKind.u64.wrap (p + (ch - 48)) = q := ⟨_, rfl⟩
              have hqq := step_u64 a ch p q hp hq
              have hs8 : IntKind.u8.wrap (ch - 48) = ch - 48 := by rw [IntKind.wrap_u8]; omega
              have hs64 : IntKind.u64.wrap (ch - 48) = ch - 48 := by rw [IntKind.wrap_u64]; omega
              rw [← hqq] at hrl
              have HQR : Aside0 (0 ≤ q ∧ q < 18446744073709551616) := ⟨hqq ▸ wU_rng _⟩
              have HRL2 := Aside0.mk hrl.symm
              have hjj : (j : Int) + 1 ≤ 9223372036854775807 := by omega
              clear hqq hrl hbr c1 c2 c3 hlt HRL HA hp0
              go_wp2
              all_goals exact ⟨⟨j + 1, q, by go_num, by first | rfl | trivial, by first | rfl | trivial, ⟨by have := HLTJ.out; omega⟩, HRL2, HQR⟩, by clear hp hq hs8 hs64; have := HLTJ.out; simp [intOf]; omega⟩
            · have e3 : decide ((j : Int) < 21) = false := decide_eq_false (by omega)
              have e3' : decide (j < 21) = false := decide_eq_false c3
              rw [if_neg (fun h => c3 h.2)] at hrl
              have hra := hrl.symm
              clear hrl hbr c1 c2 c3 hlt HRL HA hp0
              have hv2 : IntKind.i64.wrap a = NT.wS a := i64_wS a
              have hv3 : wrap64 (-(NT.wS a)) = NT.wS (-(NT.wS a)) := w64_wS _
              have hv4 : IntKind.i64.wrap (-(NT.wS a)) = NT.wS (-(NT.wS a)) := i64_wS _
              have hvv : NT.wS (-(NT.wS a)) = v := HV0.out a hra
              have HV := Aside0.mk (show NT.Rng v from hvv ▸ NT.wS_rng _)
              rw [hvv] at hv3 hv4
              clear hra
              by_cases hm : m ≤ b.length
              · have ht := run_take (some ad) c b.length m (Nat.le_trans hm H3.out)
                have HC1 := Aside0.mk (take_C H4.out hm)
                have hd1 : decide ((m : Int) > (b.length : Int)) = false := decide_eq_false (by omega)
                have hd1' : decide ((b.length : Int) < (m : Int)) = false := decide_eq_false (by omega)
                have hd1'' : decide (b.length < m) = false := decide_eq_false (by omega)
                have HM := Aside0.mk hm
                have hdr := run_drop (some ad) c b.length m hm
                go_upto_region 12 with (go_at_call 30; refine (refnum_c v HV.out W).mono ?_; rintro e w2 hN; (obtain ⟨q, c2, he, hq, hlc, hC2, hB⟩ := refnum_row HV.out hN); rw [HMQ.out] at he hlc hC2; subst he; have B2 := Aside0.mk hB; have C2 := Aside0.mk hC2; (have hh := (hB.block g HLT.out).trans H1.out); have z2 : w2.cell? ⟨g, 0, none⟩ = some (.slice (some ad) b.length c) := (blk_cell hh 0).trans rfl; have fz := blk_frozen hh 0; have HH := Aside0.mk hh; have Z2 := Aside0.mk z2; have D1 := Aside0.mk (Kd.C_drew (Kd.C_below HC1.out hB)); have D2 := Aside0.mk (Kd.C_drew hC2); clear hN hq hlc hC2 hB hh)
                go_region_held (fun w' => w'.cell? ⟨g, 0, none⟩ = some (.slice (some ad) b.length c) ∧ (convert 26 9 (.slice (some ad) m c)).run Tryd.prog w' = .ok (.string (strOfNums (b.take m))) w' ∧ (convert 26 9 (.slice (some ⟨q, 0, none⟩) m c2)).run Tryd.prog w' = .ok (.string (strOfNums nm)) w') (exact ⟨Z2.out, conv_str D1.out, conv_str (by rw [← HNM.out]; exact D2.out)⟩) (fail)
                have hcut := NR.cut (W := w2) (g := g) (bad := bad) (pl := False) (T := 63) HH.out H2.out H3.out (Kd.C_below H4.out B2.out) H5.out (fun h => h.elim) (fun ad e hp => ⟨(H7.out ad e hp).1, Nat.lt_of_lt_of_le (H7.out ad e hp).2 B2.out.size⟩) m HM.out
                have HCUT := Aside0.mk hcut
                clear hcut
                have HKB := Aside0.mk (KeptB.of_below (B2.out.trans ((below_drew1 (Below.refl w2.heap.size w2)).mono B2.out.size)) (fun k => k = g))
                have HWN : Aside0 (NR 63 False w2.drew bad g b) := ⟨HW.out.after (B2.out.trans ((below_drew1 (Below.refl w2.heap.size w2)).mono B2.out.size))⟩
                by_cases hq2 : b.take m = nm
                · rw [hq2]
                  have hse1 : ((strOfNums nm).toList == (strOfNums nm).toList) = true := beq_self_eq_true _
                  have hse2 : (!((strOfNums nm).toList == (strOfNums nm).toList)) = false := by rw [hse1]; rfl
                  go_wp2
                  all_goals first | exact bodyPost_ret (v := .tuple #[.int .i64 v, .bool true]) (by simp [results, Tryd.results32, go_sem]) rfl (by show RNPost W bad g b (tk b) _ _; rw [HTK.out, if_pos ⟨HM.out, hq2⟩]; exact ⟨rfl, HCUT.out.1.after (below_drew1 (Below.refl _ _)), ((KeptB.of_below B2.out _).trans HCUT.out.2).drew⟩) | (exfalso; rename_i hx; first | (rw [hse1] at hx; cases hx; done) | (simp at hx; done) | (simp at hx; exact hse3 hx))
                · have hse1 := list_ne (bytes_take H5.out m) (HNM.out ▸ NT.num_bytes v) hq2
                  have hse2 : (!((strOfNums (b.take m)).toList == (strOfNums nm).toList)) = true := by rw [hse1]; rfl
                  have hse3 : ¬ (strOfNums (b.take m)).toList = (strOfNums nm).toList := beq_eq_false_iff_ne.1 hse1
                  go_wp2
                  all_goals first | exact bodyPost_ret (v := .tuple #[.int .i64 0, .bool false]) (by simp [results, Tryd.results32, go_sem]) rfl (by show RNPost W bad g b (tk b) _ _; rw [HTK.out, if_neg (fun h => hq2 h.2)]; exact ⟨rfl, HWN.out, HKB.out⟩) | (exfalso; rename_i hx; first | (rw [hse1] at hx; cases hx; done) | (simp at hx; done) | (simp at hx; exact hse3 hx))
              · have hd1 : decide ((m : Int) > (b.length : Int)) = true := decide_eq_true (by omega)
                have hd1' : decide ((b.length : Int) < (m : Int)) = true := decide_eq_true (by omega)
                have hd1'' : decide (b.length < m) = true := decide_eq_true (by omega)
                have HTK2 : Aside0 (tk b = (0, 0, false)) := ⟨by rw [HTK.out, if_neg (fun h => hm h.1)]⟩
                clear hm
                go_upto_region 12 with (go_at_call 30; refine (refnum_c v HV.out W).mono ?_; rintro e w2 hN; (obtain ⟨q, c2, he, hq, hlc, hC2, hB⟩ := refnum_row HV.out hN); rw [HMQ.out] at he hlc hC2; subst he; have B2 := Aside0.mk hB; (have hh := (hB.block g HLT.out).trans H1.out); have z2 : w2.cell? ⟨g, 0, none⟩ = some (.slice (some ad) b.length c) := (blk_cell hh 0).trans rfl; clear hN hq hlc hC2 hB hh)
                go_quiet (first | fail)
                go_wp2
                have HB3 := (B2.out.trans ((pw_below_drewN (Below.refl w2.heap.size w2) nq).mono B2.out.size))
                exact bodyPost_ret (v := .tuple #[.int .i64 0, .bool false]) (by simp [results, Tryd.results32, go_sem]) rfl (by show RNPost W bad g b (tk b) _ _; rw [HTK2.out]; exact ⟨rfl, HW.out.after HB3, KeptB.of_below HB3 _⟩)
          · have e2 : decide (ch ≤ 57) = false := decide_eq_false c2
            rw [if_neg (fun h => by have := h.1; unfold NT.dig at this; rw [e1', e2] at this; cases this)] at hrl
            have hra := hrl.symm
            clear hrl hbr c1 c2 hlt HRL HA hp0
            have hv2 : IntKind.i64.wrap a = NT.wS a := i64_wS a
            have hv3 : wrap64 (-(NT.wS a)) = NT.wS (-(NT.wS a)) := w64_wS _
            have hv4 : IntKind.i64.wrap (-(NT.wS a)) = NT.wS (-(NT.wS a)) := i64_wS _
            have hvv : NT.wS (-(NT.wS a)) = v := HV0.out a hra
            have HV := Aside0.mk (show NT.Rng v from hvv ▸ NT.wS_rng _)
            rw [hvv] at hv3 hv4
            clear hra
            by_cases hm : m ≤ b.length
            · have ht := run_take (some ad) c b.length m (Nat.le_trans hm H3.out)
              have HC1 := Aside0.mk (take_C H4.out hm)
              have hd1 : decide ((m : Int) > (b.length : Int)) = false := decide_eq_false (by omega)
              have hd1' : decide ((b.length : Int) < (m : Int)) = false := decide_eq_false (by omega)
              have hd1'' : decide (b.length < m) = false := decide_eq_false (by omega)
              have HM := Aside0.mk hm
              have hdr := run_drop (some ad) c b.length m hm
              go_upto_region 12 with (go_at_call 30; refine (refnum_c v HV.out W).mono ?_; rintro e w2 hN; (obtain ⟨q, c2, he, hq, hlc, hC2, hB⟩ := refnum_row HV.out hN); rw [HMQ.out] at he hlc hC2; subst he; have B2 := Aside0.mk hB; have C2 := Aside0.mk hC2; (have hh := (hB.block g HLT.out).trans H1.out); have z2 : w2.cell? ⟨g, 0, none⟩ = some (.slice (some ad) b.length c) := (blk_cell hh 0).trans rfl; have fz := blk_frozen hh 0; have HH := Aside0.mk hh; have Z2 := Aside0.mk z2; have D1 := Aside0.mk (Kd.C_drew (Kd.C_below HC1.out hB)); have D2 := Aside0.mk (Kd.C_drew hC2); clear hN hq hlc hC2 hB hh)
              go_region_held (fun w' => w'.cell? ⟨g, 0, none⟩ = some (.slice (some ad) b.length c) ∧ (convert 26 9 (.slice (some ad) m c)).run Tryd.prog w' = .ok (.string (strOfNums (b.take m))) w' ∧ (convert 26 9 (.slice (some ⟨q, 0, none⟩) m c2)).run Tryd.prog w' = .ok (.string (strOfNums nm)) w') (exact ⟨Z2.out, conv_str D1.out, conv_str (by rw [← HNM.out]; exact D2.out)⟩) (fail)
              have hcut := NR.cut (W := w2) (g := g) (bad := bad) (pl := False) (T := 63) HH.out H2.out H3.out (Kd.C_below H4.out B2.out) H5.out (fun h => h.elim) (fun ad e hp => ⟨(H7.out ad e hp).1, Nat.lt_of_lt_of_le (H7.out ad e hp).2 B2.out.size⟩) m HM.out
              have HCUT := Aside0.mk hcut
              clear hcut
              have HKB := Aside0.mk (KeptB.of_below (B2.out.trans ((below_drew1 (Below.refl w2.heap.size w2)).mono B2.out.size)) (fun k => k = g))
              have HWN : Aside0 (NR 63 False w2.drew bad g b) := ⟨HW.out.after (B2.out.trans ((below_drew1 (Below.refl w2.heap.size w2)).mono B2.out.size))⟩
              by_cases hq2 : b.take m = nm
              · rw [hq2]
                have hse1 : ((strOfNums nm).toList == (strOfNums nm).toList) = true := beq_self_eq_true _
                have hse2 : (!((strOfNums nm).toList == (strOfNums nm).toList)) = false := by rw [hse1]; rfl
                go_wp2
                all_goals first | exact bodyPost_ret (v := .tuple #[.int .i64 v, .bool true]) (by simp [results, Tryd.results32, go_sem]) rfl (by show RNPost W bad g b (tk b) _ _; rw [HTK.out, if_pos ⟨HM.out, hq2⟩]; exact ⟨rfl, HCUT.out.1.after (below_drew1 (Below.refl _ _)), ((KeptB.of_below B2.out _).trans HCUT.out.2).drew⟩) | (exfalso; rename_i hx; first | (rw [hse1] at hx; cases hx; done) | (simp at hx; done) | (simp at hx; exact hse3 hx))
              · have hse1 := list_ne (bytes_take H5.out m) (HNM.out ▸ NT.num_bytes v) hq2
                have hse2 : (!((strOfNums (b.take m)).toList == (strOfNums nm).toList)) = true := by rw [hse1]; rfl
                have hse3 : ¬ (strOfNums (b.take m)).toList = (strOfNums nm).toList := beq_eq_false_iff_ne.1 hse1
                go_wp2
                all_goals first | exact bodyPost_ret (v := .tuple #[.int .i64 0, .bool false]) (by simp [results, Tryd.results32, go_sem]) rfl (by show RNPost W bad g b (tk b) _ _; rw [HTK.out, if_neg (fun h => hq2 h.2)]; exact ⟨rfl, HWN.out, HKB.out⟩) | (exfalso; rename_i hx; first | (rw [hse1] at hx; cases hx; done) | (simp at hx; done) | (simp at hx; exact hse3 hx))
            · have hd1 : decide ((m : Int) > (b.length : Int)) = true := decide_eq_true (by omega)
              have hd1' : decide ((b.length : Int) < (m : Int)) = true := decide_eq_true (by omega)
              have hd1'' : decide (b.length < m) = true := decide_eq_true (by omega)
              have HTK2 : Aside0 (tk b = (0, 0, false)) := ⟨by rw [HTK.out, if_neg (fun h => hm h.1)]⟩
              clear hm
              go_upto_region 12 with (go_at_call 30; refine (refnum_c v HV.out W).mono ?_; rintro e w2 hN; (obtain ⟨q, c2, he, hq, hlc, hC2, hB⟩ := refnum_row HV.out hN); rw [HMQ.out] at he hlc hC2; subst he; have B2 := Aside0.mk hB; (have hh := (hB.block g HLT.out).trans H1.out); have z2 : w2.cell? ⟨g, 0, none⟩ = some (.slice (some ad) b.length c) := (blk_cell hh 0).trans rfl; clear hN hq hlc hC2 hB hh)
              go_quiet (first | fail)
              go_wp2
              have HB3 := (B2.out.trans ((pw_below_drewN (Below.refl w2.heap.size w2) nq).mono B2.out.size))
              exact bodyPost_ret (v := .tuple #[.int .i64 0, .bool false]) (by simp [results, Tryd.results32, go_sem]) rfl (by show RNPost W bad g b (tk b) _ _; rw [HTK2.out]; exact ⟨rfl, HW.out.after HB3, KeptB.of_below HB3 _⟩)
        · have e1 : decide (ch ≥ 48) = false := decide_eq_false c1
          have e1' : decide (48 ≤ ch) = false := decide_eq_false c1
          rw [if_neg (fun h => by have := h.1; unfold NT.dig at this; rw [e1'] at this; cases this)] at hrl
          have hra := hrl.symm
          clear hrl hbr c1 hlt HRL HA hp0
          have hv2 : IntKind.i64.wrap a = NT.wS a := i64_wS a
          have hv3 : wrap64 (-(NT.wS a)) = NT.wS (-(NT.wS a)) := w64_wS _
          have hv4 : IntKind.i64.wrap (-(NT.wS a)) = NT.wS (-(NT.wS a)) := i64_wS _
          have hvv : NT.wS (-(NT.wS a)) = v := HV0.out a hra
          have HV := Aside0.mk (show NT.Rng v from hvv ▸ NT.wS_rng _)
          rw [hvv] at hv3 hv4
          clear hra
          by_cases hm : m ≤ b.length
          · have ht := run_take (some ad) c b.length m (Nat.le_trans hm H3.out)
            have HC1 := Aside0.mk (take_C H4.out hm)
            have hd1 : decide ((m : Int) > (b.length : Int)) = false := decide_eq_false (by omega)
            have hd1' : decide ((b.length : Int) < (m : Int)) = false := decide_eq_false (by omega)
            have hd1'' : decide (b.length < m) = false := decide_eq_false (by omega)
            have HM := Aside0.mk hm
            have hdr := run_drop (some ad) c b.length m hm
            go_upto_region 12 with (go_at_call 30; refine (refnum_c v HV.out W).mono ?_; rintro e w2 hN; (obtain ⟨q, c2, he, hq, hlc, hC2, hB⟩ := refnum_row HV.out hN); rw [HMQ.out] at he hlc hC2; subst he; have B2 := Aside0.mk hB; have C2 := Aside0.mk hC2; (have hh := (hB.block g HLT.out).trans H1.out); have z2 : w2.cell? ⟨g, 0, none⟩ = some (.slice (some ad) b.length c) := (blk_cell hh 0).trans rfl; have fz := blk_frozen hh 0; have HH := Aside0.mk hh; have Z2 := Aside0.mk z2; have D1 := Aside0.mk (Kd.C_drew (Kd.C_below HC1.out hB)); have D2 := Aside0.mk (Kd.C_drew hC2); clear hN hq hlc hC2 hB hh)
            go_region_held (fun w' => w'.cell? ⟨g, 0, none⟩ = some (.slice (some ad) b.length c) ∧ (convert 26 9 (.slice (some ad) m c)).run Tryd.prog w' = .ok (.string (strOfNums (b.take m))) w' ∧ (convert 26 9 (.slice (some ⟨q, 0, none⟩) m c2)).run Tryd.prog w' = .ok (.string (strOfNums nm)) w') (exact ⟨Z2.out, conv_str D1.out, conv_str (by rw [← HNM.out]; exact D2.out)⟩) (fail)
            have hcut := NR.cut (W := w2) (g := g) (bad := bad) (pl := False) (T := 63) HH.out H2.out H3.out (Kd.C_below H4.out B2.out) H5.out (fun h => h.elim) (fun ad e hp => ⟨(H7.out ad e hp).1, Nat.lt_of_lt_of_le (H7.out ad e hp).2 B2.out.size⟩) m HM.out
            have HCUT := Aside0.mk hcut
            clear hcut
            have HKB := Aside0.mk (KeptB.of_below (B2.out.trans ((below_drew1 (Below.refl w2.heap.size w2)).mono B2.out.size)) (fun k => k = g))
            have HWN : Aside0 (NR 63 False w2.drew bad g b) := ⟨HW.out.after (B2.out.trans ((below_drew1 (Below.refl w2.heap.size w2)).mono B2.out.size))⟩
            by_cases hq2 : b.take m = nm
            · rw [hq2]
              have hse1 : ((strOfNums nm).toList == (strOfNums nm).toList) = true := beq_self_eq_true _
              have hse2 : (!((strOfNums nm).toList == (strOfNums nm).toList)) = false := by rw [hse1]; rfl
              go_wp2
              all_goals first | exact bodyPost_ret (v := .tuple #[.int .i64 v, .bool true]) (by simp [results, Tryd.results32, go_sem]) rfl (by show RNPost W bad g b (tk b) _ _; rw [HTK.out, if_pos ⟨HM.out, hq2⟩]; exact ⟨rfl, HCUT.out.1.after (below_drew1 (Below.refl _ _)), ((KeptB.of_below B2.out _).trans HCUT.out.2).drew⟩) | (exfalso; rename_i hx; first | (rw [hse1] at hx; cases hx; done) | (simp at hx; done) | (simp at hx; exact hse3 hx))
            · have hse1 := list_ne (bytes_take H5.out m) (HNM.out ▸ NT.num_bytes v) hq2
              have hse2 : (!((strOfNums (b.take m)).toList == (strOfNums nm).toList)) = true := by rw [hse1]; rfl
              have hse3 : ¬ (strOfNums (b.take m)).toList = (strOfNums nm).toList := beq_eq_false_iff_ne.1 hse1
              go_wp2
              all_goals first | exact bodyPost_ret (v := .tuple #[.int .i64 0, .bool false]) (by simp [results, Tryd.results32, go_sem]) rfl (by show RNPost W bad g b (tk b) _ _; rw [HTK.out, if_neg (fun h => hq2 h.2)]; exact ⟨rfl, HWN.out, HKB.out⟩) | (exfalso; rename_i hx; first | (rw [hse1] at hx; cases hx; done) | (simp at hx; done) | (simp at hx; exact hse3 hx))
          · have hd1 : decide ((m : Int) > (b.length : Int)) = true := decide_eq_true (by omega)
            have hd1' : decide ((b.length : Int) < (m : Int)) = true := decide_eq_true (by omega)
            have hd1'' : decide (b.length < m) = true := decide_eq_true (by omega)
            have HTK2 : Aside0 (tk b = (0, 0, false)) := ⟨by rw [HTK.out, if_neg (fun h => hm h.1)]⟩
            clear hm
            go_upto_region 12 with (go_at_call 30; refine (refnum_c v HV.out W).mono ?_; rintro e w2 hN; (obtain ⟨q, c2, he, hq, hlc, hC2, hB⟩ := refnum_row HV.out hN); rw [HMQ.out] at he hlc hC2; subst he; have B2 := Aside0.mk hB; (have hh := (hB.block g HLT.out).trans H1.out); have z2 : w2.cell? ⟨g, 0, none⟩ = some (.slice (some ad) b.length c) := (blk_cell hh 0).trans rfl; clear hN hq hlc hC2 hB hh)
            go_quiet (first | fail)
            go_wp2
            have HB3 := (B2.out.trans ((pw_below_drewN (Below.refl w2.heap.size w2) nq).mono B2.out.size))
            exact bodyPost_ret (v := .tuple #[.int .i64 0, .bool false]) (by simp [results, Tryd.results32, go_sem]) rfl (by show RNPost W bad g b (tk b) _ _; rw [HTK2.out]; exact ⟨rfl, HW.out.after HB3, KeptB.of_below HB3 _⟩)
      · have hd : decide ((j : Int) < (b.length : Int)) = false := decide_eq_false (by omega)
        have hd2 : decide (j < b.length) = false := decide_eq_false hlt
        have hra := (rloop_end hlt a).symm.trans HRL.out
        clear hlt HRL HA
        have hv2 : IntKind.i64.wrap a = NT.wS a := i64_wS a
        have hv3 : wrap64 (-(NT.wS a)) = NT.wS (-(NT.wS a)) := w64_wS _
        have hv4 : IntKind.i64.wrap (-(NT.wS a)) = NT.wS (-(NT.wS a)) := i64_wS _
        have hvv : NT.wS (-(NT.wS a)) = v := HV0.out a hra
        have HV := Aside0.mk (show NT.Rng v from hvv ▸ NT.wS_rng _)
        rw [hvv] at hv3 hv4
        clear hra
        by_cases hm : m ≤ b.length
        · have ht := run_take (some ad) c b.length m (Nat.le_trans hm H3.out)
          have HC1 := Aside0.mk (take_C H4.out hm)
          have hd1 : decide ((m : Int) > (b.length : Int)) = false := decide_eq_false (by omega)
          have hd1' : decide ((b.length : Int) < (m : Int)) = false := decide_eq_false (by omega)
          have hd1'' : decide (b.length < m) = false := decide_eq_false (by omega)
          have HM := Aside0.mk hm
          have hdr := run_drop (some ad) c b.length m hm
          go_upto_region 12 with (go_at_call 30; refine (refnum_c v HV.out W).mono ?_; rintro e w2 hN; (obtain ⟨q, c2, he, hq, hlc, hC2, hB⟩ := refnum_row HV.out hN); rw [HMQ.out] at he hlc hC2; subst he; have B2 := Aside0.mk hB; have C2 := Aside0.mk hC2; (have hh := (hB.block g HLT.out).trans H1.out); have z2 : w2.cell? ⟨g, 0, none⟩ = some (.slice (some ad) b.length c) := (blk_cell hh 0).trans rfl; have fz := blk_frozen hh 0; have HH := Aside0.mk hh; have Z2 := Aside0.mk z2; have D1 := Aside0.mk (Kd.C_drew (Kd.C_below HC1.out hB)); have D2 := Aside0.mk (Kd.C_drew hC2); clear hN hq hlc hC2 hB hh)
          go_region_held (fun w' => w'.cell? ⟨g, 0, none⟩ = some (.slice (some ad) b.length c) ∧ (convert 26 9 (.slice (some ad) m c)).run Tryd.prog w' = .ok (.string (strOfNums (b.take m))) w' ∧ (convert 26 9 (.slice (some ⟨q, 0, none⟩) m c2)).run Tryd.prog w' = .ok (.string (strOfNums nm)) w') (exact ⟨Z2.out, conv_str D1.out, conv_str (by rw [← HNM.out]; exact D2.out)⟩) (fail)
          have hcut := NR.cut (W := w2) (g := g) (bad := bad) (pl := False) (T := 63) HH.out H2.out H3.out (Kd.C_below H4.out B2.out) H5.out (fun h => h.elim) (fun ad e hp => ⟨(H7.out ad e hp).1, Nat.lt_of_lt_of_le (H7.out ad e hp).2 B2.out.size⟩) m HM.out
          have HCUT := Aside0.mk hcut
          clear hcut
          have HKB := Aside0.mk (KeptB.of_below (B2.out.trans ((below_drew1 (Below.refl w2.heap.size w2)).mono B2.out.size)) (fun k => k = g))
          have HWN : Aside0 (NR 63 False w2.drew bad g b) := ⟨HW.out.after (B2.out.trans ((below_drew1 (Below.refl w2.heap.size w2)).mono B2.out.size))⟩
          by_cases hq2 : b.take m = nm
          · rw [hq2]
            have hse1 : ((strOfNums nm).toList == (strOfNums nm).toList) = true := beq_self_eq_true _
            have hse2 : (!((strOfNums nm).toList == (strOfNums nm).toList)) = false := by rw [hse1]; rfl
            go_wp2
            all_goals first | exact bodyPost_ret (v := .tuple #[.int .i64 v, .bool true]) (by simp [results, Tryd.results32, go_sem]) rfl (by show RNPost W bad g b (tk b) _ _; rw [HTK.out, if_pos ⟨HM.out, hq2⟩]; exact ⟨rfl, HCUT.out.1.after (below_drew1 (Below.refl _ _)), ((KeptB.of_below B2.out _).trans HCUT.out.2).drew⟩) | (exfalso; rename_i hx; first | (rw [hse1] at hx; cases hx; done) | (simp at hx; done) | (simp at hx; exact hse3 hx))
          · have hse1 := list_ne (bytes_take H5.out m) (HNM.out ▸ NT.num_bytes v) hq2
            have hse2 : (!((strOfNums (b.take m)).toList == (strOfNums nm).toList)) = true := by rw [hse1]; rfl
            have hse3 : ¬ (strOfNums (b.take m)).toList = (strOfNums nm).toList := beq_eq_false_iff_ne.1 hse1
            go_wp2
            all_goals first | exact bodyPost_ret (v := .tuple #[.int .i64 0, .bool false]) (by simp [results, Tryd.results32, go_sem]) rfl (by show RNPost W bad g b (tk b) _ _; rw [HTK.out, if_neg (fun h => hq2 h.2)]; exact ⟨rfl, HWN.out, HKB.out⟩) | (exfalso; rename_i hx; first | (rw [hse1] at hx; cases hx; done) | (simp at hx; done) | (simp at hx; exact hse3 hx))
        · have hd1 : decide ((m : Int) > (b.length : Int)) = true := decide_eq_true (by omega)
          have hd1' : decide ((b.length : Int) < (m : Int)) = true := decide_eq_true (by omega)
          have hd1'' : decide (b.length < m) = true := decide_eq_true (by omega)
          have HTK2 : Aside0 (tk b = (0, 0, false)) := ⟨by rw [HTK.out, if_neg (fun h => hm h.1)]⟩
          clear hm
          go_upto_region 12 with (go_at_call 30; refine (refnum_c v HV.out W).mono ?_; rintro e w2 hN; (obtain ⟨q, c2, he, hq, hlc, hC2, hB⟩ := refnum_row HV.out hN); rw [HMQ.out] at he hlc hC2; subst he; have B2 := Aside0.mk hB; (have hh := (hB.block g HLT.out).trans H1.out); have z2 : w2.cell? ⟨g, 0, none⟩ = some (.slice (some ad) b.length c) := (blk_cell hh 0).trans rfl; clear hN hq hlc hC2 hB hh)
          go_quiet (first | fail)
          go_wp2
          have HB3 := (B2.out.trans ((pw_below_drewN (Below.refl w2.heap.size w2) nq).mono B2.out.size))
          exact bodyPost_ret (v := .tuple #[.int .i64 0, .bool false]) (by simp [results, Tryd.results32, go_sem]) rfl (by show RNPost W bad g b (tk b) _ _; rw [HTK2.out]; exact ⟨rfl, HW.out.after HB3, KeptB.of_below HB3 _⟩)
  · have hvv : NT.wS (NT.rloop (b.drop 0) 0 0) = v := by rw [← hv, NT.rval, if_neg hneg, List.drop_zero]
    obtain ⟨R, hR⟩ : ∃ R, NT.rloop (b.drop 0) 0 0 = R := ⟨_, rfl⟩
    rw [hR] at hvv
    have HR0 := Aside0.mk hR
    have HV0 : Aside0 (∀ a, a = R → NT.wS a = v) := ⟨fun a e => by rw [e]; exact hvv⟩
    have HI0 : Aside0 (0 ≤ b.length) := ⟨Nat.zero_le _⟩
    by_cases hne : 0 < b.length
    · have x0 := at_byte' h4 0 hne
      have hch : b.getD 0 0 ≠ 45 := fun e => hneg (by
        cases b with
        | nil => cases hne
        | cons x r => rw [List.head?_cons]; exact congrArg some e)
      obtain ⟨ch0, hc0⟩ : ∃ ch, b.getD 0 0 = ch := ⟨_, rfl⟩
      rw [hc0] at x0 hch
      have ea : ad.add 0 = ad := by simp [Addr.add]
      have x1 : W.cell? ad = some (.int .u8 ch0) := by rw [ea] at x0; exact x0
      have g0 : decide ((b.length : Int) > 0) = true := decide_eq_true (by omega)
      have g0' : decide ((0 : Int) < (b.length : Int)) = true := decide_eq_true (by omega)
      have g0'' : (0 : Int) < (b.length : Int) := by omega
      have g1 : decide (0 < b.length) = true := decide_eq_true hne
      have g2 : (ch0 == 45) = false := beq_eq_false_iff_ne.2 hch
      clear hneg hvv hR h1 h2 h3 h4 h5 h6 h7 hv htk hnm hm hlt0 ea hc0 hne hch
      go_enter Tryd.func32, Tryd.ntmps32
      go_wp2
      go_loopw [4, 6] (fun u4 u6 wr => ∃ (j : Nat) (a : Int), u4 = .int .i64 (j : Int) ∧ u6 = .int .u64 a ∧ W = wr ∧ Aside0 (j ≤ b.length) ∧ Aside0 (NT.rloop (b.drop j) j a = R) ∧ Aside0 (0 ≤ a ∧ a < 18446744073709551616)) (fun u4 u6 _ => b.length + 1 - (intOf u4).toNat)
      case atStart => exact ⟨0, 0, rfl, rfl, rfl, HI0, HR0, ⟨by decide, by decide⟩⟩
      case round =>
        obtain ⟨j, a, rfl, rfl, rfl, HJ, HRL, HA⟩ := hrel
        by_cases hlt : j < b.length
        · have hd : decide ((j : Int) < (b.length : Int)) = true := decide_eq_true (by omega)
          have hd2 : decide (j < b.length) = true := decide_eq_true hlt
          have x0 := at_byte' H4.out j hlt
          have hrl := rloop_drop hlt a
          rw [HRL.out] at hrl
          have hbr := getD_bytes H5.out hlt
          obtain ⟨ch, hch⟩ : ∃ ch, b.getD j 0 = ch := ⟨_, rfl⟩
          rw [hch] at x0 hrl hbr
          have HLTJ := Aside0.mk hlt
          have hp1 : (j : Int) < (b.length : Int) := by omega
          have hp0 : (0 : Int) ≤ (j : Int) := by omega
          clear hch
          by_cases c1 : 48 ≤ ch
          · have e1 : decide (ch ≥ 48) = true := decide_eq_true c1
            have e1' : decide (48 ≤ ch) = true := decide_eq_true c1
            by_cases c2 : ch ≤ 57
            · have e2 : decide (ch ≤ 57) = true := decide_eq_true c2
              by_cases c3 : j < 21
              · have e3 : decide ((j : Int) < 21) = true := decide_eq_true (by omega)
                have e3' : decide (j < 21) = true := decide_eq_true c3
                rw [if_pos ⟨by unfold NT.dig; rw [e1', e2]; rfl, c3⟩] at hrl
                obtain ⟨p, hp⟩ : ∃ p, IntKind.u64.wrap (10 * a) = p := ⟨_, rfl⟩
                obtain ⟨q, hq⟩ : ∃ q, IntKind.u64.wrap (p + (ch - 48)) = q := ⟨_, rfl⟩
                have hqq := step_u64 a ch p q hp hq
                have hs8 : IntKind.u8.wrap (ch - 48) = ch - 48 := by rw [IntKind.wrap_u8]; omega
                have hs64 : IntKind.u64.wrap (ch - 48) = ch - 48 := by rw [IntKind.wrap_u64]; omega
                rw [← hqq] at hrl
                have HQR : Aside0 (0 ≤ q ∧ q < 18446744073709551616) := ⟨hqq ▸ wU_rng _⟩
                have HRL2 := Aside0.mk hrl.symm
                have hjj : (j : Int) + 1 ≤ 9223372036854775807 := by omega
                clear hqq hrl hbr c1 c2 c3 hlt HRL HA hp0
                go_wp2
                all_goals exact ⟨⟨j + 1, q, by go_num, by first | rfl | trivial, by first | rfl | trivial, ⟨by have := HLTJ.out; omega⟩, HRL2, HQR⟩, by clear hp hq hs8 hs64; have := HLTJ.out; simp [intOf]; omega⟩
              · have e3 : decide ((j : Int) < 21) = false := decide_eq_false (by omega)
                have e3' : decide (j < 21) = false := decide_eq_false c3
                rw [if_neg (fun h => c3 h.2)] at hrl
                have hra := hrl.symm
                clear hrl hbr c1 c2 c3 hlt HRL HA hp0
                have hv2 : IntKind.i64.wrap a = NT.wS a := i64_wS a
                have hvv : NT.wS a = v := HV0.out a hra
                have HV := Aside0.mk (show NT.Rng v from hvv ▸ NT.wS_rng _)
                rw [hvv] at hv2
                clear hra
                by_cases hm : m ≤ b.length
                · have ht := run_take (some ad) c b.length m (Nat.le_trans hm H3.out)
                  have HC1 := Aside0.mk (take_C H4.out hm)
                  have hd1 : decide ((m : Int) > (b.length : Int)) = false := decide_eq_false (by omega)
                  have hd1' : decide ((b.length : Int) < (m : Int)) = false := decide_eq_false (by omega)
                  have hd1'' : decide (b.length < m) = false := decide_eq_false (by omega)
                  have HM := Aside0.mk hm
                  have hdr := run_drop (some ad) c b.length m hm
                  go_upto_region 12 with (go_at_call 30; refine (refnum_c v HV.out W).mono ?_; rintro e w2 hN; (obtain ⟨q, c2, he, hq, hlc, hC2, hB⟩ := refnum_row HV.out hN); rw [HMQ.out] at he hlc hC2; subst he; have B2 := Aside0.mk hB; have C2 := Aside0.mk hC2; (have hh := (hB.block g HLT.out).trans H1.out); have z2 : w2.cell? ⟨g, 0, none⟩ = some (.slice (some ad) b.length c) := (blk_cell hh 0).trans rfl; have fz := blk_frozen hh 0; have HH := Aside0.mk hh; have Z2 := Aside0.mk z2; have D1 := Aside0.mk (Kd.C_drew (Kd.C_below HC1.out hB)); have D2 := Aside0.mk (Kd.C_drew hC2); clear hN hq hlc hC2 hB hh)
                  go_region_held (fun w' => w'.cell? ⟨g, 0, none⟩ = some (.slice (some ad) b.length c) ∧ (convert 26 9 (.slice (some ad) m c)).run Tryd.prog w' = .ok (.string (strOfNums (b.take m))) w' ∧ (convert 26 9 (.slice (some ⟨q, 0, none⟩) m c2)).run Tryd.prog w' = .ok (.string (strOfNums nm)) w') (exact ⟨Z2.out, conv_str D1.out, conv_str (by rw [← HNM.out]; exact D2.out)⟩) (fail)
                  have hcut := NR.cut (W := w2) (g := g) (bad := bad) (pl := False) (T := 63) HH.out H2.out H3.out (Kd.C_below H4.out B2.out) H5.out (fun h => h.elim) (fun ad e hp => ⟨(H7.out ad e hp).1, Nat.lt_of_lt_of_le (H7.out ad e hp).2 B2.out.size⟩) m HM.out
                  have HCUT := Aside0.mk hcut
                  clear hcut
                  have HKB := Aside0.mk (KeptB.of_below (B2.out.trans ((below_drew1 (Below.refl w2.heap.size w2)).mono B2.out.size)) (fun k => k = g))
                  have HWN : Aside0 (NR 63 False w2.drew bad g b) := ⟨HW.out.after (B2.out.trans ((below_drew1 (Below.refl w2.heap.size w2)).mono B2.out.size))⟩
                  by_cases hq2 : b.take m = nm
                  · rw [hq2]
                    have hse1 : ((strOfNums nm).toList == (strOfNums nm).toList) = true := beq_self_eq_true _
                    have hse2 : (!((strOfNums nm).toList == (strOfNums nm).toList)) = false := by rw [hse1]; rfl
                    go_wp2
                    all_goals first | exact bodyPost_ret (v := .tuple #[.int .i64 v, .bool true]) (by simp [results, Tryd.results32, go_sem]) rfl (by show RNPost W bad g b (tk b) _ _; rw [HTK.out, if_pos ⟨HM.out, hq2⟩]; exact ⟨rfl, HCUT.out.1.after (below_drew1 (Below.refl _ _)), ((KeptB.of_below B2.out _).trans HCUT.out.2).drew⟩) | (exfalso; rename_i hx; first | (rw [hse1] at hx; cases hx; done) | (simp at hx; done) | (simp at hx; exact hse3 hx))
                  · have hse1 := list_ne (bytes_take H5.out m) (HNM.out ▸ NT.num_bytes v) hq2
                    have hse2 : (!((strOfNums (b.take m)).toList == (strOfNums nm).toList)) = true := by rw [hse1]; rfl
                    have hse3 : ¬ (strOfNums (b.take m)).toList = (strOfNums nm).toList := beq_eq_false_iff_ne.1 hse1
                    go_wp2
                    all_goals first | exact bodyPost_ret (v := .tuple #[.int .i64 0, .bool false]) (by simp [results, Tryd.results32, go_sem]) rfl (by show RNPost W bad g b (tk b) _ _; rw [HTK.out, if_neg (fun h => hq2 h.2)]; exact ⟨rfl, HWN.out, HKB.out⟩) | (exfalso; rename_i hx; first | (rw [hse1] at hx; cases hx; done) | (simp at hx; done) | (simp at hx; exact hse3 hx))
                · have hd1 : decide ((m : Int) > (b.length : Int)) = true := decide_eq_true (by omega)
                  have hd1' : decide ((b.length : Int) < (m : Int)) = true := decide_eq_true (by omega)
                  have hd1'' : decide (b.length < m) = true := decide_eq_true (by omega)
                  have HTK2 : Aside0 (tk b = (0, 0, false)) := ⟨by rw [HTK.out, if_neg (fun h => hm h.1)]⟩
                  clear hm
                  go_upto_region 12 with (go_at_call 30; refine (refnum_c v HV.out W).mono ?_; rintro e w2 hN; (obtain ⟨q, c2, he, hq, hlc, hC2, hB⟩ := refnum_row HV.out hN); rw [HMQ.out] at he hlc hC2; subst he; have B2 := Aside0.mk hB; (have hh := (hB.block g HLT.out).trans H1.out); have z2 : w2.cell? ⟨g, 0, none⟩ = some (.slice (some ad) b.length c) := (blk_cell hh 0).trans rfl; clear hN hq hlc hC2 hB hh)
                  go_quiet (first | fail)
                  go_wp2
                  have HB3 := (B2.out.trans ((pw_below_drewN (Below.refl w2.heap.size w2) nq).mono B2.out.size))
                  exact bodyPost_ret (v := .tuple #[.int .i64 0, .bool false]) (by simp [results, Tryd.results32, go_sem]) rfl (by show RNPost W bad g b (tk b) _ _; rw [HTK2.out]; exact ⟨rfl, HW.out.after HB3, KeptB.of_below HB3 _⟩)
            · have e2 : decide (ch ≤ 57) = false := decide_eq_false c2
              rw [if_neg (fun h => by have := h.1; unfold NT.dig at this; rw [e1', e2] at this; cases this)] at hrl
              have hra := hrl.symm
              clear hrl hbr c1 c2 hlt HRL HA hp0
              have hv2 : IntKind.i64.wrap a = NT.wS a := i64_wS a
              have hvv : NT.wS a = v := HV0.out a hra
              have HV := Aside0.mk (show NT.Rng v from hvv ▸ NT.wS_rng _)
              rw [hvv] at hv2
              clear hra
              by_cases hm : m ≤ b.length
              · have ht := run_take (some ad) c b.length m (Nat.le_trans hm H3.out)
                have HC1 := Aside0.mk (take_C H4.out hm)
                have hd1 : decide ((m : Int) > (b.length : Int)) = false := decide_eq_false (by omega)
                have hd1' : decide ((b.length : Int) < (m : Int)) = false := decide_eq_false (by omega)
                have hd1'' : decide (b.length < m) = false := decide_eq_false (by omega)
                have HM := Aside0.mk hm
                have hdr := run_drop (some ad) c b.length m hm
                go_upto_region 12 with (go_at_call 30; refine (refnum_c v HV.out W).mono ?_; rintro e w2 hN; (obtain ⟨q, c2, he, hq, hlc, hC2, hB⟩ := refnum_row HV.out hN); rw [HMQ.out] at he hlc hC2; subst he; have B2 := Aside0.mk hB; have C2 := Aside0.mk hC2; (have hh := (hB.block g HLT.out).trans H1.out); have z2 : w2.cell? ⟨g, 0, none⟩ = some (.slice (some ad) b.length c) := (blk_cell hh 0).trans rfl; have fz := blk_frozen hh 0; have HH := Aside0.mk hh; have Z2 := Aside0.mk z2; have D1 := Aside0.mk (Kd.C_drew (Kd.C_below HC1.out hB)); have D2 := Aside0.mk (Kd.C_drew hC2); clear hN hq hlc hC2 hB hh)
                go_region_held (fun w' => w'.cell? ⟨g, 0, none⟩ = some (.slice (some ad) b.length c) ∧ (convert 26 9 (.slice (some ad) m c)).run Tryd.prog w' = .ok (.string (strOfNums (b.take m))) w' ∧ (convert 26 9 (.slice (some ⟨q, 0, none⟩) m c2)).run Tryd.prog w' = .ok (.string (strOfNums nm)) w') (exact ⟨Z2.out, conv_str D1.out, conv_str (by rw [← HNM.out]; exact D2.out)⟩) (fail)
                have hcut := NR.cut (W := w2) (g := g) (bad := bad) (pl := False) (T := 63) HH.out H2.out H3.out (Kd.C_below H4.out B2.out) H5.out (fun h => h.elim) (fun ad e hp => ⟨(H7.out ad e hp).1, Nat.lt_of_lt_of_le (H7.out ad e hp).2 B2.out.size⟩) m HM.out
                have HCUT := Aside0.mk hcut
                clear hcut
                have HKB := Aside0.mk (KeptB.of_below (B2.out.trans ((below_drew1 (Below.refl w2.heap.size w2)).mono B2.out.size)) (fun k => k = g))
                have HWN : Aside0 (NR 63 False w2.drew bad g b) := ⟨HW.out.after (B2.out.trans ((below_drew1 (Below.refl w2.heap.size w2)).mono B2.out.size))⟩
                by_cases hq2 : b.take m = nm
                · rw [hq2]
                  have hse1 : ((strOfNums nm).toList == (strOfNums nm).toList) = true := beq_self_eq_true _
                  have hse2 : (!((strOfNums nm).toList == (strOfNums nm).toList)) = false := by rw [hse1]; rfl
                  go_wp2
                  all_goals first | exact bodyPost_ret (v := .tuple #[.int .i64 v, .bool true]) (by simp [results, Tryd.results32, go_sem]) rfl (by show RNPost W bad g b (tk b) _ _; rw [HTK.out, if_pos ⟨HM.out, hq2⟩]; exact ⟨rfl, HCUT.out.1.after (below_drew1 (Below.refl _ _)), ((KeptB.of_below B2.out _).trans HCUT.out.2).drew⟩) | (exfalso; rename_i hx; first | (rw [hse1] at hx; cases hx; done) | (simp at hx; done) | (simp at hx; exact hse3 hx))
                · have hse1 := list_ne (bytes_take H5.out m) (HNM.out ▸ NT.num_bytes v) hq2
                  have hse2 : (!((strOfNums (b.take m)).toList == (strOfNums nm).toList)) = true := by rw [hse1]; rfl
                  have hse3 : ¬ (strOfNums (b.take m)).toList = (strOfNums nm).toList := beq_eq_false_iff_ne.1 hse1
                  go_wp2
                  all_goals first | exact bodyPost_ret (v := .tuple #[.int .i64 0, .bool false]) (by simp [results, Tryd.results32, go_sem]) rfl (by show RNPost W bad g b (tk b) _ _; rw [HTK.out, if_neg (fun h => hq2 h.2)]; exact ⟨rfl, HWN.out, HKB.out⟩) | (exfalso; rename_i hx; first | (rw [hse1] at hx; cases hx; done) | (simp at hx; done) | (simp at hx; exact hse3 hx))
              · have hd1 : decide ((m : Int) > (b.length : Int)) = true := decide_eq_true (by omega)
                have hd1' : decide ((b.length : Int) < (m : Int)) = true := decide_eq_true (by omega)
                have hd1'' : decide (b.length < m) = true := decide_eq_true (by omega)
                have HTK2 : Aside0 (tk b = (0, 0, false)) := ⟨by rw [HTK.out, if_neg (fun h => hm h.1)]⟩
                clear hm
                go_upto_region 12 with (go_at_call 30; refine (refnum_c v HV.out W).mono ?_; rintro e w2 hN; (obtain ⟨q, c2, he, hq, hlc, hC2, hB⟩ := refnum_row HV.out hN); rw [HMQ.out] at he hlc hC2; subst he; have B2 := Aside0.mk hB; (have hh := (hB.block g HLT.out).trans H1.out); have z2 : w2.cell? ⟨g, 0, none⟩ = some (.slice (some ad) b.length c) := (blk_cell hh 0).trans rfl; clear hN hq hlc hC2 hB hh)
                go_quiet (first | fail)
                go_wp2
                have HB3 := (B2.out.trans ((pw_below_drewN (Below.refl w2.heap.size w2) nq).mono B2.out.size))
                exact bodyPost_ret (v := .tuple #[.int .i64 0, .bool false]) (by simp [results, Tryd.results32, go_sem]) rfl (by show RNPost W bad g b (tk b) _ _; rw [HTK2.out]; exact ⟨rfl, HW.out.after HB3, KeptB.of_below HB3 _⟩)
          · have e1 : decide (ch ≥ 48) = false := decide_eq_false c1
            have e1' : decide (48 ≤ ch) = false := decide_eq_false c1
            rw [if_neg (fun h => by have := h.1; unfold NT.dig at this; rw [e1'] at this; cases this)] at hrl
            have hra := hrl.symm
            clear hrl hbr c1 hlt HRL HA hp0
            have hv2 : IntKind.i64.wrap a = NT.wS a := i64_wS a
            have hvv : NT.wS a = v := HV0.out a hra
            have HV := Aside0.mk (show NT.Rng v from hvv ▸ NT.wS_rng _)
            rw [hvv] at hv2
            clear hra
            by_cases hm : m ≤ b.length
            · have ht := run_take (some ad) c b.length m (Nat.le_trans hm H3.out)
              have HC1 := Aside0.mk (take_C H4.out hm)
              have hd1 : decide ((m : Int) > (b.length : Int)) = false := decide_eq_false (by omega)
              have hd1' : decide ((b.length : Int) < (m : Int)) = false := decide_eq_false (by omega)
              have hd1'' : decide (b.length < m) = false := decide_eq_false (by omega)
              have HM := Aside0.mk hm
              have hdr := run_drop (some ad) c b.length m hm
              go_upto_region 12 with (go_at_call 30; refine (refnum_c v HV.out W).mono ?_; rintro e w2 hN; (obtain ⟨q, c2, he, hq, hlc, hC2, hB⟩ := refnum_row HV.out hN); rw [HMQ.out] at he hlc hC2; subst he; have B2 := Aside0.mk hB; have C2 := Aside0.mk hC2; (have hh := (hB.block g HLT.out).trans H1.out); have z2 : w2.cell? ⟨g, 0, none⟩ = some (.slice (some ad) b.length c) := (blk_cell hh 0).trans rfl; have fz := blk_frozen hh 0; have HH := Aside0.mk hh; have Z2 := Aside0.mk z2; have D1 := Aside0.mk (Kd.C_drew (Kd.C_below HC1.out hB)); have D2 := Aside0.mk (Kd.C_drew hC2); clear hN hq hlc hC2 hB hh)
              go_region_held (fun w' => w'.cell? ⟨g, 0, none⟩ = some (.slice (some ad) b.length c) ∧ (convert 26 9 (.slice (some ad) m c)).run Tryd.prog w' = .ok (.string (strOfNums (b.take m))) w' ∧ (convert 26 9 (.slice (some ⟨q, 0, none⟩) m c2)).run Tryd.prog w' = .ok (.string (strOfNums nm)) w') (exact ⟨Z2.out, conv_str D1.out, conv_str (by rw [← HNM.out]; exact D2.out)⟩) (fail)
              have hcut := NR.cut (W := w2) (g := g) (bad := bad) (pl := False) (T := 63) HH.out H2.out H3.out (Kd.C_below H4.out B2.out) H5.out (fun h => h.elim) (fun ad e hp => ⟨(H7.out ad e hp).1, Nat.lt_of_lt_of_le (H7.out ad e hp).2 B2.out.size⟩) m HM.out
              have HCUT := Aside0.mk hcut
              clear hcut
              have HKB := Aside0.mk (KeptB.of_below (B2.out.trans ((below_drew1 (Below.refl w2.heap.size w2)).mono B2.out.size)) (fun k => k = g))
              have HWN : Aside0 (NR 63 False w2.drew bad g b) := ⟨HW.out.after (B2.out.trans ((below_drew1 (Below.refl w2.heap.size w2)).mono B2.out.size))⟩
              by_cases hq2 : b.take m = nm
              · rw [hq2]
                have hse1 : ((strOfNums nm).toList == (strOfNums nm).toList) = true := beq_self_eq_true _
                have hse2 : (!((strOfNums nm).toList == (strOfNums nm).toList)) = false := by rw [hse1]; rfl
                go_wp2
                all_goals first | exact bodyPost_ret (v := .tuple #[.int .i64 v, .bool true]) (by simp [results, Tryd.results32, go_sem]) rfl (by show RNPost W bad g b (tk b) _ _; rw [HTK.out, if_pos ⟨HM.out, hq2⟩]; exact ⟨rfl, HCUT.out.1.after (below_drew1 (Below.refl _ _)), ((KeptB.of_below B2.out _).trans HCUT.out.2).drew⟩) | (exfalso; rename_i hx; first | (rw [hse1] at hx; cases hx; done) | (simp at hx; done) | (simp at hx; exact hse3 hx))
              · have hse1 := list_ne (bytes_take H5.out m) (HNM.out ▸ NT.num_bytes v) hq2
                have hse2 : (!((strOfNums (b.take m)).toList == (strOfNums nm).toList)) = true := by rw [hse1]; rfl
                have hse3 : ¬ (strOfNums (b.take m)).toList = (strOfNums nm).toList := beq_eq_false_iff_ne.1 hse1
                go_wp2
                all_goals first | exact bodyPost_ret (v := .tuple #[.int .i64 0, .bool false]) (by simp [results, Tryd.results32, go_sem]) rfl (by show RNPost W bad g b (tk b) _ _; rw [HTK.out, if_neg (fun h => hq2 h.2)]; exact ⟨rfl, HWN.out, HKB.out⟩) | (exfalso; rename_i hx; first | (rw [hse1] at hx; cases hx; done) | (simp at hx; done) | (simp at hx; exact hse3 hx))
            · have hd1 : decide ((m : Int) > (b.length : Int)) = true := decide_eq_true (by omega)
              have hd1' : decide ((b.length : Int) < (m : Int)) = true := decide_eq_true (by omega)
              have hd1'' : decide (b.length < m) = true := decide_eq_true (by omega)
              have HTK2 : Aside0 (tk b = (0, 0, false)) := ⟨by rw [HTK.out, if_neg (fun h => hm h.1)]⟩
              clear hm
              go_upto_region 12 with (go_at_call 30; refine (refnum_c v HV.out W).mono ?_; rintro e w2 hN; (obtain ⟨q, c2, he, hq, hlc, hC2, hB⟩ := refnum_row HV.out hN); rw [HMQ.out] at he hlc hC2; subst he; have B2 := Aside0.mk hB; (have hh := (hB.block g HLT.out).trans H1.out); have z2 : w2.cell? ⟨g, 0, none⟩ = some (.slice (some ad) b.length c) := (blk_cell hh 0).trans rfl; clear hN hq hlc hC2 hB hh)
              go_quiet (first | fail)
              go_wp2
              have HB3 := (B2.out.trans ((pw_below_drewN (Below.refl w2.heap.size w2) nq).mono B2.out.size))
              exact bodyPost_ret (v := .tuple #[.int .i64 0, .bool false]) (by simp [results, Tryd.results32, go_sem]) rfl (by show RNPost W bad g b (tk b) _ _; rw [HTK2.out]; exact ⟨rfl, HW.out.after HB3, KeptB.of_below HB3 _⟩)
        · have hd : decide ((j : Int) < (b.length : Int)) = false := decide_eq_false (by omega)
          have hd2 : decide (j < b.length) = false := decide_eq_false hlt
          have hra := (rloop_end hlt a).symm.trans HRL.out
          clear hlt HRL HA
          have hv2 : IntKind.i64.wrap a = NT.wS a := i64_wS a
          have hvv : NT.wS a = v := HV0.out a hra
          have HV := Aside0.mk (show NT.Rng v from hvv ▸ NT.wS_rng _)
          rw [hvv] at hv2
          clear hra
          by_cases hm : m ≤ b.length
          · have ht := run_take (some ad) c b.length m (Nat.le_trans hm H3.out)
            have HC1 := Aside0.mk (take_C H4.out hm)
            have hd1 : decide ((m : Int) > (b.length : Int)) = false := decide_eq_false (by omega)
            have hd1' : decide ((b.length : Int) < (m : Int)) = false := decide_eq_false (by omega)
            have hd1'' : decide (b.length < m) = false := decide_eq_false (by omega)
            have HM := Aside0.mk hm
            have hdr := run_drop (some ad) c b.length m hm
            go_upto_region 12 with (go_at_call 30; refine (refnum_c v HV.out W).mono ?_; rintro e w2 hN; (obtain ⟨q, c2, he, hq, hlc, hC2, hB⟩ := refnum_row HV.out hN); rw [HMQ.out] at he hlc hC2; subst he; have B2 := Aside0.mk hB; have C2 := Aside0.mk hC2; (have hh := (hB.block g HLT.out).trans H1.out); have z2 : w2.cell? ⟨g, 0, none⟩ = some (.slice (some ad) b.length c) := (blk_cell hh 0).trans rfl; have fz := blk_frozen hh 0; have HH := Aside0.mk hh; have Z2 := Aside0.mk z2; have D1 := Aside0.mk (Kd.C_drew (Kd.C_below HC1.out hB)); have D2 := Aside0.mk (Kd.C_drew hC2); clear hN hq hlc hC2 hB hh)
            go_region_held (fun w' => w'.cell? ⟨g, 0, none⟩ = some (.slice (some ad) b.length c) ∧ (convert 26 9 (.slice (some ad) m c)).run Tryd.prog w' = .ok (.string (strOfNums (b.take m))) w' ∧ (convert 26 9 (.slice (some ⟨q, 0, none⟩) m c2)).run Tryd.prog w' = .ok (.string (strOfNums nm)) w') (exact ⟨Z2.out, conv_str D1.out, conv_str (by rw [← HNM.out]; exact D2.out)⟩) (fail)
            have hcut := NR.cut (W := w2) (g := g) (bad := bad) (pl := False) (T := 63) HH.out H2.out H3.out (Kd.C_below H4.out B2.out) H5.out (fun h => h.elim) (fun ad e hp => ⟨(H7.out ad e hp).1, Nat.lt_of_lt_of_le (H7.out ad e hp).2 B2.out.size⟩) m HM.out
            have HCUT := Aside0.mk hcut
            clear hcut
            have HKB := Aside0.mk (KeptB.of_below (B2.out.trans ((below_drew1 (Below.refl w2.heap.size w2)).mono B2.out.size)) (fun k => k = g))
            have HWN : Aside0 (NR 63 False w2.drew bad g b) := ⟨HW.out.after (B2.out.trans ((below_drew1 (Below.refl w2.heap.size w2)).mono B2.out.size))⟩
            by_cases hq2 : b.take m = nm
            · rw [hq2]
              have hse1 : ((strOfNums nm).toList == (strOfNums nm).toList) = true := beq_self_eq_true _
              have hse2 : (!((strOfNums nm).toList == (strOfNums nm).toList)) = false := by rw [hse1]; rfl
              go_wp2
              all_goals first | exact bodyPost_ret (v := .tuple #[.int .i64 v, .bool true]) (by simp [results, Tryd.results32, go_sem]) rfl (by show RNPost W bad g b (tk b) _ _; rw [HTK.out, if_pos ⟨HM.out, hq2⟩]; exact ⟨rfl, HCUT.out.1.after (below_drew1 (Below.refl _ _)), ((KeptB.of_below B2.out _).trans HCUT.out.2).drew⟩) | (exfalso; rename_i hx; first | (rw [hse1] at hx; cases hx; done) | (simp at hx; done) | (simp at hx; exact hse3 hx))
            · have hse1 := list_ne (bytes_take H5.out m) (HNM.out ▸ NT.num_bytes v) hq2
              have hse2 : (!((strOfNums (b.take m)).toList == (strOfNums nm).toList)) = true := by rw [hse1]; rfl
              have hse3 : ¬ (strOfNums (b.take m)).toList = (strOfNums nm).toList := beq_eq_false_iff_ne.1 hse1
              go_wp2
              all_goals first | exact bodyPost_ret (v := .tuple #[.int .i64 0, .bool false]) (by simp [results, Tryd.results32, go_sem]) rfl (by show RNPost W bad g b (tk b) _ _; rw [HTK.out, if_neg (fun h => hq2 h.2)]; exact ⟨rfl, HWN.out, HKB.out⟩) | (exfalso; rename_i hx; first | (rw [hse1] at hx; cases hx; done) | (simp at hx; done) | (simp at hx; exact hse3 hx))
          · have hd1 : decide ((m : Int) > (b.length : Int)) = true := decide_eq_true (by omega)
            have hd1' : decide ((b.length : Int) < (m : Int)) = true := decide_eq_true (by omega)
            have hd1'' : decide (b.length < m) = true := decide_eq_true (by omega)
            have HTK2 : Aside0 (tk b = (0, 0, false)) := ⟨by rw [HTK.out, if_neg (fun h => hm h.1)]⟩
            clear hm
            go_upto_region 12 with (go_at_call 30; refine (refnum_c v HV.out W).mono ?_; rintro e w2 hN; (obtain ⟨q, c2, he, hq, hlc, hC2, hB⟩ := refnum_row HV.out hN); rw [HMQ.out] at he hlc hC2; subst he; have B2 := Aside0.mk hB; (have hh := (hB.block g HLT.out).trans H1.out); have z2 : w2.cell? ⟨g, 0, none⟩ = some (.slice (some ad) b.length c) := (blk_cell hh 0).trans rfl; clear hN hq hlc hC2 hB hh)
            go_quiet (first | fail)
            go_wp2
            have HB3 := (B2.out.trans ((pw_below_drewN (Below.refl w2.heap.size w2) nq).mono B2.out.size))
            exact bodyPost_ret (v := .tuple #[.int .i64 0, .bool false]) (by simp [results, Tryd.results32, go_sem]) rfl (by show RNPost W bad g b (tk b) _ _; rw [HTK2.out]; exact ⟨rfl, HW.out.after HB3, KeptB.of_below HB3 _⟩)
    · have g0 : decide ((b.length : Int) > 0) = false := decide_eq_false (by omega)
      have g0' : decide ((0 : Int) < (b.length : Int)) = false := decide_eq_false (by omega)
      have g1 : decide (0 < b.length) = false := decide_eq_false hne
      clear hneg hvv hR h1 h2 h3 h4 h5 h6 h7 hv htk hnm hm hlt0 hne
      go_enter Tryd.func32, Tryd.ntmps32
      go_wp2
      go_loopw [4, 6] (fun u4 u6 wr => ∃ (j : Nat) (a : Int), u4 = .int .i64 (j : Int) ∧ u6 = .int .u64 a ∧ W = wr ∧ Aside0 (j ≤ b.length) ∧ Aside0 (NT.rloop (b.drop j) j a = R) ∧ Aside0 (0 ≤ a ∧ a < 18446744073709551616)) (fun u4 u6 _ => b.length + 1 - (intOf u4).toNat)
      case atStart => exact ⟨0, 0, rfl, rfl, rfl, HI0, HR0, ⟨by decide, by decide⟩⟩
      case round =>
        obtain ⟨j, a, rfl, rfl, rfl, HJ, HRL, HA⟩ := hrel
        by_cases hlt : j < b.length
        · have hd : decide ((j : Int) < (b.length : Int)) = true := decide_eq_true (by omega)
          have hd2 : decide (j < b.length) = true := decide_eq_true hlt
          have x0 := at_byte' H4.out j hlt
          have hrl := rloop_drop hlt a
          rw [HRL.out] at hrl
          have hbr := getD_bytes H5.out hlt
          obtain ⟨ch, hch⟩ : ∃ ch, b.getD j 0 = ch := ⟨_, rfl⟩
          rw [hch] at x0 hrl hbr
          have HLTJ := Aside0.mk hlt
          have hp1 : (j : Int) < (b.length : Int) := by omega
          have hp0 : (0 : Int) ≤ (j : Int) := by omega
          clear hch
          by_cases c1 : 48 ≤ ch
          · have e1 : decide (ch ≥ 48) = true := decide_eq_true c1
            have e1' : decide (48 ≤ ch) = true := decide_eq_true c1
            by_cases c2 : ch ≤ 57
            · have e2 : decide (ch ≤ 57) = true := decide_eq_true c2
              by_cases c3 : j < 21
              · have e3 : decide ((j : Int) < 21) = true := decide_eq_true (by omega)
                have e3' : decide (j < 21) = true := decide_eq_true c3
                rw [if_pos ⟨by unfold NT.dig; rw [e1', e2]; rfl, c3⟩] at hrl
                obtain ⟨p, hp⟩ : ∃ p, IntKind.u64.wrap (10 * a) = p := ⟨_, rfl⟩
                obtain ⟨q, hq⟩ : ∃ q, IntKind.u64.wrap (p + (ch - 48)) = q := ⟨_, rfl⟩
                have hqq := step_u64 a ch p q hp hq
                have hs8 : IntKind.u8.wrap (ch - 48) = ch - 48 := by rw [IntKind.wrap_u8]; omega
                have hs64 : IntKind.u64.wrap (ch - 48) = ch - 48 := by rw [IntKind.wrap_u64]; omega
                rw [← hqq] at hrl
                have HQR : Aside0 (0 ≤ q ∧ q < 18446744073709551616) := ⟨hqq ▸ wU_rng _⟩
                have HRL2 := Aside0.mk hrl.symm
                have hjj : (j : Int) + 1 ≤ 9223372036854775807 := by omega
                clear hqq hrl hbr c1 c2 c3 hlt HRL HA hp0
                go_wp2
                all_goals exact ⟨⟨j + 1, q, by go_num, by first | rfl | trivial, by first | rfl | trivial, ⟨by have := HLTJ.out; omega⟩, HRL2, HQR⟩, by clear hp hq hs8 hs64; have := HLTJ.out; simp [intOf]; omega⟩
              · have e3 : decide ((j : Int) < 21) = false := decide_eq_false (by omega)
                have e3' : decide (j < 21) = false := decide_eq_false c3
                rw [if_neg (fun h => c3 h.2)] at hrl
                have hra := hrl.symm
                clear hrl hbr c1 c2 c3 hlt HRL HA hp0
                have hv2 : IntKind.i64.wrap a = NT.wS a := i64_wS a
                have hvv : NT.wS a = v := HV0.out a hra
                have HV := Aside0.mk (show NT.Rng v from hvv ▸ NT.wS_rng _)
                rw [hvv] at hv2
                clear hra
                by_cases hm : m ≤ b.length
                · have ht := run_take (some ad) c b.length m (Nat.le_trans hm H3.out)
                  have HC1 := Aside0.mk (take_C H4.out hm)
                  have hd1 : decide ((m : Int) > (b.length : Int)) = false := decide_eq_false (by omega)
                  have hd1' : decide ((b.length : Int) < (m : Int)) = false := decide_eq_false (by omega)
                  have hd1'' : decide (b.length < m) = false := decide_eq_false (by omega)
                  have HM := Aside0.mk hm
                  have hdr := run_drop (some ad) c b.length m hm
                  go_upto_region 12 with (go_at_call 30; refine (refnum_c v HV.out W).mono ?_; rintro e w2 hN; (obtain ⟨q, c2, he, hq, hlc, hC2, hB⟩ := refnum_row HV.out hN); rw [HMQ.out] at he hlc hC2; subst he; have B2 := Aside0.mk hB; have C2 := Aside0.mk hC2; (have hh := (hB.block g HLT.out).trans H1.out); have z2 : w2.cell? ⟨g, 0, none⟩ = some (.slice (some ad) b.length c) := (blk_cell hh 0).trans rfl; have fz := blk_frozen hh 0; have HH := Aside0.mk hh; have Z2 := Aside0.mk z2; have D1 := Aside0.mk (Kd.C_drew (Kd.C_below HC1.out hB)); have D2 := Aside0.mk (Kd.C_drew hC2); clear hN hq hlc hC2 hB hh)
                  go_region_held (fun w' => w'.cell? ⟨g, 0, none⟩ = some (.slice (some ad) b.length c) ∧ (convert 26 9 (.slice (some ad) m c)).run Tryd.prog w' = .ok (.string (strOfNums (b.take m))) w' ∧ (convert 26 9 (.slice (some ⟨q, 0, none⟩) m c2)).run Tryd.prog w' = .ok (.string (strOfNums nm)) w') (exact ⟨Z2.out, conv_str D1.out, conv_str (by rw [← HNM.out]; exact D2.out)⟩) (fail)
                  have hcut := NR.cut (W := w2) (g := g) (bad := bad) (pl := False) (T := 63) HH.out H2.out H3.out (Kd.C_below H4.out B2.out) H5.out (fun h => h.elim) (fun ad e hp => ⟨(H7.out ad e hp).1, Nat.lt_of_lt_of_le (H7.out ad e hp).2 B2.out.size⟩) m HM.out
                  have HCUT := Aside0.mk hcut
                  clear hcut
                  have HKB := Aside0.mk (KeptB.of_below (B2.out.trans ((below_drew1 (Below.refl w2.heap.size w2)).mono B2.out.size)) (fun k => k = g))
                  have HWN : Aside0 (NR 63 False w2.drew bad g b) := ⟨HW.out.after (B2.out.trans ((below_drew1 (Below.refl w2.heap.size w2)).mono B2.out.size))⟩
                  by_cases hq2 : b.take m = nm
                  · rw [hq2]
                    have hse1 : ((strOfNums nm).toList == (strOfNums nm).toList) = true := beq_self_eq_true _
                    have hse2 : (!((strOfNums nm).toList == (strOfNums nm).toList)) = false := by rw [hse1]; rfl
                    go_wp2
                    all_goals first | exact bodyPost_ret (v := .tuple #[.int .i64 v, .bool true]) (by simp [results, Tryd.results32, go_sem]) rfl (by show RNPost W bad g b (tk b) _ _; rw [HTK.out, if_pos ⟨HM.out, hq2⟩]; exact ⟨rfl, HCUT.out.1.after (below_drew1 (Below.refl _ _)), ((KeptB.of_below B2.out _).trans HCUT.out.2).drew⟩) | (exfalso; rename_i hx; first | (rw [hse1] at hx; cases hx; done) | (simp at hx; done) | (simp at hx; exact hse3 hx))
                  · have hse1 := list_ne (bytes_take H5.out m) (HNM.out ▸ NT.num_bytes v) hq2
                    have hse2 : (!((strOfNums (b.take m)).toList == (strOfNums nm).toList)) = true := by rw [hse1]; rfl
                    have hse3 : ¬ (strOfNums (b.take m)).toList = (strOfNums nm).toList := beq_eq_false_iff_ne.1 hse1
                    go_wp2
                    all_goals first | exact bodyPost_ret (v := .tuple #[.int .i64 0, .bool false]) (by simp [results, Tryd.results32, go_sem]) rfl (by show RNPost W bad g b (tk b) _ _; rw [HTK.out, if_neg (fun h => hq2 h.2)]; exact ⟨rfl, HWN.out, HKB.out⟩) | (exfalso; rename_i hx; first | (rw [hse1] at hx; cases hx; done) | (simp at hx; done) | (simp at hx; exact hse3 hx))
                · have hd1 : decide ((m : Int) > (b.length : Int)) = true := decide_eq_true (by omega)
                  have hd1' : decide ((b.length : Int) < (m : Int)) = true := decide_eq_true (by omega)
                  have hd1'' : decide (b.length < m) = true := decide_eq_true (by omega)
                  have HTK2 : Aside0 (tk b = (0, 0, false)) := ⟨by rw [HTK.out, if_neg (fun h => hm h.1)]⟩
                  clear hm
                  go_upto_region 12 with (go_at_call 30; refine (refnum_c v HV.out W).mono ?_; rintro e w2 hN; (obtain ⟨q, c2, he, hq, hlc, hC2, hB⟩ := refnum_row HV.out hN); rw [HMQ.out] at he hlc hC2; subst he; have B2 := Aside0.mk hB; (have hh := (hB.block g HLT.out).trans H1.out); have z2 : w2.cell? ⟨g, 0, none⟩ = some (.slice (some ad) b.length c) := (blk_cell hh 0).trans rfl; clear hN hq hlc hC2 hB hh)
                  go_quiet (first | fail)
                  go_wp2
                  have HB3 := (B2.out.trans ((pw_below_drewN (Below.refl w2.heap.size w2) nq).mono B2.out.size))
                  exact bodyPost_ret (v := .tuple #[.int .i64 0, .bool false]) (by simp [results, Tryd.results32, go_sem]) rfl (by show RNPost W bad g b (tk b) _ _; rw [HTK2.out]; exact ⟨rfl, HW.out.after HB3, KeptB.of_below HB3 _⟩)
            · have e2 : decide (ch ≤ 57) = false := decide_eq_false c2
              rw [if_neg (fun h => by have := h.1; unfold NT.dig at this; rw [e1', e2] at this; cases this)] at hrl
              have hra := hrl.symm
              clear hrl hbr c1 c2 hlt HRL HA hp0
              have hv2 : IntKind.i64.wrap a = NT.wS a := i64_wS a
              have hvv : NT.wS a = v := HV0.out a hra
              have HV := Aside0.mk (show NT.Rng v from hvv ▸ NT.wS_rng _)
              rw [hvv] at hv2
              clear hra
              by_cases hm : m ≤ b.length
              · have ht := run_take (some ad) c b.length m (Nat.le_trans hm H3.out)
                have HC1 := Aside0.mk (take_C H4.out hm)
                have hd1 : decide ((m : Int) > (b.length : Int)) = false := decide_eq_false (by omega)
                have hd1' : decide ((b.length : Int) < (m : Int)) = false := decide_eq_false (by omega)
                have hd1'' : decide (b.length < m) = false := decide_eq_false (by omega)
                have HM := Aside0.mk hm
                have hdr := run_drop (some ad) c b.length m hm
                go_upto_region 12 with (go_at_call 30; refine (refnum_c v HV.out W).mono ?_; rintro e w2 hN; (obtain ⟨q, c2, he, hq, hlc, hC2, hB⟩ := refnum_row HV.out hN); rw [HMQ.out] at he hlc hC2; subst he; have B2 := Aside0.mk hB; have C2 := Aside0.mk hC2; (have hh := (hB.block g HLT.out).trans H1.out); have z2 : w2.cell? ⟨g, 0, none⟩ = some (.slice (some ad) b.length c) := (blk_cell hh 0).trans rfl; have fz := blk_frozen hh 0; have HH := Aside0.mk hh; have Z2 := Aside0.mk z2; have D1 := Aside0.mk (Kd.C_drew (Kd.C_below HC1.out hB)); have D2 := Aside0.mk (Kd.C_drew hC2); clear hN hq hlc hC2 hB hh)
                go_region_held (fun w' => w'.cell? ⟨g, 0, none⟩ = some (.slice (some ad) b.length c) ∧ (convert 26 9 (.slice (some ad) m c)).run Tryd.prog w' = .ok (.string (strOfNums (b.take m))) w' ∧ (convert 26 9 (.slice (some ⟨q, 0, none⟩) m c2)).run Tryd.prog w' = .ok (.string (strOfNums nm)) w') (exact ⟨Z2.out, conv_str D1.out, conv_str (by rw [← HNM.out]; exact D2.out)⟩) (fail)
                have hcut := NR.cut (W := w2) (g := g) (bad := bad) (pl := False) (T := 63) HH.out H2.out H3.out (Kd.C_below H4.out B2.out) H5.out (fun h => h.elim) (fun ad e hp => ⟨(H7.out ad e hp).1, Nat.lt_of_lt_of_le (H7.out ad e hp).2 B2.out.size⟩) m HM.out
                have HCUT := Aside0.mk hcut
                clear hcut
                have HKB := Aside0.mk (KeptB.of_below (B2.out.trans ((below_drew1 (Below.refl w2.heap.size w2)).mono B2.out.size)) (fun k => k = g))
                have HWN : Aside0 (NR 63 False w2.drew bad g b) := ⟨HW.out.after (B2.out.trans ((below_drew1 (Below.refl w2.heap.size w2)).mono B2.out.size))⟩
                by_cases hq2 : b.take m = nm
                · rw [hq2]
                  have hse1 : ((strOfNums nm).toList == (strOfNums nm).toList) = true := beq_self_eq_true _
                  have hse2 : (!((strOfNums nm).toList == (strOfNums nm).toList)) = false := by rw [hse1]; rfl
                  go_wp2
                  all_goals first | exact bodyPost_ret (v := .tuple #[.int .i64 v, .bool true]) (by simp [results, Tryd.results32, go_sem]) rfl (by show RNPost W bad g b (tk b) _ _; rw [HTK.out, if_pos ⟨HM.out, hq2⟩]; exact ⟨rfl, HCUT.out.1.after (below_drew1 (Below.refl _ _)), ((KeptB.of_below B2.out _).trans HCUT.out.2).drew⟩) | (exfalso; rename_i hx; first | (rw [hse1] at hx; cases hx; done) | (simp at hx; done) | (simp at hx; exact hse3 hx))
                · have hse1 := list_ne (bytes_take H5.out m) (HNM.out ▸ NT.num_bytes v) hq2
                  have hse2 : (!((strOfNums (b.take m)).toList == (strOfNums nm).toList)) = true := by rw [hse1]; rfl
                  have hse3 : ¬ (strOfNums (b.take m)).toList = (strOfNums nm).toList := beq_eq_false_iff_ne.1 hse1
                  go_wp2
                  all_goals first | exact bodyPost_ret (v := .tuple #[.int .i64 0, .bool false]) (by simp [results, Tryd.results32, go_sem]) rfl (by show RNPost W bad g b (tk b) _ _; rw [HTK.out, if_neg (fun h => hq2 h.2)]; exact ⟨rfl, HWN.out, HKB.out⟩) | (exfalso; rename_i hx; first | (rw [hse1] at hx; cases hx; done) | (simp at hx; done) | (simp at hx; exact hse3 hx))
              · have hd1 : decide ((m : Int) > (b.length : Int)) = true := decide_eq_true (by omega)
                have hd1' : decide ((b.length : Int) < (m : Int)) = true := decide_eq_true (by omega)
                have hd1'' : decide (b.length < m) = true := decide_eq_true (by omega)
                have HTK2 : Aside0 (tk b = (0, 0, false)) := ⟨by rw [HTK.out, if_neg (fun h => hm h.1)]⟩
                clear hm
                go_upto_region 12 with (go_at_call 30; refine (refnum_c v HV.out W).mono ?_; rintro e w2 hN; (obtain ⟨q, c2, he, hq, hlc, hC2, hB⟩ := refnum_row HV.out hN); rw [HMQ.out] at he hlc hC2; subst he; have B2 := Aside0.mk hB; (have hh := (hB.block g HLT.out).trans H1.out); have z2 : w2.cell? ⟨g, 0, none⟩ = some (.slice (some ad) b.length c) := (blk_cell hh 0).trans rfl; clear hN hq hlc hC2 hB hh)
                go_quiet (first | fail)
                go_wp2
                have HB3 := (B2.out.trans ((pw_below_drewN (Below.refl w2.heap.size w2) nq).mono B2.out.size))
                exact bodyPost_ret (v := .tuple #[.int .i64 0, .bool false]) (by simp [results, Tryd.results32, go_sem]) rfl (by show RNPost W bad g b (tk b) _ _; rw [HTK2.out]; exact ⟨rfl, HW.out.after HB3, KeptB.of_below HB3 _⟩)
          · have e1 : decide (ch ≥ 48) = false := decide_eq_false c1
            have e1' : decide (48 ≤ ch) = false := decide_eq_false c1
            rw [if_neg (fun h => by have := h.1; unfold NT.dig at this; rw [e1'] at this; cases this)] at hrl
            have hra := hrl.symm
            clear hrl hbr c1 hlt HRL HA hp0
            have hv2 : IntKind.i64.wrap a = NT.wS a := i64_wS a
            have hvv : NT.wS a = v := HV0.out a hra
            have HV := Aside0.mk (show NT.Rng v from hvv ▸ NT.wS_rng _)
            rw [hvv] at hv2
            clear hra
            by_cases hm : m ≤ b.length
            · have ht := run_take (some ad) c b.length m (Nat.le_trans hm H3.out)
              have HC1 := Aside0.mk (take_C H4.out hm)
              have hd1 : decide ((m : Int) > (b.length : Int)) = false := decide_eq_false (by omega)
              have hd1' : decide ((b.length : Int) < (m : Int)) = false := decide_eq_false (by omega)
              have hd1'' : decide (b.length < m) = false := decide_eq_false (by omega)
              have HM := Aside0.mk hm
              have hdr := run_drop (some ad) c b.length m hm
              go_upto_region 12 with (go_at_call 30; refine (refnum_c v HV.out W).mono ?_; rintro e w2 hN; (obtain ⟨q, c2, he, hq, hlc, hC2, hB⟩ := refnum_row HV.out hN); rw [HMQ.out] at he hlc hC2; subst he; have B2 := Aside0.mk hB; have C2 := Aside0.mk hC2; (have hh := (hB.block g HLT.out).trans H1.out); have z2 : w2.cell? ⟨g, 0, none⟩ = some (.slice (some ad) b.length c) := (blk_cell hh 0).trans rfl; have fz := blk_frozen hh 0; have HH := Aside0.mk hh; have Z2 := Aside0.mk z2; have D1 := Aside0.mk (Kd.C_drew (Kd.C_below HC1.out hB)); have D2 := Aside0.mk (Kd.C_drew hC2); clear hN hq hlc hC2 hB hh)
              go_region_held (fun w' => w'.cell? ⟨g, 0, none⟩ = some (.slice (some ad) b.length c) ∧ (convert 26 9 (.slice (some ad) m c)).run Tryd.prog w' = .ok (.string (strOfNums (b.take m))) w' ∧ (convert 26 9 (.slice (some ⟨q, 0, none⟩) m c2)).run Tryd.prog w' = .ok (.string (strOfNums nm)) w') (exact ⟨Z2.out, conv_str D1.out, conv_str (by rw [← HNM.out]; exact D2.out)⟩) (fail)
              have hcut := NR.cut (W := w2) (g := g) (bad := bad) (pl := False) (T := 63) HH.out H2.out H3.out (Kd.C_below H4.out B2.out) H5.out (fun h => h.elim) (fun ad e hp => ⟨(H7.out ad e hp).1, Nat.lt_of_lt_of_le (H7.out ad e hp).2 B2.out.size⟩) m HM.out
              have HCUT := Aside0.mk hcut
              clear hcut
              have HKB := Aside0.mk (KeptB.of_below (B2.out.trans ((below_drew1 (Below.refl w2.heap.size w2)).mono B2.out.size)) (fun k => k = g))
              have HWN : Aside0 (NR 63 False w2.drew bad g b) := ⟨HW.out.after (B2.out.trans ((below_drew1 (Below.refl w2.heap.size w2)).mono B2.out.size))⟩
              by_cases hq2 : b.take m = nm
              · rw [hq2]
                have hse1 : ((strOfNums nm).toList == (strOfNums nm).toList) = true := beq_self_eq_true _
                have hse2 : (!((strOfNums nm).toList == (strOfNums nm).toList)) = false := by rw [hse1]; rfl
                go_wp2
                all_goals first | exact bodyPost_ret (v := .tuple #[.int .i64 v, .bool true]) (by simp [results, Tryd.results32, go_sem]) rfl (by show RNPost W bad g b (tk b) _ _; rw [HTK.out, if_pos ⟨HM.out, hq2⟩]; exact ⟨rfl, HCUT.out.1.after (below_drew1 (Below.refl _ _)), ((KeptB.of_below B2.out _).trans HCUT.out.2).drew⟩) | (exfalso; rename_i hx; first | (rw [hse1] at hx; cases hx; done) | (simp at hx; done) | (simp at hx; exact hse3 hx))
              · have hse1 := list_ne (bytes_take H5.out m) (HNM.out ▸ NT.num_bytes v) hq2
                have hse2 : (!((strOfNums (b.take m)).toList == (strOfNums nm).toList)) = true := by rw [hse1]; rfl
                have hse3 : ¬ (strOfNums (b.take m)).toList = (strOfNums nm).toList := beq_eq_false_iff_ne.1 hse1
                go_wp2
                all_goals first | exact bodyPost_ret (v := .tuple #[.int .i64 0, .bool false]) (by simp [results, Tryd.results32, go_sem]) rfl (by show RNPost W bad g b (tk b) _ _; rw [HTK.out, if_neg (fun h => hq2 h.2)]; exact ⟨rfl, HWN.out, HKB.out⟩) | (exfalso; rename_i hx; first | (rw [hse1] at hx; cases hx; done) | (simp at hx; done) | (simp at hx; exact hse3 hx))
            · have hd1 : decide ((m : Int) > (b.length : Int)) = true := decide_eq_true (by omega)
              have hd1' : decide ((b.length : Int) < (m : Int)) = true := decide_eq_true (by omega)
              have hd1'' : decide (b.length < m) = true := decide_eq_true (by omega)
              have HTK2 : Aside0 (tk b = (0, 0, false)) := ⟨by rw [HTK.out, if_neg (fun h => hm h.1)]⟩
              clear hm
              go_upto_region 12 with (go_at_call 30; refine (refnum_c v HV.out W).mono ?_; rintro e w2 hN; (obtain ⟨q, c2, he, hq, hlc, hC2, hB⟩ := refnum_row HV.out hN); rw [HMQ.out] at he hlc hC2; subst he; have B2 := Aside0.mk hB; (have hh := (hB.block g HLT.out).trans H1.out); have z2 : w2.cell? ⟨g, 0, none⟩ = some (.slice (some ad) b.length c) := (blk_cell hh 0).trans rfl; clear hN hq hlc hC2 hB hh)
              go_quiet (first | fail)
              go_wp2
              have HB3 := (B2.out.trans ((pw_below_drewN (Below.refl w2.heap.size w2) nq).mono B2.out.size))
              exact bodyPost_ret (v := .tuple #[.int .i64 0, .bool false]) (by simp [results, Tryd.results32, go_sem]) rfl (by show RNPost W bad g b (tk b) _ _; rw [HTK2.out]; exact ⟨rfl, HW.out.after HB3, KeptB.of_below HB3 _⟩)
        · have hd : decide ((j : Int) < (b.length : Int)) = false := decide_eq_false (by omega)
          have hd2 : decide (j < b.length) = false := decide_eq_false hlt
          have hra := (rloop_end hlt a).symm.trans HRL.out
          clear hlt HRL HA
          have hv2 : IntKind.i64.wrap a = NT.wS a := i64_wS a
          have hvv : NT.wS a = v := HV0.out a hra
          have HV := Aside0.mk (show NT.Rng v from hvv ▸ NT.wS_rng _)
          rw [hvv] at hv2
          clear hra
          by_cases hm : m ≤ b.length
          · have ht := run_take (some ad) c b.length m (Nat.le_trans hm H3.out)
            have HC1 := Aside0.mk (take_C H4.out hm)
            have hd1 : decide ((m : Int) > (b.length : Int)) = false := decide_eq_false (by omega)
            have hd1' : decide ((b.length : Int) < (m : Int)) = false := decide_eq_false (by omega)
            have hd1'' : decide (b.length < m) = false := decide_eq_false (by omega)
            have HM := Aside0.mk hm
            have hdr := run_drop (some ad) c b.length m hm
            go_upto_region 12 with (go_at_call 30; refine (refnum_c v HV.out W).mono ?_; rintro e w2 hN; (obtain ⟨q, c2, he, hq, hlc, hC2, hB⟩ := refnum_row HV.out hN); rw [HMQ.out] at he hlc hC2; subst he; have B2 := Aside0.mk hB; have C2 := Aside0.mk hC2; (have hh := (hB.block g HLT.out).trans H1.out); have z2 : w2.cell? ⟨g, 0, none⟩ = some (.slice (some ad) b.length c) := (blk_cell hh 0).trans rfl; have fz := blk_frozen hh 0; have HH := Aside0.mk hh; have Z2 := Aside0.mk z2; have D1 := Aside0.mk (Kd.C_drew (Kd.C_below HC1.out hB)); have D2 := Aside0.mk (Kd.C_drew hC2); clear hN hq hlc hC2 hB hh)
            go_region_held (fun w' => w'.cell? ⟨g, 0, none⟩ = some (.slice (some ad) b.length c) ∧ (convert 26 9 (.slice (some ad) m c)).run Tryd.prog w' = .ok (.string (strOfNums (b.take m))) w' ∧ (convert 26 9 (.slice (some ⟨q, 0, none⟩) m c2)).run Tryd.prog w' = .ok (.string (strOfNums nm)) w') (exact ⟨Z2.out, conv_str D1.out, conv_str (by rw [← HNM.out]; exact D2.out)⟩) (fail)
            have hcut := NR.cut (W := w2) (g := g) (bad := bad) (pl := False) (T := 63) HH.out H2.out H3.out (Kd.C_below H4.out B2.out) H5.out (fun h => h.elim) (fun ad e hp => ⟨(H7.out ad e hp).1, Nat.lt_of_lt_of_le (H7.out ad e hp).2 B2.out.size⟩) m HM.out
            have HCUT := Aside0.mk hcut
            clear hcut
            have HKB := Aside0.mk (KeptB.of_below (B2.out.trans ((below_drew1 (Below.refl w2.heap.size w2)).mono B2.out.size)) (fun k => k = g))
            have HWN : Aside0 (NR 63 False w2.drew bad g b) := ⟨HW.out.after (B2.out.trans ((below_drew1 (Below.refl w2.heap.size w2)).mono B2.out.size))⟩
            by_cases hq2 : b.take m = nm
            · rw [hq2]
              have hse1 : ((strOfNums nm).toList == (strOfNums nm).toList) = true := beq_self_eq_true _
              have hse2 : (!((strOfNums nm).toList == (strOfNums nm).toList)) = false := by rw [hse1]; rfl
              go_wp2
              all_goals first | exact bodyPost_ret (v := .tuple #[.int .i64 v, .bool true]) (by simp [results, Tryd.results32, go_sem]) rfl (by show RNPost W bad g b (tk b) _ _; rw [HTK.out, if_pos ⟨HM.out, hq2⟩]; exact ⟨rfl, HCUT.out.1.after (below_drew1 (Below.refl _ _)), ((KeptB.of_below B2.out _).trans HCUT.out.2).drew⟩) | (exfalso; rename_i hx; first | (rw [hse1] at hx; cases hx; done) | (simp at hx; done) | (simp at hx; exact hse3 hx))
            · have hse1 := list_ne (bytes_take H5.out m) (HNM.out ▸ NT.num_bytes v) hq2
              have hse2 : (!((strOfNums (b.take m)).toList == (strOfNums nm).toList)) = true := by rw [hse1]; rfl
              have hse3 : ¬ (strOfNums (b.take m)).toList = (strOfNums nm).toList := beq_eq_false_iff_ne.1 hse1
              go_wp2
              all_goals first | exact bodyPost_ret (v := .tuple #[.int .i64 0, .bool false]) (by simp [results, Tryd.results32, go_sem]) rfl (by show RNPost W bad g b (tk b) _ _; rw [HTK.out, if_neg (fun h => hq2 h.2)]; exact ⟨rfl, HWN.out, HKB.out⟩) | (exfalso; rename_i hx; first | (rw [hse1] at hx; cases hx; done) | (simp at hx; done) | (simp at hx; exact hse3 hx))
          · have hd1 : decide ((m : Int) > (b.length : Int)) = true := decide_eq_true (by omega)
            have hd1' : decide ((b.length : Int) < (m : Int)) = true := decide_eq_true (by omega)
            have hd1'' : decide (b.length < m) = true := decide_eq_true (by omega)
            have HTK2 : Aside0 (tk b = (0, 0, false)) := ⟨by rw [HTK.out, if_neg (fun h => hm h.1)]⟩
            clear hm
            go_upto_region 12 with (go_at_call 30; refine (refnum_c v HV.out W).mono ?_; rintro e w2 hN; (obtain ⟨q, c2, he, hq, hlc, hC2, hB⟩ := refnum_row HV.out hN); rw [HMQ.out] at he hlc hC2; subst he; have B2 := Aside0.mk hB; (have hh := (hB.block g HLT.out).trans H1.out); have z2 : w2.cell? ⟨g, 0, none⟩ = some (.slice (some ad) b.length c) := (blk_cell hh 0).trans rfl; clear hN hq hlc hC2 hB hh)
            go_quiet (first | fail)
            go_wp2
            have HB3 := (B2.out.trans ((pw_below_drewN (Below.refl w2.heap.size w2) nq).mono B2.out.size))
            exact bodyPost_ret (v := .tuple #[.int .i64 0, .bool false]) (by simp [results, Tryd.results32, go_sem]) rfl (by show RNPost W bad g b (tk b) _ _; rw [HTK2.out]; exact ⟨rfl, HW.out.after HB3, KeptB.of_below HB3 _⟩)
end Go.Proofs.YtkicekddkgehoaaDoor.Hnd
