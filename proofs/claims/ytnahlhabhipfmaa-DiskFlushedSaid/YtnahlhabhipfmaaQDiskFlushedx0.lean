/- The contract of the law DiskFlushed, by hand. -/
import Derived.Test.YtnahlhabhipfmaaDisk9
namespace Go.Proofs.Ytnahlhabhipfmaa.QDiskFlushed
open Go.RowKit Go.Proofs.Ytnahlhabhipfmaa.QSpanCrash Go.Proofs.Ytnahlhabhipfmaa.Hnd Go.Proofs.YtnahlhabhipfmaaW.PrintWords Go.Proofs.YtnahlhabhipfmaaW.PrintLast Go.Proofs.YtnahlhabhipfmaaW.Dk 
set_option linter.unusedVariables false
set_option linter.unusedSimpArgs false
attribute [local go_sem] Oper.semAt_some
theorem fl_1 (x : List Int) (hx : x.length = 16) : (DS.new 1).wr 0 x = ({ DS.new 1 with P := [(0, x)], N := 1 }, 0) := by
  unfold DS.wr
  rw [if_neg (by simp [DS.new]), if_neg (by omega), if_neg (by simp [DS.new]), if_neg (by simp [DS.new, DS.bad])]
  simp [DS.counted, DS.new, wrap64]
def fl2 (x : List Int) : DS := { DS.new 1 with S := [x], N := 2 }
theorem fl_2 (x : List Int) : DS.fl { DS.new 1 with P := [(0, x)], N := 1 } = (fl2 x, 0) := by
  unfold DS.fl fl2
  simp [DS.new, DS.bad, DS.counted, DS.flushed, wrap64]
def fl3 (x : List Int) (keep : Int) : DS := (fl2 x).arm 3 [keep]
def fl4 (x y : List Int) (keep : Int) : DS := { fl3 x keep with P := [(0, y)], N := 3 }
theorem fl_4 (x y : List Int) (keep : Int) (hy : y.length = 16) : (fl3 x keep).wr 0 y = (fl4 x y keep, 0) := by
  unfold DS.wr
  rw [if_neg (by simp [fl3, fl2, DS.arm, DS.new]), if_neg (by omega), if_neg (by simp [fl3, fl2, DS.arm, DS.new]), if_neg (by simp [fl3, fl2, DS.arm, DS.new, DS.bad])]
  simp [fl3, fl4, fl2, DS.arm, DS.counted, DS.new, wrap64]
def fl5 (x y : List Int) (keep : Int) : DS := { fl3 x keep with S := [y.take (DS.keepN [keep] 0) ++ x.drop (DS.keepN [keep] 0)], N := 3, down := true }
theorem fl_5 (x y : List Int) (keep : Int) : (fl4 x y keep).fl = (fl5 x y keep, 5) := by
  unfold DS.fl fl5 fl4 fl3 fl2
  simp [DS.arm, DS.new, DS.bad, DS.crashed, DS.spill, DS.lay]
theorem fl_6 (x y : List Int) (keep : Int) : (fl5 x y keep).rd 0 = y.take (DS.keepN [keep] 0) ++ x.drop (DS.keepN [keep] 0) := by
  unfold DS.rd fl5 fl3 fl2
  simp [DS.arm, DS.new, DS.lastP]
theorem fl_7 (x y : List Int) (keep : Int) : (fl5 x y keep).restart.rd 0 = y.take (DS.keepN [keep] 0) ++ x.drop (DS.keepN [keep] 0) := by
  unfold DS.rd DS.restart fl5 fl3 fl2
  simp [DS.arm, DS.new, DS.lastP]
theorem C_move {w W : World} {q o n : Nat} {z : Array Value} {e : TypeId} {b : List Int} (h1 : w.heap[q]? = some (.cells z e (0, 0))) (h2 : W.heap[q]? = some (.cells z e (0, 0))) (hC : (Kd.int .u8).C w (some ⟨q, o, none⟩) n b) : (Kd.int .u8).C W (some ⟨q, o, none⟩) n b :=
  ⟨hC.1, hC.2.1, fun hp => by
    obtain ⟨ad, e, hc⟩ := hC.2.2 hp
    injection e with e
    subst e
    exact ⟨_, rfl, fun j p hj => by
      obtain ⟨c, g1, g2, g3⟩ := hc j p hj
      exact ⟨c, g1, g2, fun i u hu => by
        have h3 := g3 i u hu
        rw [Kd.add_plain2] at h3 ⊢
        rw [blk_cell h2]
        rw [blk_cell h1] at h3
        exact h3⟩⟩⟩
/-- A fresh row of bytes, with all its block. -/
theorem R_block {e base : Nat} {ok : Nat → Prop} {w : World} {v : Value} {b : List Int} (h : (Kd.int .u8).R e w base ok v b) (hn : 0 < b.length) :
    ∃ q c, ∃ z : Array Value, v = .slice (some ⟨q, 0, none⟩) b.length c ∧ base ≤ q ∧ q < w.heap.size ∧ w.heap[q]? = some (.cells z e (0, 0)) ∧ ∀ W : World, W.heap[q]? = some (.cells z e (0, 0)) → (Kd.int .u8).C W (some ⟨q, 0, none⟩) b.length b := by
  obtain ⟨q, c, hv, hlc⟩ := Kd.own_some h hn
  obtain ⟨A', c', hv', hlc', hC⟩ := Kd.R_reads h
  rw [hv] at hv'
  injection hv' with e1 _ e2
  subst e1
  have hob : v.ownBlock = some q := by rw [hv]; rfl
  obtain ⟨cells, hce⟩ := own_typed h.2.choose_spec.1 q hob
  exact ⟨q, c, cells, hv, own_base h.2.choose_spec.1 q hob, own_lt h.2.choose_spec.1 q hob, hce, fun W hW => C_move hce hW hC⟩
theorem str_app (a b : List Int) : strOfNums (a ++ b) = strOfNums a ++ strOfNums b := by
  have h : (strOfNums (a ++ b)).data = (strOfNums a ++ strOfNums b).data := by
    rw [ByteArray.data_append]
    simp [strOfNums]
  exact congrArg ByteArray.mk h
theorem cs_str {W : World} {A : Option Addr} {n : Nat} (c : Nat) {b : List Int} (h : (Kd.int .u8).C W A n b) : (convert 26 9 (.slice A n c)).run Try.prog W = .ok (.string (strOfNums b)) W :=
  Kd.C_string (P := Try.prog) (A := A) (c := c) Try.underlying26 Try.underlying5 Try.underlying9 h
theorem r_down (x y : List Int) (k : Int) : (fl5 x y k).restart.down = false := rfl
theorem r_N (x y : List Int) (k : Int) : (fl5 x y k).restart.N = 0 := rfl
def lazaruslaw3_DiskFlushed.f (l0 : List Int) (l1 : List Int) (a2 : Int) : Option Bool := some true
set_option maxHeartbeats 4000000 in
set_option maxRecDepth 100000 in
theorem lazaruslaw3_DiskFlushed.calls (A0 : Option Addr) (c0 : Nat) (l0 : List Int) (A1 : Option Addr) (c1 : Nat) (l1 : List Int) (a2 : Int) (r : Bool) (w : World) (hr0 : (Kd.int .u8).C w A0 l0.length l0) (hc0 : l0.length ≤ c0) (hr1 : (Kd.int .u8).C w A1 l1.length l1) (hc1 : l1.length ≤ c1) (h : lazaruslaw3_DiskFlushed.f l0 l1 a2 = some r) :
    Calls Try.prog 6 #[.slice A0 l0.length c0, .slice A1 l1.length c1, .int .i64 a2] w fun e w' => e = .returned (.bool r) ∧ Below w.heap.size w w' := by
  obtain rfl : true = r := Option.some.inj h
  have HR0 := Aside0.mk hr0
  have HR1 := Aside0.mk hr1
  have HC0 := Aside0.mk hc0
  have HC1 := Aside0.mk hc1
  clear hr0 hr1 hc0 hc1 h
  by_cases h0 : 16 < l0.length
  · have hd : decide ((l0.length : Int) > 16) = true := decide_eq_true (by omega)
    have hd2 : decide ((16 : Int) < (l0.length : Int)) = true := decide_eq_true (by omega)
    have hd3 : decide (16 < l0.length) = true := decide_eq_true (by omega)
    go_enter Try.func6, Try.ntmps6
    go_wp2_with (go_at_call 12; refine (st_new 1 (by omega) w _ (Below.refl _ _) [] (fun x hx => by cases hx)).mono ?_; rintro e w1 ⟨rfl, hS, hM⟩; have S1 := Aside0.mk hS; clear hS hM)
    go_ret
    exact ⟨rfl, S1.out.2.1⟩
  by_cases h1 : 16 < l1.length
  · have hd : decide ((l0.length : Int) > 16) = false := decide_eq_false (by omega)
    have hd2 : decide ((16 : Int) < (l0.length : Int)) = false := decide_eq_false (by omega)
    have hd3 : decide (16 < l0.length) = false := decide_eq_false (by omega)
    have he : decide ((l1.length : Int) > 16) = true := decide_eq_true (by omega)
    have he2 : decide ((16 : Int) < (l1.length : Int)) = true := decide_eq_true (by omega)
    have he3 : decide (16 < l1.length) = true := decide_eq_true (by omega)
    go_enter Try.func6, Try.ntmps6
    go_wp2_with (go_at_call 12; refine (st_new 1 (by omega) w _ (Below.refl _ _) [] (fun x hx => by cases hx)).mono ?_; rintro e w1 ⟨rfl, hS, hM⟩; have S1 := Aside0.mk hS; clear hS hM)
    go_ret
    exact ⟨rfl, S1.out.2.1⟩
  have hd : decide ((l0.length : Int) > 16) = false := decide_eq_false (by omega)
  have hd2 : decide ((16 : Int) < (l0.length : Int)) = false := decide_eq_false (by omega)
  have hd3 : decide (16 < l0.length) = false := decide_eq_false (by omega)
  have he : decide ((l1.length : Int) > 16) = false := decide_eq_false (by omega)
  have he2 : decide ((16 : Int) < (l1.length : Int)) = false := decide_eq_false (by omega)
  have he3 : decide (16 < l1.length) = false := decide_eq_false (by omega)
  clear h0 h1
  obtain ⟨kn, hkn⟩ : ∃ kn, kn = DS.keepN [a2] 0 := ⟨_, rfl⟩
  have hk16 : kn ≤ 16 := by rw [hkn]; exact DS.keepN_le _ _
  have p6 := fl_6 (wh l0) (wh l1) a2
  have p7 := fl_7 (wh l0) (wh l1) a2
  rw [← hkn] at p6 p7
  have hlen : ((wh l1).take kn ++ (wh l0).drop kn).length = 16 := by simp [wh_len]; omega
  have hz : kn = (min (max a2 0) 16).toNat := by rw [hkn]; rfl
  have P6 := Aside0.mk p6
  have P7 := Aside0.mk p7
  have HL := Aside0.mk hlen
  have HZ := Aside0.mk hz
  have hk1 : (0 : Int) ≤ (kn : Int) := by omega
  have hk2 : (kn : Int) ≤ 16 := by omega
  clear p6 p7 hlen hz hkn hk16
  go_enter Try.func6, Try.ntmps6
  go_upto_region 9 with (first
    | (go_at_call 18; refine (st_flush S8.out).mono ?_; rw [fl_5]; rintro e w9 ⟨rfl, hS, hM⟩; have S9 := Aside0.mk hS; have X9 := Aside0.mk ((hM _ (by simp)).trans X8.out); have Y9 := Aside0.mk ((hM _ (by simp)).trans Y8.out); clear hS hM)
    | (go_at_call 13; refine (st_write16 S7.out 0 w2.heap.size (wh l1) (by simp) Y7.out (wh_len _) (by simp [fl3, fl2, DS.arm, DS.new])).mono ?_; rw [fl_4 _ _ _ (wh_len _)]; rintro e w8 ⟨rfl, hS, hM⟩; have S8 := Aside0.mk hS; have X8 := Aside0.mk ((hM _ (by simp)).trans X7.out); have Y8 := Aside0.mk ((hM _ (by simp)).trans Y7.out); clear hS hM)
    | (go_at_call 19; refine (st_arm1 (S6.out.after (below_alloc (Below.refl _ _) _)) 3 a2 w6.heap.size (blk_new w6 _)).mono ?_; rintro e w7 ⟨rfl, hS, hM⟩; have S7 : Aside0 (St w [w2.heap.size, w1.heap.size] w7 w.heap.size (fl3 (wh l0) a2)) := ⟨hS⟩; have X7 : Aside0 (SecAt w7 w1.heap.size (wh l0)) := ⟨(hM _ (by simp)).trans (blk_alloc X6.out _)⟩; have Y7 : Aside0 (SecAt w7 w2.heap.size (wh l1)) := ⟨(hM _ (by simp)).trans (blk_alloc Y6.out _)⟩; clear hS hM)
    | (go_at_call 18; refine (st_flush S5.out).mono ?_; rw [fl_2]; rintro e w6 ⟨rfl, hS, hM⟩; have S6 := Aside0.mk hS; have X6 := Aside0.mk ((hM _ (by simp)).trans X5.out); have Y6 := Aside0.mk ((hM _ (by simp)).trans Y5.out); clear hS hM)
    | (go_at_call 13; refine (st_write16 S3.out 0 w1.heap.size (wh l0) (by simp) X3.out (wh_len _) (by simp [DS.new])).mono ?_; rw [fl_1 _ (wh_len _)]; rintro e w5 ⟨rfl, hS, hM⟩; have S5 := Aside0.mk hS; have X5 := Aside0.mk ((hM _ (by simp)).trans X3.out); have Y5 := Aside0.mk ((hM _ (by simp)).trans Y3.out); clear hS hM)
    | (go_at_call 17; refine (whole_any A1 c1 l1 w2 (Kd.C_below HR1.out S2.out.2.1) HC1.out).mono ?_; rintro e w3 ⟨rfl, hX, hz, hB⟩; have S3 : Aside0 (St w [w2.heap.size, w1.heap.size] w3 w.heap.size (DS.new 1)) := ⟨S2.out.more hB _ (Nat.le_refl _) (by omega)⟩; have Y3 := Aside0.mk hX; have X3 : Aside0 (SecAt w3 w1.heap.size (wh l0)) := ⟨(hB.block _ (S2.out.2.2 _ (by simp))).trans X2.out⟩; clear hX hz hB)
    | (go_at_call 17; refine (whole_any A0 c0 l0 w1 (Kd.C_below HR0.out S1.out.2.1) HC0.out).mono ?_; rintro e w2 ⟨rfl, hX, hz, hB⟩; have S2 : Aside0 (St w [w1.heap.size] w2 w.heap.size (DS.new 1)) := ⟨S1.out.more hB _ (Nat.le_refl _) (by omega)⟩; have X2 := Aside0.mk hX; clear hX hz hB)
    | (go_at_call 12; refine (st_new 1 (by omega) w _ (Below.refl _ _) [] (fun x hx => by cases hx)).mono ?_; rintro e w1 ⟨rfl, hS, hM⟩; have S1 := Aside0.mk hS; clear hS hM))
  have HX9 : Aside0 (SecAt w9 w1.heap.size (wh l0)) := X9
  have HY9 : Aside0 (SecAt w9 w2.heap.size (wh l1)) := Y9
  clear S1 S2 S3 S5 S6 S7 S8 X2 X3 X5 X6 X7 X8 X9 Y3 Y5 Y6 Y7 Y8 Y9
  go_upto_region 12 with (first
    | (go_at_call 21; refine (st_restart S10.out).mono ?_; rintro e w11 ⟨rfl, hS, hM⟩; have S11 := Aside0.mk hS; have Z11 := Aside0.mk ((hM _ (by simp)).trans Z10.out); have Y11 := Aside0.mk ((hM _ (by simp)).trans Y10.out); have X11 := Aside0.mk ((hM _ (by simp)).trans X10.out); clear hS hM)
    | (go_at_call 15; refine (st_read S9.out 0).mono ?_; rw [P6.out]; rintro e w10 ⟨v0, rfl, hR, hS, hM, hB⟩; obtain ⟨qz, cz, zc, hv0, hq1, hq2, hzz, hlc⟩ := R_block hR (by have := HL.out; omega); rw [HL.out] at hv0 hlc; subst hv0; have S10 : Aside0 (St w (qz :: [w2.heap.size, w1.heap.size]) w10 w.heap.size (fl5 (wh l0) (wh l1) a2)) := ⟨S9.out.more hB qz hq1 hq2⟩; have Z10 := Aside0.mk hzz; have Y10 : Aside0 (SecAt w10 w2.heap.size (wh l1)) := ⟨(hM _ (by simp)).trans HY9.out⟩; have X10 : Aside0 (SecAt w10 w1.heap.size (wh l0)) := ⟨(hM _ (by simp)).trans HX9.out⟩; clear hR hS hM hB hzz))
  have hif : (if 16 < if a2 < 0 then 0 else a2 then 16 else if a2 < 0 then 0 else a2) = (kn : Int) := by
    rw [HZ.out]
    (repeat' split) <;> omega
  simp only [hif]
  generalize (if a2 < 0 then (0 : Int) else a2) = mx
  clear S9 S10 HX9 HY9 Z10 Y10 X10 hif
  have HX : Aside0 (SecAt w11 w1.heap.size (wh l0)) := X11
  have HY : Aside0 (SecAt w11 w2.heap.size (wh l1)) := Y11
  clear X11 Y11
  obtain ⟨sY, hsY⟩ : ∃ sY, sY = strOfNums ((wh l1).take kn) := ⟨_, rfl⟩
  obtain ⟨sX, hsX⟩ : ∃ sX, sX = strOfNums ((wh l0).drop kn) := ⟨_, rfl⟩
  have SZ : Aside0 (sY ++ sX = strOfNums ((wh l1).take kn ++ (wh l0).drop kn)) := ⟨by rw [str_app, hsY, hsX]⟩
  have hsz : ¬ 9223372036854775807 < sY.size + sX.size := by rw [hsY, hsX, strOfNums_size, strOfNums_size, List.length_take, List.length_drop, wh_len, wh_len]; omega
  have SY := Aside0.mk hsY
  have SX := Aside0.mk hsX
  clear hsY hsX
  rcases Nat.lt_or_ge kn 16 with hlt | hge
  · have hk3 : ¬ 16 = kn := by omega
    have hk4 : ¬ kn = 16 := by omega
    have hk5 : (kn : Int) < 16 := by omega
    have hk6 : ¬ ((16 : Int) = (kn : Int)) := by omega
    have hk7 : ¬ ((kn : Int) = 16) := by omega
    have convs : Aside0 (∀ W', Below w11.heap.size w11 W' → (convert 26 9 (.slice (some ⟨qz, 0, none⟩) 16 cz)).run Try.prog W' = .ok (.string (sY ++ sX)) W' ∧ (convert 26 9 (.slice (some ⟨w2.heap.size, 0, none⟩) kn 16)).run Try.prog W' = .ok (.string sY) W' ∧ (convert 26 9 (.slice (some ⟨w1.heap.size, kn, none⟩) (16 - kn) (16 - kn))).run Try.prog W' = .ok (.string sX) W') := ⟨fun W' hB => by
      have hzl : qz < w11.heap.size := (Array.getElem?_eq_some_iff.1 Z11.out).1
      have hyl : w2.heap.size < w11.heap.size := (Array.getElem?_eq_some_iff.1 HY.out).1
      have hxl : w1.heap.size < w11.heap.size := (Array.getElem?_eq_some_iff.1 HX.out).1
      have cz1 := hlc W' ((hB.block qz hzl).trans Z11.out)
      have cy1 : (Kd.int .u8).C W' (some ⟨w2.heap.size, 0, none⟩) (wh l1).length (wh l1) := Kd.C_int_cells (T := 5) (fr := (0, 0)) ((hB.block _ hyl).trans HY.out) rfl (by rw [wh_len]; omega)
      have cx1 : (Kd.int .u8).C W' (some ⟨w1.heap.size, 0, none⟩) (wh l0).length (wh l0) := Kd.C_int_cells (T := 5) (fr := (0, 0)) ((hB.block _ hxl).trans HX.out) rfl (by rw [wh_len]; omega)
      have cy2 := Kd.C_take (m := kn) cy1 (by rw [wh_len]; omega)
      have cx2 := Kd.C_drop (m := kn) (c := 16) cx1 (by rw [wh_len]; omega) (by rw [wh_len]; omega)
      rw [show ((wh l1).take kn).length = kn by rw [List.length_take, wh_len]; omega] at cy2
      rw [show ((wh l0).drop kn).length = 16 - kn by rw [List.length_drop, wh_len]] at cx2
      rw [if_neg hk3] at cx2
      have e1 : (some (⟨w1.heap.size, 0, none⟩ : Addr)).map (·.add (kn * (Kd.int .u8).sz)) = some ⟨w1.heap.size, kn, none⟩ := by
        show some (Addr.add _ (kn * 1)) = _
        rw [Nat.mul_one, Kd.add_plain2, Nat.zero_add]
      rw [e1] at cx2
      rw [SZ.out, SY.out, SX.out]
      exact ⟨cs_str _ cz1, cs_str _ cy2, cs_str _ cx2⟩⟩
    go_region_held (fun w' => Aside0 (Below w11.heap.size w11 w') ∧ (convert 26 9 (.slice (some ⟨qz, 0, none⟩) 16 cz)).run Try.prog w' = .ok (.string (sY ++ sX)) w' ∧ (convert 26 9 (.slice (some ⟨w2.heap.size, 0, none⟩) kn 16)).run Try.prog w' = .ok (.string sY) w' ∧ (convert 26 9 (.slice (some ⟨w1.heap.size, kn, none⟩) (16 - kn) (16 - kn))).run Try.prog w' = .ok (.string sX) w')
      (first
        | (exact ⟨⟨HB13.out⟩, convs.out _ HB13.out⟩)
        | (exact ⟨⟨HB12.out⟩, convs.out _ HB12.out⟩)
        | (exact ⟨⟨below_drew1 (Below.refl _ _)⟩, convs.out _ (below_drew1 (Below.refl _ _))⟩))
      (first
        | (go_at_call 16; refine (known_any w12).mono ?_; rintro e w13 ⟨rfl, hB⟩; have HB13 := Aside0.mk (HB12.out.trans (hB.mono HB12.out.size)); clear hB)
        | (go_at_call 20; refine (st_down S12.out).mono ?_; rw [r_down]; rintro e w14 ⟨rfl, rfl⟩)
        | (go_at_call 14; refine (st_ops S12.out).mono ?_; rw [r_N]; rintro e w14 ⟨rfl, rfl⟩)
        | (go_at_call 15; refine (st_read S11.out.drew 0).mono ?_; rw [P7.out]; rintro e w12 ⟨v0, rfl, hR, hS, hM, hB⟩; have S12 := Aside0.mk hS; obtain ⟨qr, cr, hv0, -, -, -, -, hC, -⟩ := R_plain hR (by have := HL.out; omega); rw [HL.out] at hv0; subst hv0; have hcvR := cs_str cr hC; rw [HL.out, ← SZ.out] at hcvR; have HB12 := Aside0.mk ((below_drew1 (Below.refl w11.heap.size w11)).trans (hB.mono (by simp))); clear hR hS hM hB hC))
    all_goals
      go_wp2
      go_ret
      exact ⟨rfl, S11.out.2.1.trans (HB13.out.mono S11.out.2.1.size)⟩
  · obtain rfl : kn = 16 := by omega
    have convs : Aside0 (∀ W', Below w11.heap.size w11 W' → (convert 26 9 (.slice (some ⟨qz, 0, none⟩) 16 cz)).run Try.prog W' = .ok (.string (sY ++ sX)) W' ∧ (convert 26 9 (.slice (some ⟨w2.heap.size, 0, none⟩) 16 16)).run Try.prog W' = .ok (.string sY) W' ∧ (convert 26 9 (.slice (some ⟨w1.heap.size, 0, none⟩) 0 0)).run Try.prog W' = .ok (.string sX) W') := ⟨fun W' hB => by
      have hzl : qz < w11.heap.size := (Array.getElem?_eq_some_iff.1 Z11.out).1
      have hyl : w2.heap.size < w11.heap.size := (Array.getElem?_eq_some_iff.1 HY.out).1
      have hxl : w1.heap.size < w11.heap.size := (Array.getElem?_eq_some_iff.1 HX.out).1
      have cz1 := hlc W' ((hB.block qz hzl).trans Z11.out)
      have cy1 : (Kd.int .u8).C W' (some ⟨w2.heap.size, 0, none⟩) (wh l1).length (wh l1) := Kd.C_int_cells (T := 5) (fr := (0, 0)) ((hB.block _ hyl).trans HY.out) rfl (by rw [wh_len]; omega)
      have cx1 : (Kd.int .u8).C W' (some ⟨w1.heap.size, 0, none⟩) (wh l0).length (wh l0) := Kd.C_int_cells (T := 5) (fr := (0, 0)) ((hB.block _ hxl).trans HX.out) rfl (by rw [wh_len]; omega)
      have cy2 := Kd.C_take (m := 16) cy1 (by rw [wh_len]; omega)
      have cx2 := Kd.C_drop (m := 16) (c := 16) cx1 (by rw [wh_len]; omega) (by rw [wh_len]; omega)
      rw [show ((wh l1).take 16).length = 16 by rw [List.length_take, wh_len]; omega] at cy2
      rw [show ((wh l0).drop 16).length = 16 - 16 by rw [List.length_drop, wh_len]] at cx2
      rw [if_pos rfl] at cx2
      rw [SZ.out, SY.out, SX.out]
      exact ⟨cs_str _ cz1, cs_str _ cy2, cs_str _ cx2⟩⟩
    go_region_held (fun w' => Aside0 (Below w11.heap.size w11 w') ∧ (convert 26 9 (.slice (some ⟨qz, 0, none⟩) 16 cz)).run Try.prog w' = .ok (.string (sY ++ sX)) w' ∧ (convert 26 9 (.slice (some ⟨w2.heap.size, 0, none⟩) 16 16)).run Try.prog w' = .ok (.string sY) w' ∧ (convert 26 9 (.slice (some ⟨w1.heap.size, 0, none⟩) 0 0)).run Try.prog w' = .ok (.string sX) w')
      (first
        | (exact ⟨⟨HB13.out⟩, convs.out _ HB13.out⟩)
        | (exact ⟨⟨HB12.out⟩, convs.out _ HB12.out⟩)
        | (exact ⟨⟨below_drew1 (Below.refl _ _)⟩, convs.out _ (below_drew1 (Below.refl _ _))⟩))
      (first
        | (go_at_call 16; refine (known_any w12).mono ?_; rintro e w13 ⟨rfl, hB⟩; have HB13 := Aside0.mk (HB12.out.trans (hB.mono HB12.out.size)); clear hB)
        | (go_at_call 20; refine (st_down S12.out).mono ?_; rw [r_down]; rintro e w14 ⟨rfl, rfl⟩)
        | (go_at_call 14; refine (st_ops S12.out).mono ?_; rw [r_N]; rintro e w14 ⟨rfl, rfl⟩)
        | (go_at_call 15; refine (st_read S11.out.drew 0).mono ?_; rw [P7.out]; rintro e w12 ⟨v0, rfl, hR, hS, hM, hB⟩; have S12 := Aside0.mk hS; obtain ⟨qr, cr, hv0, -, -, -, -, hC, -⟩ := R_plain hR (by have := HL.out; omega); rw [HL.out] at hv0; subst hv0; have hcvR := cs_str cr hC; rw [HL.out, ← SZ.out] at hcvR; have HB12 := Aside0.mk ((below_drew1 (Below.refl w11.heap.size w11)).trans (hB.mono (by simp))); clear hR hS hM hB hC))
    all_goals
      go_wp2
      go_ret
      exact ⟨rfl, S11.out.2.1.trans (HB13.out.mono S11.out.2.1.size)⟩
end Go.Proofs.Ytnahlhabhipfmaa.QDiskFlushed
