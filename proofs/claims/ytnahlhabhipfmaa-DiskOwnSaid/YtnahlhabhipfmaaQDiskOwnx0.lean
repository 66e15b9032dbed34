/- The contract of the law DiskOwn, by hand. -/
import Derived.Test.YtnahlhabhipfmaaDisk9
namespace Go.Proofs.Ytnahlhabhipfmaa.QDiskOwn
open Go.RowKit Go.Proofs.Ytnahlhabhipfmaa.QSpanCrash Go.Proofs.Ytnahlhabhipfmaa.Hnd Go.Proofs.YtnahlhabhipfmaaW.PrintWords Go.Proofs.YtnahlhabhipfmaaW.PrintLast Go.Proofs.YtnahlhabhipfmaaW.Dk 
set_option linter.unusedVariables false
set_option linter.unusedSimpArgs false
attribute [local go_sem] Oper.semAt_some
theorem St.setx {w0 W : World} {xs : List Nat} {g : Nat} {d : DS} (h : St w0 xs W g d) {x o : Nat} (hx : x ∈ xs) (h0 : w0.heap.size ≤ x) (v : Value) : St w0 xs (W.setCell ⟨x, o, none⟩ v) g d :=
  ⟨h.1.step (fun k hk _ => Below.heap_setCell _ _ _ _ (fun e => hk.2 (e ▸ hx))), h.2.1.setCell (p := ⟨x, o, none⟩) h0 _, fun y hy => by have := h.2.2 y hy; simpa [World.setCell] using this⟩
theorem cs_str {W : World} {A : Option Addr} {n : Nat} (c : Nat) {b : List Int} (h : (Kd.int .u8).C W A n b) : (convert 26 9 (.slice A n c)).run Try.prog W = .ok (.string (strOfNums b)) W :=
  Kd.C_string (P := Try.prog) (A := A) (c := c) Try.underlying26 Try.underlying5 Try.underlying9 h
def ow1 (x : List Int) : DS := { DS.new 3 with P := [(1, x)], N := 1 }
theorem ow_1 (x : List Int) (hx : x.length = 16) : (DS.new 3).wr 1 x = (ow1 x, 0) := by
  unfold DS.wr ow1
  rw [if_neg (by simp [DS.new]), if_neg (by omega), if_neg (by simp [DS.new]), if_neg (by simp [DS.new, DS.bad])]
  simp [DS.counted, DS.new, wrap64]
theorem ow_2 (x : List Int) : (ow1 x).fl.1.rd 1 = x := by
  unfold DS.fl ow1
  simp [DS.new, DS.bad, DS.counted, DS.flushed, DS.rd, DS.lastP]
def lazaruslaw3_DiskOwn.f (l0 : List Int) : Option Bool := some true
set_option maxHeartbeats 4000000 in
set_option maxRecDepth 100000 in
theorem lazaruslaw3_DiskOwn.calls (A0 : Option Addr) (c0 : Nat) (l0 : List Int) (r : Bool) (w : World) (hr0 : (Kd.int .u8).C w A0 l0.length l0) (hc0 : l0.length ≤ c0) (h : lazaruslaw3_DiskOwn.f l0 = some r) :
    Calls Try.prog 7 #[.slice A0 l0.length c0] w fun e w' => e = .returned (.bool r) ∧ Below w.heap.size w w' := by
  obtain rfl : true = r := Option.some.inj h
  have HR0 := Aside0.mk hr0
  have HC0 := Aside0.mk hc0
  clear hr0 hc0 h
  by_cases h0 : 16 < l0.length
  · have hd : decide ((l0.length : Int) > 16) = true := decide_eq_true (by omega)
    have hd2 : decide ((16 : Int) < (l0.length : Int)) = true := decide_eq_true (by omega)
    have hd3 : decide (16 < l0.length) = true := decide_eq_true (by omega)
    go_enter Try.func7, Try.ntmps7
    go_wp2_with (first
      | (go_at_call 12; refine (st_new 3 (by omega) w w1 HB1.out [] (fun x hx => by cases hx)).mono ?_; rintro e w2 ⟨rfl, hS, hM⟩; have S2 := Aside0.mk hS; clear hS hM)
      | (go_at_call 17; refine (whole_any A0 c0 l0 w HR0.out HC0.out).mono ?_; rintro e w1 ⟨rfl, hX, hz, hB⟩; have HB1 := Aside0.mk hB; clear hX hz hB))
    go_ret
    exact ⟨rfl, S2.out.2.1⟩
  have hd : decide ((l0.length : Int) > 16) = false := decide_eq_false (by omega)
  have hd2 : decide ((16 : Int) < (l0.length : Int)) = false := decide_eq_false (by omega)
  have hd3 : decide (16 < l0.length) = false := decide_eq_false (by omega)
  clear h0
  obtain ⟨sW, hsW⟩ : ∃ sW, sW = strOfNums (wh l0) := ⟨_, rfl⟩
  obtain ⟨b0, hb0⟩ : ∃ b0 : Int, b0 = (wh l0).getD 0 0 := ⟨_, rfl⟩
  have W0 := Aside0.mk (wh_len l0)
  have SW := Aside0.mk hsW
  have B0 := Aside0.mk hb0
  clear hsW hb0
  go_enter Try.func7, Try.ntmps7
  go_upto_region 12 with (first
    | (go_at_call 15; refine (st_read S5.out 1).mono ?_; rw [ow_2]; rintro e w6 ⟨v0, rfl, hR, hS, hM, hB⟩; obtain ⟨qy, cy, hv0, -, hq1, hq2, hfy, hC, hx⟩ := R_plain hR (by rw [wh_len]; omega); rw [wh_len] at hv0 hC; subst hv0; have hcy := hx 0 (by rw [wh_len]; omega); rw [← B0.out] at hcy; have hcvy := cs_str cy hC; rw [← SW.out] at hcvy; have S6 := Aside0.mk (S5.out.more hB qy hq1 hq2); have HQ : Aside0 (w.heap.size ≤ qy) := ⟨Nat.le_trans S5.out.2.1.size hq1⟩; clear hR hS hM hB hC hx hq1 hq2)
    | (go_at_call 18; refine (st_flush (St.setx S3.out (x := w.heap.size) (o := 0) (by simp) (Nat.le_refl _) _)).mono ?_; rintro e w5 ⟨rfl, hS, hM⟩; have S5 := Aside0.mk hS; clear hS hM)
    | (go_at_call 13; refine (st_write16 S2.out 1 w.heap.size (wh l0) (by simp) X2.out (wh_len _) (by simp [DS.new])).mono ?_; rw [ow_1 _ (wh_len _)]; rintro e w3 ⟨rfl, hS, hM⟩; have S3 := Aside0.mk hS; have X3 : Aside0 (SecAt w3 w.heap.size (wh l0)) := ⟨(hM _ (by simp)).trans X2.out⟩; have hfx : w3.frozen? ⟨w.heap.size, 0, none⟩ = false := blk_frozen X3.out 0; have hcx : w3.cell? ⟨w.heap.size, 0, none⟩ = some (.int .u8 b0) := (blk_cell X3.out 0).trans (by rw [B0.out, List.getElem?_toArray, List.getElem?_map, List.getD_eq_getElem?_getD, List.getElem?_eq_getElem (by rw [wh_len]; omega)]; rfl); clear hS hM)
    | (go_at_call 12; refine (st_new 3 (by omega) w w1 HB1.out [w.heap.size] (fun x hx => by have := HZ1.out; rw [List.mem_singleton.1 hx]; omega)).mono ?_; rintro e w2 ⟨rfl, hS, hM⟩; have S2 := Aside0.mk hS; have X2 : Aside0 (SecAt w2 w.heap.size (wh l0)) := ⟨(hM _ (by simp)).trans X1.out⟩; have hcv2 := cs_str 16 (Kd.C_int_cells (T := 5) (fr := (0, 0)) X2.out rfl (by rw [wh_len]; omega)); rw [wh_len, ← SW.out] at hcv2; clear hS hM)
    | (go_at_call 17; refine (whole_any A0 c0 l0 w HR0.out HC0.out).mono ?_; rintro e w1 ⟨rfl, hX, hz, hB⟩; have HB1 := Aside0.mk hB; have HZ1 := Aside0.mk hz; have X1 := Aside0.mk hX; clear hX hz hB))
  have S6' := S6
  clear S2 S3 S5 S6 X1 X2 X3 HB1 HZ1 hcv2 hfx hcx
  go_wp2_with (first
    | (go_at_call 16; refine (known_any w13).mono ?_; rintro e w14 ⟨rfl, hB⟩; have HB14 := Aside0.mk hB; clear hB)
    | (go_at_call 22; refine (size_nil _).mono ?_; rintro e w16 ⟨rfl, rfl⟩)
    | (go_at_call 14; refine (ops_nil _).mono ?_; rintro e w16 ⟨rfl, rfl⟩)
    | (go_at_call 15; refine (read_nil w12 _).mono ?_; rintro e w13 ⟨rfl, hB⟩; have S13 := Aside0.mk (S12.out.after hB); clear hB)
    | (go_at_call 20; refine (down_nil _).mono ?_; rintro e w16 ⟨rfl, rfl⟩)
    | (go_at_call 18; refine (flush_nil w11).mono ?_; rintro e w12 ⟨rfl, hB⟩; have S12 := Aside0.mk (S11.out.after hB); clear hB)
    | (go_at_call 13; refine (write_nil w10 _ _).mono ?_; rintro e w11 ⟨rfl, hB⟩; have S11 := Aside0.mk (S10.out.after hB); clear hB)
    | (go_at_call 15; refine (st_read S9.out 1).mono ?_; rw [ow_2]; rintro e w10 ⟨v0, rfl, hR, hS, hM, hB⟩; obtain ⟨qr, cr, hv0, -, hq1, hq2, -, hC, hx⟩ := R_plain hR (by rw [wh_len]; omega); rw [wh_len] at hv0 hC; subst hv0; have hcvr := cs_str cr hC; rw [← SW.out] at hcvr; have S10 := Aside0.mk hS; clear hR hS hM hB hC hx hq1 hq2)
    | (go_at_call 21; refine (restart_nil w8).mono ?_; rintro e w9 ⟨rfl, hB⟩; have S9 := Aside0.mk (S8.out.after hB); clear hB)
    | (go_at_call 19; refine (arm_nil _ _ _).mono ?_; rintro e w8 ⟨rfl, hB⟩; have S8 := Aside0.mk ((St.setx S6'.out (x := qy) (o := 0) (by simp) HQ.out _).after hB); clear hB))
  go_ret
  exact ⟨rfl, S13.out.2.1.trans (HB14.out.mono S13.out.2.1.size)⟩
end Go.Proofs.Ytnahlhabhipfmaa.QDiskOwn
