/- The contract of the law DiskLater, by hand. -/
import Derived.Test.YtnahlhabhipfmaaDisk9
namespace Go.Proofs.Ytnahlhabhipfmaa.QDiskLater
open Go.RowKit Go.Proofs.Ytnahlhabhipfmaa.QSpanCrash Go.Proofs.Ytnahlhabhipfmaa.Hnd Go.Proofs.YtnahlhabhipfmaaW.PrintWords Go.Proofs.YtnahlhabhipfmaaW.PrintLast Go.Proofs.YtnahlhabhipfmaaW.Dk 
set_option linter.unusedVariables false
set_option linter.unusedSimpArgs false
attribute [local go_sem] Oper.semAt_some
theorem later (a b : List Int) (ha : a.length = 16) (hb : b.length = 16) : ((DS.new 2).wr 1 a).2 = 0 ∧ ((DS.new 2).wr 1 a).1.P.length < 1099511627776 ∧ (((DS.new 2).wr 1 a).1.wr 1 b).2 = 0 ∧
    (((DS.new 2).wr 1 a).1.wr 1 b).1.rd 1 = b ∧ (((DS.new 2).wr 1 a).1.wr 1 b).1.rd 0 = wh [] ∧ (((DS.new 2).wr 1 a).1.wr 1 b).1.fl.2 = 0 ∧ (((DS.new 2).wr 1 a).1.wr 1 b).1.fl.1.rd 1 = b ∧ (((DS.new 2).wr 1 a).1.wr 1 b).1.fl.1.rd 0 = wh [] := by
  refine ⟨?_, ?_, ?_, ?_, ?_, ?_, ?_, ?_⟩
  all_goals simp [DS.wr, DS.new, ha, hb, DS.bad, DS.counted, DS.rd, DS.lastP, DS.fl, DS.flushed, wh]
def lazaruslaw3_DiskLater.f (l0 : List Int) (l1 : List Int) (a2 : Bool) : Option Bool := some true
set_option maxHeartbeats 4000000 in
set_option maxRecDepth 100000 in
theorem lazaruslaw3_DiskLater.calls (A0 : Option Addr) (c0 : Nat) (l0 : List Int) (A1 : Option Addr) (c1 : Nat) (l1 : List Int) (a2 : Bool) (r : Bool) (w : World) (hr0 : (Kd.int .u8).C w A0 l0.length l0) (hc0 : l0.length ≤ c0) (hr1 : (Kd.int .u8).C w A1 l1.length l1) (hc1 : l1.length ≤ c1) (h : lazaruslaw3_DiskLater.f l0 l1 a2 = some r) :
    Calls Try.prog 4 #[.slice A0 l0.length c0, .slice A1 l1.length c1, .bool a2] w fun e w' => e = .returned (.bool r) ∧ Below w.heap.size w w' := by
  obtain rfl : true = r := Option.some.inj h
  have HR0 := Aside0.mk hr0
  have HR1 := Aside0.mk hr1
  have HC0 := Aside0.mk hc0
  have HC1 := Aside0.mk hc1
  clear hr0 hr1 hc0 hc1 h
  by_cases h0 : 16 < l0.length
  · have hd : decide ((l0.length : Int) > 16) = true := decide_eq_true (by omega)
    have hd2 : decide ((16 : Int) < (l0.length : Int)) = true := decide_eq_true (by omega)
    have hd3 : decide (16 < l0.length) = true := decide_eq_true (by omega)
    go_enter Try.func4, Try.ntmps4
    go_wp2
    go_ret
    exact ⟨rfl, Below.refl _ _⟩
  by_cases h1 : 16 < l1.length
  · have hd : decide ((l0.length : Int) > 16) = false := decide_eq_false (by omega)
    have hd2 : decide ((16 : Int) < (l0.length : Int)) = false := decide_eq_false (by omega)
    have hd3 : decide (16 < l0.length) = false := decide_eq_false (by omega)
    have he : decide ((l1.length : Int) > 16) = true := decide_eq_true (by omega)
    have he2 : decide ((16 : Int) < (l1.length : Int)) = true := decide_eq_true (by omega)
    have he3 : decide (16 < l1.length) = true := decide_eq_true (by omega)
    go_enter Try.func4, Try.ntmps4
    go_wp2
    go_ret
    exact ⟨rfl, Below.refl _ _⟩
  have hd : decide ((l0.length : Int) > 16) = false := decide_eq_false (by omega)
  have hd2 : decide ((16 : Int) < (l0.length : Int)) = false := decide_eq_false (by omega)
  have hd3 : decide (16 < l0.length) = false := decide_eq_false (by omega)
  have he : decide ((l1.length : Int) > 16) = false := decide_eq_false (by omega)
  have he2 : decide ((16 : Int) < (l1.length : Int)) = false := decide_eq_false (by omega)
  have he3 : decide (16 < l1.length) = false := decide_eq_false (by omega)
  clear h0 h1
  obtain ⟨q1, q2, q3, q4, q5, q6, q7, q8⟩ := later (wh l0) (wh l1) (wh_len _) (wh_len _)
  obtain ⟨d1, hd1⟩ : ∃ d1, d1 = ((DS.new 2).wr 1 (wh l0)).1 := ⟨_, rfl⟩
  obtain ⟨d2, hd2'⟩ : ∃ d2, d2 = (d1.wr 1 (wh l1)).1 := ⟨_, rfl⟩
  rw [← hd1] at q2 q3 q4 q5 q6 q7 q8
  rw [← hd2'] at q4 q5 q6 q7 q8
  obtain ⟨d3, hd3', r4, r5⟩ : ∃ d3, (d3 = if a2 = true then d2.fl.1 else d2) ∧ d3.rd 1 = wh l1 ∧ d3.rd 0 = wh [] := ⟨_, rfl, by cases a2 <;> simp_all, by cases a2 <;> simp_all⟩
  have Q1 := Aside0.mk q1
  have Q2 := Aside0.mk q2
  have Q3 := Aside0.mk q3
  have Q6 := Aside0.mk q6
  have R4 := Aside0.mk r4
  have R5 := Aside0.mk r5
  have D1 := Aside0.mk hd1
  have D2 := Aside0.mk hd2'
  have D3 := Aside0.mk hd3'
  clear q1 q2 q3 q4 q5 q6 q7 q8 r4 r5 hd1 hd2' hd3'
  cases a2
  all_goals go_enter Try.func4, Try.ntmps4
  all_goals
    go_upto_region 7 with (first
      | (go_at_call 18; refine (st_flush S5.out).mono ?_; rw [Q6.out]; rintro e w6 ⟨rfl, hS, hM⟩; have S6 := Aside0.mk hS; clear hS hM)
      | (go_at_call 13; refine (st_write16 S4.out 1 w3.heap.size (wh l1) (by simp) X4.out (wh_len _) Q2.out).mono ?_; rw [Q3.out, ← D2.out]; rintro e w5 ⟨rfl, hS, hM⟩; have S5 := Aside0.mk hS; clear hS hM)
      | (go_at_call 17; refine (whole_any A1 c1 l1 w3 (Kd.C_below HR1.out S3.out.2.1) HC1.out).mono ?_; rintro e w4 ⟨rfl, hX, hz, hB⟩; have S4 : Aside0 (St w [w3.heap.size, w1.heap.size] w4 w.heap.size d1) := ⟨S3.out.more hB _ (Nat.le_refl _) (by omega)⟩; have X4 := Aside0.mk hX; clear hX hz hB)
      | (go_at_call 13; refine (st_write16 S2.out 1 w1.heap.size (wh l0) (by simp) X2.out (wh_len _) (by simp [DS.new])).mono ?_; rw [Q1.out, ← D1.out]; rintro e w3 ⟨rfl, hS, hM⟩; have S3 := Aside0.mk hS; clear hS hM)
      | (go_at_call 17; refine (whole_any A0 c0 l0 w1 (Kd.C_below HR0.out S1.out.2.1) HC0.out).mono ?_; rintro e w2 ⟨rfl, hX, hz, hB⟩; have S2 : Aside0 (St w [w1.heap.size] w2 w.heap.size (DS.new 2)) := ⟨S1.out.more hB _ (Nat.le_refl _) (by omega)⟩; have X2 := Aside0.mk hX; clear hX hz hB)
      | (go_at_call 12; refine (st_new 2 (by omega) w _ (Below.refl _ _) [] (fun x hx => by cases hx)).mono ?_; rintro e w1 ⟨rfl, hS, hM⟩; have S1 := Aside0.mk hS; clear hS hM))
  all_goals rename World => wz
  all_goals
    have S7 : Aside0 (St w [w3.heap.size, w1.heap.size] wz w.heap.size d3) := ⟨by rw [D3.out]; first | exact S6.out | exact S5.out⟩
    (try clear S6)
    clear S1 S2 S3 S4 S5 X2 X4 D1 D2 D3 Q1 Q2 Q3 Q6
    go_region_held (fun _ => True) (trivial) (first
      | (go_at_call 16; refine (known_any w11).mono ?_; rintro e w12 ⟨rfl, hB⟩; have HB12 := Aside0.mk hB; clear hB)
      | (go_at_call 17; refine (whole_any none 0 [] w10 (Kd.C_nil _ _) (Nat.le_refl _)).mono ?_; rintro e w11 ⟨rfl, hX, hz, hB⟩; have S11 := Aside0.mk (S10.out.after hB); have hcvC' := Kd.C_string (P := Try.prog) (A := some ⟨qc, 0, none⟩) (c := cc) Try.underlying26 Try.underlying5 Try.underlying9 (Kd.C_below CC.out hB); have hcvD := Kd.C_string (P := Try.prog) (A := some ⟨w10.heap.size, 0, none⟩) (c := 16) Try.underlying26 Try.underlying5 Try.underlying9 (Kd.C_int_cells hX rfl (by rw [wh_len]; omega)); rw [wh_len] at hcvC' hcvD; clear hX hz hB)
      | (go_at_call 15; refine (st_read S9.out 0).mono ?_; rw [R5.out]; rintro e w10 ⟨v0, rfl, hR, hS, hM, hB⟩; have S10 := Aside0.mk hS; obtain ⟨qc, cc, hv0, -, -, -, -, hC, -⟩ := R_plain hR (by rw [wh_len]; omega); rw [wh_len] at hv0; subst hv0; have hcvC := Kd.C_string (P := Try.prog) (A := some ⟨qc, 0, none⟩) (c := cc) Try.underlying26 Try.underlying5 Try.underlying9 hC; rw [wh_len] at hcvC; have CC := Aside0.mk hC; clear hR hS hM hB hC)
      | (go_at_call 17; refine (whole_any A1 c1 l1 w8 (Kd.C_below HR1.out S8.out.2.1) HC1.out).mono ?_; rintro e w9 ⟨rfl, hX, hz, hB⟩; have S9 := Aside0.mk (S8.out.after hB); have hcvA' := Kd.C_string (P := Try.prog) (A := some ⟨qa, 0, none⟩) (c := ca) Try.underlying26 Try.underlying5 Try.underlying9 (Kd.C_below CA.out hB); have hcvB := Kd.C_string (P := Try.prog) (A := some ⟨w8.heap.size, 0, none⟩) (c := 16) Try.underlying26 Try.underlying5 Try.underlying9 (Kd.C_int_cells hX rfl (by rw [wh_len]; omega)); rw [wh_len] at hcvA' hcvB; clear hX hz hB)
      | (go_at_call 15; refine (st_read S7.out.drew 1).mono ?_; rw [R4.out]; rintro e w8 ⟨v0, rfl, hR, hS, hM, hB⟩; have S8 := Aside0.mk hS; obtain ⟨qa, ca, hv0, -, -, -, -, hC, -⟩ := R_plain hR (by rw [wh_len]; omega); rw [wh_len] at hv0; subst hv0; have hcvA := Kd.C_string (P := Try.prog) (A := some ⟨qa, 0, none⟩) (c := ca) Try.underlying26 Try.underlying5 Try.underlying9 hC; rw [wh_len] at hcvA; have CA := Aside0.mk hC; clear hR hS hM hB hC))
  all_goals
    go_wp2
    go_ret
    exact ⟨rfl, S11.out.2.1.trans (HB12.out.mono S11.out.2.1.size)⟩
end Go.Proofs.Ytnahlhabhipfmaa.QDiskLater
