/- The contract of the law SpanRoom, by hand. -/
import Derived.Test.YtnahlhabhipfmaaSpan8
import Derived.RangeFuncNested
import Derived.RangeFuncBound
import Derived.RangeFuncCalls
import Derived.RangeFuncLeaves
import Derived.RangeFuncBox
import Derived.Shelf.Abstract
import Derived.Shelf.RegionOpen
import Derived.OwnWalkIn
import Derived.TacticsInMore
import Derived.LoopNIn
import Derived.LoopIn
namespace Go.Proofs.Ytnahlhabhipfmaa.QSpanRoom
open Go.RowKit Go.Proofs.Ytnahlhabhipfmaa.QSpanCrash Go.Proofs.Ytnahlhabhipfmaa.Hnd Go.Proofs.YtnahlhabhipfmaaW.PrintWords Go.Proofs.YtnahlhabhipfmaaW.PrintLast Go.Proofs.YtnahlhabhipfmaaW.Dk Go.Shelf
set_option linter.unusedVariables false
set_option linter.unusedSimpArgs false
attribute [local go_sem] Oper.semAt_some
theorem room_rd (A0 : Option Addr) (c0 : Nat) (l0 : List Int) (w : World) (hr0 : (Kd.int .u8).C w A0 l0.length l0) : Rd w [] w A0 l0 :=
  ⟨hr0, fun ad e hp => by
    subst e
    have := Kd.C_lt hr0 hp (by decide)
    exact ⟨.inl this, this⟩⟩
set_option maxHeartbeats 4000000 in
set_option maxRecDepth 100000 in
theorem room_low (A0 : Option Addr) (c0 : Nat) (l0 : List Int) (a1 : Int) (w : World) (hr0 : (Kd.int .u8).C w A0 l0.length l0) (hc0 : l0.length ≤ c0) (hb : l0.length ≤ 100) (h0 : 0 ≤ a1) (h1 : a1 ≤ 20) (hlow : a1 < (DS.need l0.length : Int)) :
    Calls Try.prog 10 #[.slice A0 l0.length c0, .int .i64 a1] w fun e w' => e = .returned (.bool true) ∧ Below w.heap.size w w' := by
  have d0 : decide ((l0.length : Int) > 100) = false := decide_eq_false (by omega)
  have d0' : decide ((100 : Int) < (l0.length : Int)) = false := decide_eq_false (by omega)
  have d0'' : decide (100 < l0.length) = false := decide_eq_false (by omega)
  have d1 : decide (a1 < 0) = false := decide_eq_false (by omega)
  have d2 : decide (a1 > 20) = false := decide_eq_false (by omega)
  have d2' : decide (20 < a1) = false := decide_eq_false (by omega)
  have HR := Aside0.mk (room_rd A0 c0 l0 w hr0)
  have HC := Aside0.mk hc0
  have HB := Aside0.mk hb
  have HP : Aside0 (DS.put crcO (DS.new 30) 3 a1 9 l0 = (DS.new 30, 4)) := ⟨DS.put_full crcO _ _ _ _ _ hlow⟩
  have HG : Aside0 (DS.get crcO (DS.new 30) 3 20 = (0, [], false)) := ⟨DS.get_zero (by rw [show (3 : Int) = ((3 : Nat) : Int) from rfl, DS.new_rd 30 3 (by decide)]; rfl)⟩
  generalize hnd : (DS.need l0.length : Int) = nd at hlow
  have ND := Aside0.mk hnd
  have d3 : decide (a1 < nd) = true := decide_eq_true hlow
  clear hr0 hc0 hb h0 h1 hlow hnd
  go_enter Try.func10, Try.ntmps10
  go_wp2_with (first
    | (go_at_call 25; refine (known4_any w4).mono ?_; rintro e w6 ⟨rfl, hB⟩; have B6 := Aside0.mk (S4.out.2.1.trans (hB.mono S4.out.2.1.size)); clear hB)
    | (go_at_call 14; refine (st_ops S4.out).mono ?_; rw [show (DS.new 30).N = 0 from rfl]; rintro e w7 ⟨rfl, rfl⟩)
    | (go_at_call 23; refine (need_c l0.length (by have := HB.out; omega) w3).mono ?_; rw [ND.out]; rintro e w4 ⟨rfl, hB⟩; have S4 := Aside0.mk (S3.out.after hB); clear hB)
    | (go_at_call 27; refine (st_get S2.out 3 20 (DS.new_bytes 30) (by decide) (by rw [DS.new_len]; decide) (by decide) (by decide)).mono ?_; rw [HG.out]; rintro e w3 ⟨v, rfl, hR, hS, hB⟩; have S3 := Aside0.mk hS; clear hR hS hB)
    | (go_at_call 26; refine (st_putS S1.out 3 a1 9 A0 c0 l0 (HR.out.step' (Below.refl _ _) S1.out.2.1 (fun x hx => by cases hx) (fun x hx => by cases hx)) HC.out (by have := HB.out; omega) (by decide) (by decide) (by decide)).mono ?_; rw [HP.out]; rintro e w2 ⟨rfl, hS, hM, hZ⟩; have S2 := Aside0.mk hS; clear hS hM hZ)
    | (go_at_call 12; refine (st_new 30 (by decide) w _ (Below.refl _ _) [] (fun x hx => by cases hx)).mono ?_; rintro e w1 ⟨rfl, hS, hM⟩; have S1 := Aside0.mk hS; clear hS hM))
  go_ret
  exact ⟨rfl, B6.out⟩
set_option maxHeartbeats 4000000 in
set_option maxRecDepth 100000 in
theorem room_high (A0 : Option Addr) (c0 : Nat) (l0 : List Int) (a1 : Int) (w : World) (hr0 : (Kd.int .u8).C w A0 l0.length l0) (hc0 : l0.length ≤ c0) (hby : DS.Bytes l0) (hb : l0.length ≤ 100) (h0 : 0 ≤ a1) (h1 : a1 ≤ 20) (hhigh : ¬ a1 < (DS.need l0.length : Int)) :
    Calls Try.prog 10 #[.slice A0 l0.length c0, .int .i64 a1] w fun e w' => e = .returned (.bool true) ∧ Below w.heap.size w w' := by
  have d0 : decide ((l0.length : Int) > 100) = false := decide_eq_false (by omega)
  have d0' : decide ((100 : Int) < (l0.length : Int)) = false := decide_eq_false (by omega)
  have d0'' : decide (100 < l0.length) = false := decide_eq_false (by omega)
  have d1 : decide (a1 < 0) = false := decide_eq_false (by omega)
  have d2 : decide (a1 > 20) = false := decide_eq_false (by omega)
  have d2' : decide (20 < a1) = false := decide_eq_false (by omega)
  have hn8 : DS.need l0.length ≤ 8 := by unfold DS.need; omega
  have hn1 : 1 ≤ DS.need l0.length := by unfold DS.need; omega
  obtain ⟨e1, p1, p2, p3, p4⟩ := DS.put_ok crcO (DS.new 30) (DS.new_calm 30) 3 a1 9 l0 (by omega) (by rw [DS.new_len]; omega)
  have q1 : e1.AllB := by have := DS.put_bytes (crc := crcO) (DS.new_bytes 30) 3 a1 9 hby; rw [show (3 : Int) = ((3 : Nat) : Int) from rfl, p1] at this; exact this
  have q2 : e1.S.length = 30 := p3.1.trans (DS.new_len 30)
  have g1 := p4.get (room := 20) p2.1 (crcO_lo l0) (crcO_hi l0) (by decide) (by decide) (by omega) (by omega) (by omega)
  have g2 : DS.get crcO e1 ((3 : Nat) : Int) ((DS.need l0.length : Int) - 1) = (0, [], false) := DS.get_narrow (by omega) ((DS.rd_nil p2.1 3).trans p4.1) (by omega)
  obtain ⟨e2, r1, r2, r3, r4⟩ := DS.puth_ok e1 p2 3 (List.replicate 16 0) rfl (by omega)
  have q3 : e2.AllB := by have := DS.puth_bytes q1 ((3 : Nat) : Int) (DS.bytes_zero 16); rw [r1] at this; exact this
  have q4 : e2.S.length = 30 := r3.1.trans q2
  have g3 : DS.get crcO e2 ((3 : Nat) : Int) 20 = (0, [], false) := DS.get_zero (by rw [DS.rd_nil r2.1 3, r4]; rfl)
  have HR := Aside0.mk (room_rd A0 c0 l0 w hr0)
  have HC := Aside0.mk hc0
  have HB := Aside0.mk hb
  have P1 := Aside0.mk p1
  have R1 := Aside0.mk r1
  have G1 := Aside0.mk g1
  have G3 := Aside0.mk g3
  have Q1 := Aside0.mk q1
  have Q2 : Aside0 (e1.S.length ≤ 4000) := ⟨by omega⟩
  have Q3 := Aside0.mk q3
  have Q4 : Aside0 (e2.S.length ≤ 4000) := ⟨by omega⟩
  have E1P : Aside0 (e1.P.length < 1099511627776) := ⟨by rw [p2.1]; decide⟩
  generalize hnd : (DS.need l0.length : Int) = nd at hhigh g2
  have G2 := Aside0.mk g2
  have ND := Aside0.mk hnd
  have d3 : decide (a1 < nd) = false := decide_eq_false hhigh
  have hnd1 : 1 ≤ nd := by omega
  have hnd2 : nd ≤ 8 := by omega
  clear hr0 hc0 hb h0 h1 hhigh hnd hby hn8 hn1 p1 p2 p3 p4 q1 q2 g1 g2 r1 r2 r3 r4 q3 q4 g3
  go_enter Try.func10, Try.ntmps10
  go_wp2_with (first
    | (go_at_call 25; refine (known4_any w8).mono ?_; rintro e w9 ⟨rfl, hB⟩; have B9 := Aside0.mk (S8.out.2.1.trans (hB.mono S8.out.2.1.size)); clear hB)
    | (go_at_call 27; refine (st_get S7.out 3 20 Q3.out (by decide) Q4.out (by decide) (by decide)).mono ?_; rw [show (3 : Int) = ((3 : Nat) : Int) from rfl, G3.out]; rintro e w8 ⟨v8, rfl, hR, hS, hB⟩; have S8 := Aside0.mk hS; clear hR hS hB)
    | (go_at_call 28; refine (st_clear S6.out 3 E1P.out).mono ?_; rw [show (3 : Int) = ((3 : Nat) : Int) from rfl, R1.out]; rintro e w7 ⟨rfl, hS, hM⟩; have S7 := Aside0.mk hS; clear hS hM)
    | (go_at_call 27; refine (st_get S5.out 3 (nd - 1) Q1.out (by decide) Q2.out (by omega) (by omega)).mono ?_; rw [show (3 : Int) = ((3 : Nat) : Int) from rfl, G2.out]; rintro e w6 ⟨v6, rfl, hR, hS, hB⟩; have S6 := Aside0.mk hS; clear hR hS hB)
    | (go_at_call 23; refine (need_c l0.length (by have := HB.out; omega) w4).mono ?_; rw [ND.out]; rintro e w5 ⟨rfl, hB⟩; have S5 := Aside0.mk (S4.out.after hB); clear hB)
    | (go_at_call 23; refine (need_c l0.length (by have := HB.out; omega) w3).mono ?_; rw [ND.out]; rintro e w4 ⟨rfl, hB⟩; have S4 := Aside0.mk (S3.out.after hB); clear hB)
    | (go_at_call 27; refine (st_get S2.out 3 20 Q1.out (by decide) Q2.out (by decide) (by decide)).mono ?_; rw [show (3 : Int) = ((3 : Nat) : Int) from rfl, G1.out]; rintro e w3 ⟨v3, rfl, hR, hS, hB⟩; have S3 := Aside0.mk hS; clear hR hS hB)
    | (go_at_call 26; refine (st_putS S1.out 3 a1 9 A0 c0 l0 (HR.out.step' (Below.refl _ _) S1.out.2.1 (fun x hx => by cases hx) (fun x hx => by cases hx)) HC.out (by have := HB.out; omega) (by decide) (by decide) (by decide)).mono ?_; rw [show (3 : Int) = ((3 : Nat) : Int) from rfl, P1.out]; rintro e w2 ⟨rfl, hS, hM, hZ⟩; have S2 := Aside0.mk hS; clear hS hM hZ)
    | (go_at_call 12; refine (st_new 30 (by decide) w _ (Below.refl _ _) [] (fun x hx => by cases hx)).mono ?_; rintro e w1 ⟨rfl, hS, hM⟩; have S1 := Aside0.mk hS; clear hS hM))
  go_ret
  exact ⟨rfl, B9.out⟩
def lazaruslaw4_SpanRoom.f (l0 : List Int) (a1 : Int) : Option Bool := if DS.isB l0 = true then some true else none
set_option maxHeartbeats 4000000 in
set_option maxRecDepth 100000 in
theorem lazaruslaw4_SpanRoom.calls (A0 : Option Addr) (c0 : Nat) (l0 : List Int) (a1 : Int) (r : Bool) (w : World) (hr0 : (Kd.int .u8).C w A0 l0.length l0) (hc0 : l0.length ≤ c0) (h : lazaruslaw4_SpanRoom.f l0 a1 = some r) :
    Calls Try.prog 10 #[.slice A0 l0.length c0, .int .i64 a1] w fun e w' => e = .returned (.bool r) ∧ Below w.heap.size w w' := by
  unfold lazaruslaw4_SpanRoom.f at h
  by_cases hB : DS.isB l0 = true
  · rw [if_pos hB] at h
    obtain rfl : true = r := Option.some.inj h
    clear h
    by_cases hout : 100 < l0.length ∨ a1 < 0 ∨ 20 < a1
    · clear hr0 hc0 hB
      go_enter Try.func10, Try.ntmps10
      cases d0 : decide (100 < l0.length)
      · have d0' : decide ((l0.length : Int) > 100) = false := by rw [decide_eq_false_iff_not] at d0; exact decide_eq_false (by omega)
        have d0'' : decide ((100 : Int) < (l0.length : Int)) = false := d0'
        cases d1 : decide (a1 < 0)
        · have d2 : decide (20 < a1) = true := by
            rw [decide_eq_false_iff_not] at d0 d1
            exact decide_eq_true (by omega)
          have d2' : decide (a1 > 20) = true := d2
          go_wp2
          go_ret
          exact ⟨rfl, Below.refl _ _⟩
        · go_wp2
          go_ret
          exact ⟨rfl, Below.refl _ _⟩
      · have d0' : decide ((l0.length : Int) > 100) = true := by rw [decide_eq_true_iff] at d0; exact decide_eq_true (by omega)
        have d0'' : decide ((100 : Int) < (l0.length : Int)) = true := d0'
        go_wp2
        go_ret
        exact ⟨rfl, Below.refl _ _⟩
    · by_cases hn : a1 < (DS.need l0.length : Int)
      · exact room_low A0 c0 l0 a1 w hr0 hc0 (by omega) (by omega) (by omega) hn
      · exact room_high A0 c0 l0 a1 w hr0 hc0 (DS.isB_bytes hB) (by omega) (by omega) (by omega) hn
  · rw [if_neg hB] at h
    cases h
end Go.Proofs.Ytnahlhabhipfmaa.QSpanRoom
