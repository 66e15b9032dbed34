/- The contract of the law SpanCrash, by hand. -/
import Derived.Test.YtnahlhabhipfmaaSpan8
import Derived.RangeFuncNested
import Derived.RangeFuncBound
import Derived.RangeFuncCalls
import Derived.RangeFuncLeaves
import Derived.RangeFuncBox
import Derived.Shelf.Abstract
import Derived.Shelf.RegionOpen
import Derived.OwnWalkIn
import Derived.TacticsInMore
import Derived.LoopNIn
import Derived.LoopIn
namespace Go.Proofs.Ytnahlhabhipfmaa.LSpanCrash
open Go.RowKit Go.Proofs.Ytnahlhabhipfmaa.QSpanCrash Go.Proofs.Ytnahlhabhipfmaa.Hnd Go.Proofs.YtnahlhabhipfmaaW.PrintWords Go.Proofs.YtnahlhabhipfmaaW.PrintLast Go.Proofs.YtnahlhabhipfmaaW.Dk Go.Shelf
set_option linter.unusedVariables false
set_option linter.unusedSimpArgs false
attribute [local go_sem] Oper.semAt_some
theorem room_rd (A0 : Option Addr) (l0 : List Int) (w : World) (hr0 : (Kd.int .u8).C w A0 l0.length l0) : Rd w [] w A0 l0 :=
  ⟨hr0, fun ad e hp => by
    subst e
    have := Kd.C_lt hr0 hp (by decide)
    exact ⟨.inl this, this⟩⟩
/-- What is got behind a crash within a span's writing over another one. -/
theorem crash_plain (a b : List Int) (s t at_ : Int) (left : List Int) (s0 : 0 ≤ s) (s1 : s < 4294967296) (t0 : 0 < t) (t1 : t < 4294967296) (hst : s ≠ t) (ha : a.length ≤ 200) (hb : b.length ≤ 200) :
    ∃ e1 e4 E u lb ok, DS.put crcO (DS.new 20) 2 18 s a = (e1, 0) ∧ e1.Calm ∧ DS.put crcO (e1.restart.arm at_ left) 2 18 t b = (e4, E) ∧ e4.S.length = 20 ∧ DS.get crcO e4.restart 2 18 = (u, lb, ok) ∧
      ((E = 0 ∧ u = t ∧ lb = b ∧ ok = true) ∨ (E = 5 ∧ ok = false) ∨ (E = 5 ∧ ok = true ∧ u ≠ t) ∨ (E = 5 ∧ u = t ∧ lb = b ∧ ok = true)) := by
  have na : DS.need a.length ≤ 14 := by unfold DS.need; omega
  have nb : DS.need b.length ≤ 14 := by unfold DS.need; omega
  obtain ⟨e1, p1, p2, p3, p4⟩ := DS.put_ok crcO (DS.new 20) (DS.new_calm 20) 2 18 s a (by omega) (by rw [DS.new_len]; omega)
  have hl1 : e1.S.length = 20 := p3.1.trans (DS.new_len 20)
  have hpr := DS.put_res crcO (e1.restart.arm at_ left) rfl rfl 2 18 t b (by omega) (by show _ ≤ e1.S.length; omega)
  obtain ⟨q1, q2, q3, q4, q5, q6⟩ := hpr
  have hold : (e1.restart.arm at_ left).S.getD 2 [] = DS.head crcO s a := p4.1
  obtain ⟨r, hr⟩ : ∃ r, DS.put crcO (e1.restart.arm at_ left) ((2 : Nat) : Int) 18 t b = r := ⟨_, rfl⟩
  rw [hr] at q1 q2 q3 q4 q5 q6
  have hl4 : r.1.S.length = 20 := q5.1.trans hl1
  have hrd : r.1.restart.rd ((2 : Nat) : Int) = r.1.S.getD 2 [] := DS.rd_nil rfl 2
  have hwhole : r.1.S.getD 2 [] = DS.head crcO t b → (∀ k, k < (DS.chunks b).length → r.1.S.getD (2 + 1 + k) [] = (DS.chunks b).getD k []) → DS.get crcO r.1.restart ((2 : Nat) : Int) 18 = (t, b, true) := fun h1 h2 =>
    DS.Lies.get (crc := crcO) (d := r.1.restart) ⟨h1, h2⟩ rfl (crcO_lo b) (crcO_hi b) t0 t1 (by omega) (by omega) (by show _ ≤ r.1.S.length; omega)
  obtain ⟨G, hG⟩ : ∃ G, DS.get crcO r.1.restart ((2 : Nat) : Int) 18 = G := ⟨_, rfl⟩
  refine ⟨e1, r.1, r.2, G.1, G.2.1, G.2.2, p1, p2, hr, hl4, hG, ?_⟩
  rcases q6 with ⟨c1, c2, c3, c4⟩ | ⟨c0, c1, c2, c3⟩
  · rw [hwhole c3 c4] at hG
    subst hG
    exact .inl ⟨c1, rfl, rfl, rfl⟩
  · rcases DS.get_tag crcO r.1.restart ((2 : Nat) : Int) 18 with g | ⟨g1, g2, g3, g4, g5⟩
    · rw [hG] at g
      subst g
      exact .inr (.inl ⟨c1, rfl⟩)
    · rw [hG] at g1 g5
      by_cases hu : G.1 = t
      · refine .inr (.inr (.inr ⟨c1, hu, ?_, g5⟩))
        rw [hrd] at g1 g2
        have ht : DS.get4 ((r.1.S.getD 2 []).drop 12) = t := by rw [← g2, ← g1, hu]
        rcases c3 with c3 | ⟨⟨n, hn, c3⟩, c4⟩
        · exfalso
          rw [c3, hold, DS.head_12 s0 s1] at ht
          exact hst ht
        · rw [hold] at c3
          rw [c3] at ht
          have hw := DS.lay_whole hn (by omega) t1 hst (DS.head crcO s a) (DS.head_len _ _ _) (DS.head_bytes _ _ _) (DS.head_12 s0 s1) ht
          have := hwhole (c3.trans hw) c4
          rw [hG] at this
          rw [this]
      · exact .inr (.inr (.inl ⟨c1, g5, hu⟩))
set_option maxHeartbeats 4000000 in
set_option maxRecDepth 100000 in
theorem crash_core (A0 : Option Addr) (c0 : Nat) (l0 : List Int) (A1 : Option Addr) (c1 : Nat) (l1 : List Int) (a2 a3 a4 : Int) (A5 : Option Addr) (c5 : Nat) (l5 : List S40) (w : World) (hr0 : (Kd.int .u8).C w A0 l0.length l0) (hc0 : l0.length ≤ c0) (hr1 : (Kd.int .u8).C w A1 l1.length l1) (hc1 : l1.length ≤ c1) (hr5 : Kd.C k40 w A5 l5.length l5) (hc5 : l5.length ≤ c5)
    (b0 : DS.Bytes l0) (b1 : DS.Bytes l1) (s0 : 0 ≤ a2) (s1 : a2 < 4294967296) (t0 : 0 ≤ a3) (t1 : a3 < 4294967296) (h0 : l0.length ≤ 200) (h1 : l1.length ≤ 200) (h2 : a2 ≠ a3) (h3 : a3 ≠ 0) (h4 : l5.length ≤ 50) (h5 : 0 ≤ a4) :
    Calls Try.prog 11 #[.slice A0 l0.length c0, .slice A1 l1.length c1, .int .u32 a2, .int .u32 a3, .int .i64 a4, .slice A5 l5.length c5] w fun e w' => e = .returned (.bool true) ∧ Below w.heap.size w w' := by
  obtain ⟨e1, e4, E, u, lb, ok, p1, p2, p3, p4, p5, hcase⟩ := crash_plain l0 l1 a2 a3 a4 (l5.map fun x => x.f0) s0 s1 (by omega) t1 h2 h0 h1
  have d0 : decide ((l0.length : Int) > 200) = false := decide_eq_false (by omega)
  have d0' : decide ((200 : Int) < (l0.length : Int)) = false := decide_eq_false (by omega)
  have d0'' : decide (200 < l0.length) = false := decide_eq_false (by omega)
  have d1 : decide ((l1.length : Int) > 200) = false := decide_eq_false (by omega)
  have d1' : decide ((200 : Int) < (l1.length : Int)) = false := decide_eq_false (by omega)
  have d1'' : decide (200 < l1.length) = false := decide_eq_false (by omega)
  have d2 : (a2 == a3) = false := beq_eq_false_iff_ne.2 h2
  have d2' : decide (a2 = a3) = false := decide_eq_false h2
  have d3 : (a3 == 0) = false := beq_eq_false_iff_ne.2 h3
  have d3' : decide (a3 = 0) = false := decide_eq_false h3
  have d4 : decide ((l5.length : Int) > 50) = false := decide_eq_false (by omega)
  have d4' : decide ((50 : Int) < (l5.length : Int)) = false := decide_eq_false (by omega)
  have d4'' : decide (50 < l5.length) = false := decide_eq_false (by omega)
  have d5 : decide (a4 < 0) = false := decide_eq_false (by omega)
  have HR0 := Aside0.mk (room_rd A0 l0 w hr0)
  have HR1 := Aside0.mk (room_rd A1 l1 w hr1)
  have HR5 := Aside0.mk hr5
  have HC0 := Aside0.mk hc0
  have HC1 := Aside0.mk hc1
  have HC5 := Aside0.mk hc5
  have HL0 := Aside0.mk h0
  have HL1 := Aside0.mk h1
  have HL5 := Aside0.mk h4
  have P1 := Aside0.mk p1
  have P3 := Aside0.mk p3
  have P5 := Aside0.mk p5
  have Q1 : Aside0 (e4.restart.AllB) := ⟨DS.restart_bytes (by
    have h6 := DS.put_bytes (crc := crcO) (DS.new_bytes 20) 2 18 a2 b0
    rw [p1] at h6
    have h7 := DS.put_bytes (crc := crcO) (DS.arm_bytes (DS.restart_bytes h6) a4 (l5.map fun x => x.f0)) 2 18 a3 b1
    rw [p3] at h7
    exact h7)⟩
  have Q2 : Aside0 (e4.restart.S.length ≤ 4000) := ⟨by show e4.S.length ≤ 4000; omega⟩
  have hcase2 : (E = 0 ∧ a3 = u ∧ l1 = lb ∧ ok = true) ∨ (E = 5 ∧ ok = false) ∨ (E = 5 ∧ ok = true ∧ (u == a3) = false ∧ (u != a3) = true) ∨ (E = 5 ∧ a3 = u ∧ l1 = lb ∧ ok = true) := by
    rcases hcase with h | h | ⟨h6, h7, h8⟩ | h
    · exact .inl ⟨h.1, h.2.1.symm, h.2.2.1.symm, h.2.2.2⟩
    · exact .inr (.inl h)
    · exact .inr (.inr (.inl ⟨h6, h7, by simpa using h8, by simpa using h8⟩))
    · exact .inr (.inr (.inr ⟨h.1, h.2.1.symm, h.2.2.1.symm, h.2.2.2⟩))
  clear hr0 hc0 hr1 hc1 hr5 hc5 b0 b1 s0 s1 t0 t1 h0 h1 h2 h3 h4 h5 p1 p2 p3 p4 p5 hcase
  rcases hcase2 with ⟨rfl, rfl, rfl, rfl⟩ | ⟨rfl, rfl⟩ | ⟨rfl, rfl, hu1, hu2⟩ | ⟨rfl, rfl, rfl, rfl⟩
  all_goals
    go_enter Try.func11, Try.ntmps11
    go_wp2_with (first
      | (go_at_call 25; refine (known4_any w7).mono ?_; rintro e w8 ⟨rfl, hB⟩; have B8 := Aside0.mk (S7.out.2.1.trans (hB.mono S7.out.2.1.size)); clear hB)
      | (go_at_call 27; refine (st_get S6.out 2 18 Q1.out (by decide) Q2.out (by decide) (by decide)).mono ?_; rw [P5.out]; rintro e w7 ⟨v7, rfl, hR, hS, hB⟩; have S7 := Aside0.mk hS; (obtain ⟨A7, c7, hv, -, hC⟩ := Kd.R_reads hR); subst hv; (have hcv := conv_str (A := A7) (c := c7) hC); (have hcw := conv_str (A := A1) (n := l1.length) (c := c1) (HR1.out.step' (Below.refl _ _) hS.2.1 (fun x hx => by cases hx) (fun x hx => by cases hx)).1); clear hR hS hB hC)
      | (go_at_call 21; refine (st_restart S5.out).mono ?_; rintro e w6 ⟨rfl, hS, hM⟩; have S6 := Aside0.mk hS; clear hS hM)
      | (go_at_call 26; refine (st_putS S4.out 2 18 a3 A1 c1 l1 (HR1.out.step' (Below.refl _ _) S4.out.2.1 (fun x hx => by cases hx) (fun x hx => by cases hx)) HC1.out (by have := HL1.out; omega) (show (0 : Nat) < 1073741824 by decide) (by decide) (by decide)).mono ?_; rw [P3.out]; rintro e w5 ⟨rfl, hS, hM, hZ⟩; have S5 := Aside0.mk hS; clear hS hM hZ)
      | (go_at_call 19; refine (st_arm S3.out a4 A5 c5 l5 (Kd.C_below HR5.out S3.out.2.1) HC5.out (by have := HL5.out; omega)).mono ?_; rintro e w4 ⟨rfl, hS, hM⟩; have S4 := Aside0.mk hS; clear hS hM)
      | (go_at_call 21; refine (st_restart S2.out).mono ?_; rintro e w3 ⟨rfl, hS, hM⟩; have S3 := Aside0.mk hS; clear hS hM)
      | (go_at_call 26; refine (st_putS S1.out 2 18 a2 A0 c0 l0 (HR0.out.step' (Below.refl _ _) S1.out.2.1 (fun x hx => by cases hx) (fun x hx => by cases hx)) HC0.out (by have := HL0.out; omega) (by decide) (by decide) (by decide)).mono ?_; rw [P1.out]; rintro e w2 ⟨rfl, hS, hM, hZ⟩; have S2 := Aside0.mk hS; clear hS hM hZ)
      | (go_at_call 12; refine (st_new 20 (by decide) w _ (Below.refl _ _) [] (fun x hx => by cases hx)).mono ?_; rintro e w1 ⟨rfl, hS, hM⟩; have S1 := Aside0.mk hS; clear hS hM))
    go_ret
    exact ⟨rfl, B8.out⟩
/-- Are all the parameters in range? -/
def crashOk (l0 l1 : List Int) (a2 a3 : Int) : Bool := DS.isB l0 && DS.isB l1 && decide (0 ≤ a2 ∧ a2 < 4294967296) && decide (0 ≤ a3 ∧ a3 < 4294967296)
def lazaruslaw4_SpanCrash.f (l0 : List Int) (l1 : List Int) (a2 : Int) (a3 : Int) (a4 : Int) (l5 : List S40) : Option Bool := if crashOk l0 l1 a2 a3 = true then some true else none
set_option maxHeartbeats 4000000 in
set_option maxRecDepth 100000 in
theorem lazaruslaw4_SpanCrash.calls (A0 : Option Addr) (c0 : Nat) (l0 : List Int) (A1 : Option Addr) (c1 : Nat) (l1 : List Int) (a2 : Int) (a3 : Int) (a4 : Int) (A5 : Option Addr) (c5 : Nat) (l5 : List S40) (r : Bool) (w : World) (hr0 : (Kd.int .u8).C w A0 l0.length l0) (hc0 : l0.length ≤ c0) (hr1 : (Kd.int .u8).C w A1 l1.length l1) (hc1 : l1.length ≤ c1) (hr5 : Kd.C k40 w A5 l5.length l5) (hc5 : l5.length ≤ c5) (h : lazaruslaw4_SpanCrash.f l0 l1 a2 a3 a4 l5 = some r) :
    Calls Try.prog 11 #[.slice A0 l0.length c0, .slice A1 l1.length c1, .int .u32 a2, .int .u32 a3, .int .i64 a4, .slice A5 l5.length c5] w fun e w' => e = .returned (.bool r) ∧ Below w.heap.size w w' := by
  unfold lazaruslaw4_SpanCrash.f at h
  by_cases hB : crashOk l0 l1 a2 a3 = true
  · rw [if_pos hB] at h
    obtain rfl : true = r := Option.some.inj h
    unfold crashOk at hB
    simp only [Bool.and_eq_true, decide_eq_true_eq] at hB
    obtain ⟨⟨⟨hb0, hb1⟩, hs⟩, ht⟩ := hB
    clear h
    by_cases h0 : l0.length ≤ 200
    · have d0 : decide ((l0.length : Int) > 200) = false := decide_eq_false (by omega)
      have d0' : decide ((200 : Int) < (l0.length : Int)) = false := decide_eq_false (by omega)
      have d0'' : decide (200 < l0.length) = false := decide_eq_false (by omega)
      by_cases h1 : l1.length ≤ 200
      · have d1 : decide ((l1.length : Int) > 200) = false := decide_eq_false (by omega)
        have d1' : decide ((200 : Int) < (l1.length : Int)) = false := decide_eq_false (by omega)
        have d1'' : decide (200 < l1.length) = false := decide_eq_false (by omega)
        by_cases h2 : a2 = a3
        · have d2 : (a2 == a3) = true := beq_iff_eq.2 h2
          have d2' : decide (a2 = a3) = true := decide_eq_true h2
          clear hr0 hc0 hr1 hc1 hr5 hc5 h0 h1 h2 hb0 hb1 hs ht
          go_enter Try.func11, Try.ntmps11
          go_wp2
          go_ret
          exact ⟨rfl, Below.refl _ _⟩
        · have d2 : (a2 == a3) = false := beq_eq_false_iff_ne.2 h2
          have d2' : decide (a2 = a3) = false := decide_eq_false h2
          by_cases h3 : a3 = 0
          · have d3 : (a3 == 0) = true := beq_iff_eq.2 h3
            have d3' : decide (a3 = 0) = true := decide_eq_true h3
            clear hr0 hc0 hr1 hc1 hr5 hc5 h0 h1 h2 h3 hb0 hb1 hs ht
            go_enter Try.func11, Try.ntmps11
            go_wp2
            go_ret
            exact ⟨rfl, Below.refl _ _⟩
          · have d3 : (a3 == 0) = false := beq_eq_false_iff_ne.2 h3
            have d3' : decide (a3 = 0) = false := decide_eq_false h3
            by_cases h4 : l5.length ≤ 50
            · have d4 : decide ((l5.length : Int) > 50) = false := decide_eq_false (by omega)
              have d4' : decide ((50 : Int) < (l5.length : Int)) = false := decide_eq_false (by omega)
              have d4'' : decide (50 < l5.length) = false := decide_eq_false (by omega)
              by_cases h5 : a4 < 0
              · have d5 : decide (a4 < 0) = true := decide_eq_true h5
                clear hr0 hc0 hr1 hc1 hr5 hc5 h0 h1 h2 h3 h4 h5 hb0 hb1 hs ht
                go_enter Try.func11, Try.ntmps11
                go_wp2
                go_ret
                exact ⟨rfl, Below.refl _ _⟩
              · exact crash_core A0 c0 l0 A1 c1 l1 a2 a3 a4 A5 c5 l5 w hr0 hc0 hr1 hc1 hr5 hc5 (DS.isB_bytes hb0) (DS.isB_bytes hb1) hs.1 hs.2 ht.1 ht.2 h0 h1 h2 h3 h4 (by omega)
            · have d4 : decide ((l5.length : Int) > 50) = true := decide_eq_true (by omega)
              have d4' : decide ((50 : Int) < (l5.length : Int)) = true := decide_eq_true (by omega)
              have d4'' : decide (50 < l5.length) = true := decide_eq_true (by omega)
              clear hr0 hc0 hr1 hc1 hr5 hc5 h0 h1 h2 h3 h4 hb0 hb1 hs ht
              go_enter Try.func11, Try.ntmps11
              go_wp2
              go_ret
              exact ⟨rfl, Below.refl _ _⟩
      · have d1 : decide ((l1.length : Int) > 200) = true := decide_eq_true (by omega)
        have d1' : decide ((200 : Int) < (l1.length : Int)) = true := decide_eq_true (by omega)
        have d1'' : decide (200 < l1.length) = true := decide_eq_true (by omega)
        clear hr0 hc0 hr1 hc1 hr5 hc5 h0 h1 hb0 hb1 hs ht
        go_enter Try.func11, Try.ntmps11
        go_wp2
        go_ret
        exact ⟨rfl, Below.refl _ _⟩
    · have d0 : decide ((l0.length : Int) > 200) = true := decide_eq_true (by omega)
      have d0' : decide ((200 : Int) < (l0.length : Int)) = true := decide_eq_true (by omega)
      have d0'' : decide (200 < l0.length) = true := decide_eq_true (by omega)
      clear hr0 hc0 hr1 hc1 hr5 hc5 h0 hb0 hb1 hs ht
      go_enter Try.func11, Try.ntmps11
      go_wp2
      go_ret
      exact ⟨rfl, Below.refl _ _⟩
  · rw [if_neg hB] at h
    cases h
end Go.Proofs.Ytnahlhabhipfmaa.LSpanCrash
