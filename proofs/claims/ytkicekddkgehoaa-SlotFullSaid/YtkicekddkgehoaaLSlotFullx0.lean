/- The contract of the law SlotFull, by hand. -/
import Derived.Test.YtkicekddkgehoaaSlot3
import Derived.RangeFuncNested
import Derived.RangeFuncBound
import Derived.RangeFuncCalls
import Derived.RangeFuncLeaves
import Derived.RangeFuncBox
import Derived.Shelf.Abstract
import Derived.Shelf.RegionOpen
import Derived.OwnWalkIn
import Derived.TacticsInMore
import Derived.LoopNIn
import Derived.LoopIn
namespace Go.Proofs.Ytkicekddkgehoaa.LSlotFull
open Go.RowKit Go.Proofs.Ytkicekddkgehoaa.QSlotLast Go.Proofs.Ytkicekddkgehoaa.Hnd Go.Proofs.YtkicekddkgehoaaW.PrintWords Go.Proofs.YtkicekddkgehoaaW.PrintLast Go.Proofs.YtkicekddkgehoaaW.Dk Go.Shelf
set_option linter.unusedVariables false
set_option linter.unusedSimpArgs false
attribute [local go_sem] Oper.semAt_some
def zr (m : Nat) : List Int := List.replicate m 0
theorem zr_len (m : Nat) : (zr m).length = m := by simp [zr]
theorem made (m : Nat) : madeCells #[Value.int .u8 0] m = ((zr m).map (Value.int .u8)).toArray := by
  apply Array.ext
  · simp [madeCells, zr]
  · intro i h1 h2
    simp [madeCells, zr, Nat.mod_one]
theorem makeAny (m : Nat) (hm : m ≤ 400) (W : World) : (Instr.makeSlice 22 (.int .i64 (m : Int)) (.int .i64 (m : Int))).run Try.prog W = .ok (.slice (some ⟨W.heap.size, 0, none⟩) m m) (W.alloc (.cells ((zr m).map (Value.int .u8)).toArray 5)) := by
  have h := run_make_row' (P := Try.prog) 22 5 (.int .u8 0) 1 Try.underlying22 (by kernel_rfl) rfl .i64 .i64 m (by omega) (by omega) W
  rw [made] at h
  exact h
theorem zr_rd {w W : World} {xs : List Nat} {g : Nat} {d : DS} (h : St w xs W g d) (m : Nat) (hm : m ≤ 400) : St w (W.heap.size :: xs) (W.alloc (.cells ((zr m).map (Value.int .u8)).toArray 5)) g d ∧ Rd w (W.heap.size :: xs) (W.alloc (.cells ((zr m).map (Value.int .u8)).toArray 5)) (some ⟨W.heap.size, 0, none⟩) (zr m) :=
  ⟨h.more (below_alloc (Below.refl _ _) _) W.heap.size (Nat.le_refl _) (by simp), Kd.C_int_cells (T := 5) (fr := (0, 0)) (blk_new W _) rfl (by rw [zr_len]; omega), fun ad e _ => by injection e with e; subst e; exact ⟨.inr (by simp), by simp⟩⟩
theorem full_plain (l1 : List Int) (m : Nat) (hl : l1.length ≤ 100) (hm : m ≤ 400) (hb : DS.Bytes l1) :
    ∃ e1 e2 E r, DS.save crcO (DS.new 40) 1 l1 = (e1, 0) ∧ e1.P = [] ∧ e1.S.length = 40 ∧ DS.save crcO e1 2 (zr m) = (e2, E) ∧ e2.P = [] ∧ e2.S.length = 40 ∧ e2.AllB ∧ DS.load crcO e2 = r ∧ ((224 < m ∧ E = 4 ∧ r = (1, l1, true)) ∨ (m ≤ 224 ∧ E = 0 ∧ r = (2, zr m, true))) := by
  have hr40 : (DS.new 40).room = 15 := by decide
  obtain ⟨e1, p1, p2, p3, p4, p5⟩ := DS.save_ok crcO (DS.new 40) (DS.new_calm 40) 1 l1 (by decide) (by decide) (by rw [hr40]; unfold DS.need; omega)
  rw [show DS.slotAt (DS.new 40) 1 = 15 by decide] at p4 p5
  have hl1 : e1.S.length = 40 := p3.trans (DS.new_len 40)
  have hr1 : e1.room = 15 := by unfold DS.room; rw [hl1]
  have hn1 : DS.need l1.length ≤ 8 := by unfold DS.need; omega
  have hb1 : e1.AllB := by have := DS.save_bytes (crc := crcO) (DS.new_bytes 40) 1 hb; rw [p1] at this; exact this
  by_cases h : 224 < m
  · have hs : DS.save crcO e1 2 (zr m) = (e1, 4) := by
      unfold DS.save
      rw [if_neg (by decide), if_pos (by rw [hr1, zr_len]; unfold DS.need; omega)]
    refine ⟨e1, e1, 4, (1, l1, true), p1, p2.1, hl1, hs, p2.1, hl1, hb1, ?_, .inl ⟨h, rfl, rfl⟩⟩
    have g0 : DS.get crcO e1 0 15 = (0, [], false) := DS.get_zero (by
      rw [show (0 : Int) = ((0 : Nat) : Int) from rfl, DS.rd_nil p2.1 0, p4.2 0 (by omega), ← DS.rd_nil (d := DS.new 40) rfl 0, DS.new_rd 40 0 (by decide)]
      rfl)
    have g1 : DS.get crcO e1 15 15 = (1, l1, true) := p5.get (room := 15) p2.1 (crcO_lo _) (crcO_hi _) (by decide) (by decide) (by omega) (by omega) (by omega)
    rw [DS.load_two (g0 := (0, [], false)) (g1 := (1, l1, true)) (by rw [hr1]; exact g0) (by rw [hr1]; exact g1)]
    rfl
  · have hn2 : DS.need (zr m).length ≤ 15 := by rw [zr_len]; unfold DS.need; omega
    obtain ⟨e2, q1, q2, q3, q4, q5⟩ := DS.save_ok crcO e1 p2 2 (zr m) (by decide) (by decide) (by rw [hr1]; exact hn2)
    have ha : DS.slotAt e1 2 = 0 := by unfold DS.slotAt; rw [hr1]; rfl
    rw [ha] at q4 q5
    have hl2 : e2.S.length = 40 := q3.trans hl1
    have hr2 : e2.room = 15 := by unfold DS.room; rw [hl2]
    refine ⟨e1, e2, 0, (2, zr m, true), p1, p2.1, hl1, q1, q2.1, hl2, ?_, ?_, .inr ⟨by omega, rfl, rfl⟩⟩
    · have := DS.save_bytes (crc := crcO) hb1 2 (DS.bytes_zero m)
      rw [show List.replicate m (0 : Int) = zr m from rfl, q1] at this
      exact this
    · have g0 : DS.get crcO e2 0 15 = (2, zr m, true) := q5.get (room := 15) q2.1 (crcO_lo _) (crcO_hi _) (by decide) (by decide) (by rw [zr_len]; omega) (by omega) (by omega)
      have k5 : DS.Lies crcO e2 15 1 l1 := p5.away q4 (.inr (by omega))
      have g1 : DS.get crcO e2 15 15 = (1, l1, true) := k5.get (room := 15) q2.1 (crcO_lo _) (crcO_hi _) (by decide) (by decide) (by omega) (by omega) (by omega)
      rw [DS.load_two (g0 := (2, zr m, true)) (g1 := (1, l1, true)) (by rw [hr2]; exact g0) (by rw [hr2]; exact g1)]
      rfl
theorem room_rd (A0 : Option Addr) (l0 : List Int) (w : World) (hr0 : (Kd.int .u8).C w A0 l0.length l0) : Rd w [] w A0 l0 :=
  ⟨hr0, fun ad e hp => by
    subst e
    have := Kd.C_lt hr0 hp (by decide)
    exact ⟨.inl this, this⟩⟩
def lazaruslaw5_SlotFull.f (a0 : Int) (l1 : List Int) : Option Bool := if DS.isB l1 = true then some true else none
set_option maxHeartbeats 4000000 in
set_option maxRecDepth 100000 in
theorem full_core (m : Nat) (A1 : Option Addr) (c1 : Nat) (l1 : List Int) (w : World) (hr1 : (Kd.int .u8).C w A1 l1.length l1) (hc1 : l1.length ≤ c1) (hb : DS.Bytes l1) (hl : l1.length ≤ 100) (hm : m ≤ 400) :
    Calls Try.prog 3 #[.int .i64 (m : Int), .slice A1 l1.length c1] w fun e w' => e = .returned (.bool true) ∧ Below w.heap.size w w' := by
  obtain ⟨e1, e2, E, r, p1, p2, p3, p4, p5, p6, p7, p8, hcase⟩ := full_plain l1 m hl hm hb
  have d0 : decide ((m : Int) < 0) = false := decide_eq_false (by omega)
  have d1 : decide ((m : Int) > 400) = false := decide_eq_false (by omega)
  have d1' : decide (400 < m) = false := decide_eq_false (by omega)
  have d2 : decide ((l1.length : Int) > 100) = false := decide_eq_false (by omega)
  have d2' : decide (100 < l1.length) = false := decide_eq_false (by omega)
  have hs0 : DS.save crcO e2 0 [] = (e2, 1) := by unfold DS.save; rw [if_pos (.inl (by decide))]
  have hmk := makeAny m hm
  have HR := Aside0.mk (room_rd A1 l1 w hr1)
  have HC := Aside0.mk hc1
  have HL := Aside0.mk hl
  have HM := Aside0.mk hm
  have P1 := Aside0.mk p1
  have P2 := Aside0.mk p2
  have P3 := Aside0.mk p3
  have P4 := Aside0.mk p4
  have P5 := Aside0.mk p5
  have P6 := Aside0.mk p6
  have P7 := Aside0.mk p7
  have P8 := Aside0.mk p8
  have HS0 := Aside0.mk hs0
  have hcase2 : (decide ((m : Int) > 224) = true ∧ decide (224 < m) = true ∧ E = 4 ∧ r = (1, l1, true)) ∨ (decide ((m : Int) > 224) = false ∧ decide (224 < m) = false ∧ E = 0 ∧ r = (2, zr m, true)) := by
    rcases hcase with ⟨h1, h2, h3⟩ | ⟨h1, h2, h3⟩
    · exact .inl ⟨decide_eq_true (by omega), decide_eq_true h1, h2, h3⟩
    · exact .inr ⟨decide_eq_false (by omega), decide_eq_false (by omega), h2, h3⟩
  clear hr1 hc1 hb hl hm p1 p2 p3 p4 p5 p6 p7 p8 hs0 hcase
  rcases hcase2 with ⟨d3, d3', rfl, rfl⟩ | ⟨d3, d3', rfl, rfl⟩
  · go_enter Try.func3, Try.ntmps3
    go_wp2_with (first
      | (go_at_call 10; refine (known5_any w5).mono ?_; rintro e w6 ⟨rfl, hB⟩; have B6 := Aside0.mk (S5.out.2.1.trans (hB.mono S5.out.2.1.size)); clear hB)
      | (go_at_call 8; refine (st_save S4.out 0 none 0 [] ⟨Kd.C_nil _ _, fun ad e _ => by cases e⟩ (by decide) (by decide) (by rw [P5.out]; decide) (by rw [P6.out]; decide)).mono ?_; rw [HS0.out]; rintro e w5 ⟨rfl, hS, hM⟩; have S5 := Aside0.mk hS; clear hS hM)
      | (go_at_call 9; refine (st_load S3.out P7.out (by rw [P6.out]; decide)).mono ?_; rw [P8.out]; rintro e w4 ⟨v, rfl, hR, hS, hB⟩; have S4 := Aside0.mk hS; (obtain ⟨A4, c4, hv, -, hC⟩ := Kd.R_reads hR); (replace hv : v = .slice A4 l1.length c4 := hv); subst hv; (have hcv := conv_str (A := A4) (n := l1.length) (c := c4) (show (Kd.int .u8).C w4 A4 l1.length l1 from hC)); (have hcw := conv_str (A := A1) (n := l1.length) (c := c1) (HR.out.step' (Below.refl _ _) hS.2.1 (fun x hx => by cases hx) (fun x hx => by cases hx)).1); clear hR hS hB hC)
      | (go_at_call 8; refine (by have h := st_save (zr_rd S2.out m HM.out).1 2 (some ⟨w2.heap.size, 0, none⟩) m (zr m) (zr_rd S2.out m HM.out).2 (by rw [zr_len]; exact Nat.le_refl _) (by rw [zr_len]; have := HM.out; omega) (by rw [P2.out]; decide) (by rw [P3.out]; decide); rw [P4.out, zr_len] at h; exact h : Calls Try.prog 8 #[.pointer (some ⟨w.heap.size, 0, none⟩), .int .i64 2, .slice (some ⟨w2.heap.size, 0, none⟩) m m] _ _).mono ?_; rintro e w3 ⟨rfl, hS, hM⟩; have S3 := Aside0.mk hS; clear hS hM)
      | (go_at_call 8; refine (st_save S1.out 1 A1 c1 l1 (HR.out.step' (Below.refl _ _) S1.out.2.1 (fun x hx => by cases hx) (fun x hx => by cases hx)) HC.out (by have := HL.out; omega) (by decide) (by rw [DS.new_len]; decide)).mono ?_; rw [P1.out]; rintro e w2 ⟨rfl, hS, hM⟩; have S2 := Aside0.mk hS; clear hS hM)
      | (go_at_call 7; refine (st_new 40 (by omega) w _ (Below.refl _ _) [] (fun x hx => by cases hx)).mono ?_; rintro e w1 ⟨rfl, hS, hM⟩; have S1 := Aside0.mk hS; clear hS hM))
    go_ret
    exact ⟨rfl, B6.out⟩
  · go_enter Try.func3, Try.ntmps3
    go_wp2_with (first
      | (go_at_call 10; refine (known5_any w4).mono ?_; rintro e w6 ⟨rfl, hB⟩; have B6 := Aside0.mk (S4.out.2.1.trans (hB.mono S4.out.2.1.size)); clear hB)
      | (go_at_call 9; refine (st_load S3.out P7.out (by rw [P6.out]; decide)).mono ?_; rw [P8.out]; rintro e w4 ⟨v, rfl, hR, hS, hB⟩; have S4 := Aside0.mk hS; (obtain ⟨A4, c4, hv, -, -⟩ := Kd.R_reads hR); (replace hv : v = .slice A4 (zr m).length c4 := hv); rw [zr_len] at hv; subst hv; clear hR hS hB)
      | (go_at_call 8; refine (by have h := st_save (zr_rd S2.out m HM.out).1 2 (some ⟨w2.heap.size, 0, none⟩) m (zr m) (zr_rd S2.out m HM.out).2 (by rw [zr_len]; exact Nat.le_refl _) (by rw [zr_len]; have := HM.out; omega) (by rw [P2.out]; decide) (by rw [P3.out]; decide); rw [P4.out, zr_len] at h; exact h : Calls Try.prog 8 #[.pointer (some ⟨w.heap.size, 0, none⟩), .int .i64 2, .slice (some ⟨w2.heap.size, 0, none⟩) m m] _ _).mono ?_; rintro e w3 ⟨rfl, hS, hM⟩; have S3 := Aside0.mk hS; clear hS hM)
      | (go_at_call 8; refine (st_save S1.out 1 A1 c1 l1 (HR.out.step' (Below.refl _ _) S1.out.2.1 (fun x hx => by cases hx) (fun x hx => by cases hx)) HC.out (by have := HL.out; omega) (by decide) (by rw [DS.new_len]; decide)).mono ?_; rw [P1.out]; rintro e w2 ⟨rfl, hS, hM⟩; have S2 := Aside0.mk hS; clear hS hM)
      | (go_at_call 7; refine (st_new 40 (by omega) w _ (Below.refl _ _) [] (fun x hx => by cases hx)).mono ?_; rintro e w1 ⟨rfl, hS, hM⟩; have S1 := Aside0.mk hS; clear hS hM))
    go_ret
    exact ⟨rfl, B6.out⟩
set_option maxHeartbeats 4000000 in
set_option maxRecDepth 100000 in
theorem lazaruslaw5_SlotFull.calls (a0 : Int) (A1 : Option Addr) (c1 : Nat) (l1 : List Int) (r : Bool) (w : World) (hr1 : (Kd.int .u8).C w A1 l1.length l1) (hc1 : l1.length ≤ c1) (h : lazaruslaw5_SlotFull.f a0 l1 = some r) :
    Calls Try.prog 3 #[.int .i64 a0, .slice A1 l1.length c1] w fun e w' => e = .returned (.bool r) ∧ Below w.heap.size w w' := by
  unfold lazaruslaw5_SlotFull.f at h
  by_cases hB : DS.isB l1 = true
  · rw [if_pos hB] at h
    obtain rfl : true = r := Option.some.inj h
    clear h
    by_cases h0 : a0 < 0
    · have d0 : decide (a0 < 0) = true := decide_eq_true h0
      clear hr1 hc1 hB h0
      go_enter Try.func3, Try.ntmps3
      go_wp2_with (go_at_call 7; refine (st_new 40 (by omega) w _ (Below.refl _ _) [] (fun x hx => by cases hx)).mono ?_; rintro e w1 ⟨rfl, hS, hM⟩; have S1 := Aside0.mk hS; clear hS hM)
      go_ret
      exact ⟨rfl, S1.out.2.1⟩
    · have d0 : decide (a0 < 0) = false := decide_eq_false h0
      by_cases h1 : a0 ≤ 400
      · by_cases h2 : l1.length ≤ 100
        · obtain ⟨m, rfl⟩ : ∃ m : Nat, a0 = (m : Int) := ⟨a0.toNat, by omega⟩
          exact full_core m A1 c1 l1 w hr1 hc1 (DS.isB_bytes hB) h2 (by omega)
        · have d1 : decide (a0 > 400) = false := decide_eq_false (by omega)
          have d1' : decide (400 < a0) = false := decide_eq_false (by omega)
          have d2 : decide ((l1.length : Int) > 100) = true := decide_eq_true (by omega)
          have d2' : decide (100 < l1.length) = true := decide_eq_true (by omega)
          clear hr1 hc1 hB h0 h1 h2
          go_enter Try.func3, Try.ntmps3
          go_wp2_with (go_at_call 7; refine (st_new 40 (by omega) w _ (Below.refl _ _) [] (fun x hx => by cases hx)).mono ?_; rintro e w1 ⟨rfl, hS, hM⟩; have S1 := Aside0.mk hS; clear hS hM)
          go_ret
          exact ⟨rfl, S1.out.2.1⟩
      · have d1 : decide (a0 > 400) = true := decide_eq_true (by omega)
        have d1' : decide (400 < a0) = true := decide_eq_true (by omega)
        clear hr1 hc1 hB h0 h1
        go_enter Try.func3, Try.ntmps3
        go_wp2_with (go_at_call 7; refine (st_new 40 (by omega) w _ (Below.refl _ _) [] (fun x hx => by cases hx)).mono ?_; rintro e w1 ⟨rfl, hS, hM⟩; have S1 := Aside0.mk hS; clear hS hM)
        go_ret
        exact ⟨rfl, S1.out.2.1⟩
  · rw [if_neg hB] at h
    cases h
end Go.Proofs.Ytkicekddkgehoaa.LSlotFull
