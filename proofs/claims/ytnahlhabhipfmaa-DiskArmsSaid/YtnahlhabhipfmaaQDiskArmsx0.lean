/- The contract of the law DiskArms, by hand. -/
import Derived.Test.YtnahlhabhipfmaaDisk9
namespace Go.Proofs.Ytnahlhabhipfmaa.QDiskArms
open Go.RowKit Go.Proofs.Ytnahlhabhipfmaa.QSpanCrash Go.Proofs.Ytnahlhabhipfmaa.Hnd Go.Proofs.YtnahlhabhipfmaaW.PrintWords Go.Proofs.YtnahlhabhipfmaaW.PrintLast Go.Proofs.YtnahlhabhipfmaaW.Dk 
set_option linter.unusedVariables false
set_option linter.unusedSimpArgs false
attribute [local go_sem] Oper.semAt_some
/-! Disk arms: how often it flushes well. -/
def arms (d : DS) : Nat → DS
  | 0 => d
  | k + 1 => (arms d k).fl.1
/-- A disk with nothing pending that was flushed k times. -/
def plain (k : Nat) : DS := { DS.new 1 with N := k }
theorem plain_fl (k : Nat) (hk : k < 1000) : (plain k).fl = (plain (k + 1), 0) := by
  unfold plain DS.fl
  have e : wrap64 ((k : Int) + 1) = (k : Int) + 1 := by unfold wrap64; omega
  simp [DS.new, DS.bad, DS.counted, DS.flushed, e]
def armed (at_ : Int) (k : Nat) : DS := { plain k with armed := true, at_ := at_ }
theorem plain_arm (at_ : Int) (k : Nat) : (plain k).arm at_ [] = armed at_ k := rfl
theorem armed_fl (at_ : Int) (k : Nat) (hk : k < 1000) (h : (k : Int) < at_) : (armed at_ k).fl = (armed at_ (k + 1), 0) := by
  unfold armed plain DS.fl
  have e : wrap64 ((k : Int) + 1) = (k : Int) + 1 := by unfold wrap64; omega
  have hn : ¬ at_ ≤ (k : Int) := by omega
  simp [DS.new, DS.bad, DS.counted, DS.flushed, e, hn]
def dead (at_ : Int) (k : Nat) : DS := { armed at_ k with down := true }
theorem dead_down (a : Int) (k : Nat) : (dead a k).down = true := rfl
theorem dead_N (a : Int) (k j : Nat) : (dead a (k + j)).N = (k : Int) + (j : Int) := by show ((k + j : Nat) : Int) = _; omega
theorem armed_bad (at_ : Int) (k : Nat) (h : at_ ≤ (k : Int)) : (armed at_ k).fl = (dead at_ k, 5) := by
  unfold dead armed plain DS.fl
  simp [DS.new, DS.bad, DS.crashed, DS.spill, h]
def lazaruslaw3_DiskArms.f (a0 : Int) (a1 : Int) : Option Bool := some true
set_option maxHeartbeats 4000000 in
set_option maxRecDepth 100000 in
theorem lazaruslaw3_DiskArms.calls (a0 : Int) (a1 : Int) (r : Bool) (w : World) (h : lazaruslaw3_DiskArms.f a0 a1 = some r) :
    Calls Try.prog 5 #[.int .i64 a0, .int .i64 a1] w fun e w' => e = .returned (.bool r) ∧ Below w.heap.size w w' := by
  obtain rfl : true = r := Option.some.inj h
  clear h
  by_cases hout : a0 < 0 ∨ 20 < a0 ∨ a1 < -3 ∨ 30 < a1
  · go_enter Try.func5, Try.ntmps5
    cases d0 : decide (a0 < 0)
    · cases d1 : decide (20 < a0)
      · have d1' : decide (a0 > 20) = false := d1
        cases d2 : decide (a1 < -3)
        · have d3 : decide (30 < a1) = true := by
            rw [decide_eq_false_iff_not] at d0 d1 d2
            exact decide_eq_true (by omega)
          have d3' : decide (a1 > 30) = true := d3
          go_wp2
          go_ret
          exact ⟨rfl, Below.refl _ _⟩
        · go_wp2
          go_ret
          exact ⟨rfl, Below.refl _ _⟩
      · have d1' : decide (a0 > 20) = true := d1
        go_wp2
        go_ret
        exact ⟨rfl, Below.refl _ _⟩
    · go_wp2
      go_ret
      exact ⟨rfl, Below.refl _ _⟩
  obtain ⟨n, rfl⟩ : ∃ n : Nat, a0 = (n : Int) := ⟨a0.toNat, by omega⟩
  have hn : n ≤ 20 := by omega
  have h1 : ¬ a1 < -3 := by omega
  have h2 : ¬ 30 < a1 := by omega
  have d0 : decide ((n : Int) < 0) = false := decide_eq_false (by omega)
  have d1 : decide ((20 : Int) < (n : Int)) = false := decide_eq_false (by omega)
  have d1' : decide ((n : Int) > 20) = false := decide_eq_false (by omega)
  have d1'' : decide (20 < n) = false := decide_eq_false (by omega)
  have d2 : decide (a1 < -3) = false := decide_eq_false h1
  have d3 : decide (30 < a1) = false := decide_eq_false h2
  have d3' : decide (a1 > 30) = false := decide_eq_false h2
  have HN := Aside0.mk hn
  have H1 := Aside0.mk h1
  have H2 := Aside0.mk h2
  clear hout hn h1 h2
  go_enter Try.func5, Try.ntmps5
  go_wp2_with (go_at_call 12; refine (st_new 1 (by omega) w _ (Below.refl _ _) [] (fun x hx => by cases hx)).mono ?_; rintro e w1 ⟨rfl, hS, hM⟩; have S1 := Aside0.mk hS; clear hS hM)
  go_loopw [6] (fun u wr => ∃ k : Nat, u = .int .i64 (k : Int) ∧ Aside0 (k ≤ n) ∧ Aside0 (St w [] wr w.heap.size (plain k))) (fun u _ => n + 1 - (intOf u).toNat)
  case atStart => exact ⟨0, rfl, ⟨Nat.zero_le _⟩, S1⟩
  case round =>
    obtain ⟨k, rfl, HK, HI⟩ := hrel
    by_cases hlt : k < n
    · have hd : decide ((k : Int) < (n : Int)) = true := decide_eq_true (by omega)
      have hd3 : decide (k < n) = true := decide_eq_true hlt
      have hk1 : (k : Int) + 1 ≤ 4000 := by have := HN.out; omega
      have hk0 : (0 : Int) ≤ (k : Int) := by omega
      have HLT := Aside0.mk hlt
      clear hlt
      go_wp2_with (go_at_call 18; refine (st_flush HI.out).mono ?_; rw [plain_fl k (by have := HLT.out; have := HN.out; omega)]; rintro e w2 ⟨rfl, hS, hM⟩; have S2 := Aside0.mk hS; clear hS hM)
      all_goals exact ⟨⟨k + 1, by go_num, ⟨by have := HLT.out; omega⟩, S2⟩, by have := HLT.out; simp [intOf]; omega⟩
    · obtain rfl : k = n := by have := HK.out; omega
      have hd : decide ((k : Int) < (k : Int)) = false := decide_eq_false (by omega)
      have HKL : Aside0 (k ≤ 20) := HN
      clear hlt
      have S0 : Aside0 (St w [] wr w.heap.size (plain k)) := HI
      clear HI HK HN
      go_wp2_with (go_at_call 19; refine (st_arm0 S0.out a1).mono ?_; rw [plain_arm]; rintro e w3 ⟨rfl, hS, hM⟩; have S3 := Aside0.mk hS; clear hS hM)
      go_loopw [7] (fun u wr => ∃ j : Nat, u = .int .i64 (j : Int) ∧ Aside0 (j = 0 ∨ (k : Int) + (j : Int) ≤ a1) ∧ Aside0 (St w [] wr w.heap.size (armed a1 (k + j)))) (fun u _ => 60 - (intOf u).toNat)
      case atStart => exact ⟨0, rfl, ⟨.inl rfl⟩, S3⟩
      case round =>
        clear S3 S0
        obtain ⟨j, rfl, HJ, HI⟩ := hrel
        have hj40 : j ≤ 33 := by have := HJ.out; have := H2.out; omega
        have e1 : decide ((j : Int) < 60) = true := decide_eq_true (by omega)
        have e2 : decide (j < 60) = true := decide_eq_true (by omega)
        have hj1 : (j : Int) + 1 ≤ 4000 := by omega
        have hj0 : (0 : Int) ≤ (j : Int) := by omega
        have hkb := HKL.out
        by_cases hlt : (k : Int) + (j : Int) < a1
        · have HLT := Aside0.mk hlt
          have HJ4 := Aside0.mk hj40
          clear hlt hj40 hkb
          go_wp2_with (go_at_call 18; refine (st_flush HI.out).mono ?_; rw [armed_fl a1 (k + j) (by have := HJ4.out; have := HKL.out; omega) (by have := HLT.out; omega)]; rintro e w5 ⟨rfl, hS, hM⟩; have S5 := Aside0.mk hS; clear hS hM)
          all_goals exact ⟨⟨j + 1, by go_num, ⟨.inr (by have := HLT.out; omega)⟩, S5⟩, by have := HJ4.out; simp [intOf]; omega⟩
        · have hJ := HJ.out
          have hA1 := H1.out
          have hA2 := H2.out
          have hp1 : -9223372036854775808 ≤ a1 - (k : Int) := by omega
          have hp2 : a1 - (k : Int) ≤ 9223372036854775807 := by omega
          have hp3 : (k : Int) + (j : Int) ≤ 9223372036854775807 := by omega
          have hp4 : -9223372036854775808 ≤ (k : Int) + (j : Int) := by omega
          have HBD : Aside0 (a1 ≤ (((k + j : Nat)) : Int)) := ⟨by omega⟩
          have HMX : Aside0 ((j : Int) = max (a1 - (k : Int)) 0) := ⟨by omega⟩
          clear hlt hj40 hkb hJ hA1 hA2 HJ H1 H2
          go_wp2_with (first
            | (go_at_call 16; refine (known_any w5).mono ?_; rintro e w6 ⟨rfl, hB⟩; have HB6 := Aside0.mk hB; clear hB)
            | (go_at_call 20; refine (st_down S5.out).mono ?_; rw [dead_down]; rintro e w7 ⟨rfl, rfl⟩)
            | (go_at_call 14; refine (st_ops S5.out).mono ?_; rw [dead_N]; rintro e w7 ⟨rfl, rfl⟩)
            | (go_at_call 18; refine (st_flush HI.out).mono ?_; rw [armed_bad a1 (k + j) HBD.out]; rintro e w5 ⟨rfl, hS, hM⟩; have S5 := Aside0.mk hS; clear hS hM))
          all_goals first
            | (exfalso; have := HMX.out; omega)
            | (go_ret; exact ⟨rfl, S5.out.2.1.trans (HB6.out.mono S5.out.2.1.size)⟩)
end Go.Proofs.Ytnahlhabhipfmaa.QDiskArms
