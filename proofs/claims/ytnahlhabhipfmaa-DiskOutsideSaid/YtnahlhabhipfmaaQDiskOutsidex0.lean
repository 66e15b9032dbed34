/- The contract of the law DiskOutside, by hand. -/
import Derived.Test.YtnahlhabhipfmaaDisk9
namespace Go.Proofs.Ytnahlhabhipfmaa.QDiskOutside
open Go.RowKit Go.Proofs.Ytnahlhabhipfmaa.QSpanCrash Go.Proofs.Ytnahlhabhipfmaa.Hnd Go.Proofs.YtnahlhabhipfmaaW.PrintWords Go.Proofs.YtnahlhabhipfmaaW.PrintLast Go.Proofs.YtnahlhabhipfmaaW.Dk 
set_option linter.unusedVariables false
set_option linter.unusedSimpArgs false
attribute [local go_sem] Oper.semAt_some
def zr (m : Nat) : List Int := List.replicate m 0
theorem zr_len (m : Nat) : (zr m).length = m := by simp [zr]
theorem made (m : Nat) : madeCells #[Value.int .u8 0] m = ((zr m).map (Value.int .u8)).toArray := by
  apply Array.ext
  · simp [madeCells, zr]
  · intro i h1 h2
    simp [madeCells, zr, Nat.mod_one]
theorem makeAny (m : Nat) (hm : m ≤ 40) (W : World) : (Instr.makeSlice 26 (.int .i64 (m : Int)) (.int .i64 (m : Int))).run Try.prog W = .ok (.slice (some ⟨W.heap.size, 0, none⟩) m m) (W.alloc (.cells ((zr m).map (Value.int .u8)).toArray 5)) := by
  have h := run_make_row' (P := Try.prog) 26 5 (.int .u8 0) 1 Try.underlying26 (by kernel_rfl) rfl .i64 .i64 m (by omega) (by omega) W
  rw [made] at h
  exact h
theorem out_arg (n : Nat) (i : Int) (b : List Int) (hb : b.length ≠ 16) : (DS.new n).wr i b = (DS.new n, 1) := by
  unfold DS.wr
  rw [if_neg (by simp [DS.new]), if_pos hb]
theorem out_full (n : Nat) (i : Int) (b : List Int) (hb : b.length = 16) (hi : i < 0 ∨ (n : Int) ≤ i) : (DS.new n).wr i b = (DS.new n, 4) := by
  unfold DS.wr
  rw [if_neg (by simp [DS.new]), if_neg (by omega), if_pos (by simpa [DS.new] using hi)]
theorem out_fine (n : Nat) (i : Int) (b : List Int) (hb : b.length = 16) (hi : ¬ (i < 0 ∨ (n : Int) ≤ i)) : (DS.new n).wr i b = ({ DS.new n with P := [(i, b)], N := 1 }, 0) := by
  unfold DS.wr
  rw [if_neg (by simp [DS.new]), if_neg (by omega), if_neg (by simpa [DS.new] using hi), if_neg (by simp [DS.new, DS.bad])]
  simp [DS.counted, DS.new, wrap64]
theorem not_lt0 (a b : Int) : decide (b ≤ a) = !decide (a < b) := by by_cases h : a < b <;> simp [h] <;> omega
theorem out_len (n m : Nat) (i : Int) (d : DS) (c : Int) (h : (DS.new n).wr i (zr m) = (d, c)) (hs : d.S.length = n) : (d.rd i).length = if 0 ≤ i ∧ i < (n : Int) then 16 else 0 := by
  have h1 := DS.wr_ok (DS.new_ok n) i (zr m)
  rw [h] at h1
  rw [DS.rd_len h1, hs]
set_option maxHeartbeats 4000000 in
set_option maxRecDepth 100000 in
theorem out_core (n m : Nat) (i : Int) (w : World) (bm b0 b1 : Bool) (hm : m ≤ 40) (hn : n ≤ 20) (hl : ((m : Int) != 16) = bm) (hl1 : ((m : Int) == 16) = !bm) (hl2 : decide ((m : Int) = 16) = !bm) (hl3 : decide (m = 16) = !bm)
    (h0 : decide (i < 0) = b0) (h1 : decide (0 ≤ i) = !b0) (h2 : decide (i ≥ 0) = !b0) (h3 : decide (i < (n : Int)) = b1) (h4 : decide ((n : Int) ≤ i) = !b1) (h5 : decide (i ≥ (n : Int)) = !b1)
    (d : DS) (hw : (DS.new n).wr i (zr m) = (d, if bm then 1 else if b0 || !b1 then 4 else 0)) (hN : d.N = if bm || b0 || !b1 then 0 else 1) (hL : (d.rd i).length = if !b0 && b1 then 16 else 0) :
    Calls Try.prog 3 #[.int .i64 (n : Int), .int .i64 i, .int .i64 (m : Int)] w fun e w' => e = .returned (.bool true) ∧ Below w.heap.size w w' := by
  have d0 : decide ((n : Int) < 0) = false := decide_eq_false (by omega)
  have d1 : decide ((20 : Int) < (n : Int)) = false := decide_eq_false (by omega)
  have d1' : decide ((n : Int) > 20) = false := decide_eq_false (by omega)
  have d1'' : decide (20 < n) = false := decide_eq_false (by omega)
  have d2 : decide ((m : Int) < 0) = false := decide_eq_false (by omega)
  have d3 : decide ((40 : Int) < (m : Int)) = false := decide_eq_false (by omega)
  have d3' : decide ((m : Int) > 40) = false := decide_eq_false (by omega)
  have d3'' : decide (40 < m) = false := decide_eq_false (by omega)
  have hmk := makeAny m hm
  have HN := Aside0.mk hn
  have HM := Aside0.mk hm
  have HW := Aside0.mk hw
  have HNN := Aside0.mk hN
  have HL := Aside0.mk hL
  clear hw hN hL hn hm
  go_enter Try.func3, Try.ntmps3
  cases bm <;> cases b0 <;> cases b1
  all_goals
    simp only [Bool.not_true, Bool.not_false, Bool.true_or, Bool.false_or, Bool.or_true, Bool.or_false, Bool.and_true, Bool.and_false, Bool.true_and, Bool.false_and, if_true, if_false, Bool.false_eq_true] at *
    go_wp2_with (first
      | (go_at_call 16; refine (known_any w4).mono ?_; rintro e w6 ⟨rfl, hB⟩; have HB6 := Aside0.mk hB; clear hB)
      | (go_at_call 15; refine (st_read S3.out i).mono ?_; rintro e w4 ⟨v0, rfl, hR, hS, hM, hB⟩; have S4 := Aside0.mk hS; obtain ⟨A', c', hv0, -, -⟩ := Kd.R_reads hR; rw [HL.out] at hv0; subst hv0; clear hR hS hM hB)
      | (go_at_call 14; refine (st_ops S3.out).mono ?_; rw [HNN.out]; rintro e w7 ⟨rfl, rfl⟩)
      | (go_at_call 13; refine (by have h := st_write S2.out i w1.heap.size m (zr m) (by simp) (blk_new w1 _) (by rw [zr_len]; exact Nat.le_refl _) (by rw [zr_len]; have := HM.out; omega) (by simp [DS.new]); rw [HW.out, zr_len] at h; exact h : Calls Try.prog 13 #[.pointer (some ⟨w.heap.size, 0, none⟩), .int .i64 i, .slice (some ⟨w1.heap.size, 0, none⟩) m m] (w1.alloc (.cells ((zr m).map (Value.int .u8)).toArray 5)) _).mono ?_; rintro e w3 ⟨rfl, hS, hM⟩; have S3 := Aside0.mk hS; clear hS hM)
      | (go_at_call 12; refine (st_new n (by have := HN.out; omega) w _ (Below.refl _ _) [] (fun x hx => by cases hx)).mono ?_; rintro e w1 ⟨rfl, hS, hM⟩; have S1 := Aside0.mk hS; have S2 : Aside0 (St w [w1.heap.size] (w1.alloc (.cells ((zr m).map (Value.int .u8)).toArray 5)) w.heap.size (DS.new n)) := ⟨St.more hS (below_alloc (Below.refl _ _) _) _ (Nat.le_refl _) (by simp)⟩; clear hS hM))
    go_ret
    exact ⟨rfl, S4.out.2.1.trans (HB6.out.mono S4.out.2.1.size)⟩
def lazaruslaw3_DiskOutside.f (a0 : Int) (a1 : Int) (a2 : Int) : Option Bool := some true
set_option maxHeartbeats 4000000 in
set_option maxRecDepth 100000 in
theorem lazaruslaw3_DiskOutside.calls (a0 : Int) (a1 : Int) (a2 : Int) (r : Bool) (w : World) (h : lazaruslaw3_DiskOutside.f a0 a1 a2 = some r) :
    Calls Try.prog 3 #[.int .i64 a0, .int .i64 a1, .int .i64 a2] w fun e w' => e = .returned (.bool r) ∧ Below w.heap.size w w' := by
  obtain rfl : true = r := Option.some.inj h
  clear h
  by_cases hout : a0 < 0 ∨ 20 < a0 ∨ a2 < 0 ∨ 40 < a2
  · go_enter Try.func3, Try.ntmps3
    cases d0 : decide (a0 < 0)
    · cases d1 : decide (20 < a0)
      · have d1' : decide (a0 > 20) = false := d1
        cases d2 : decide (a2 < 0)
        · have d3 : decide (40 < a2) = true := by
            rw [decide_eq_false_iff_not] at d0 d1 d2
            exact decide_eq_true (by omega)
          have d3' : decide (a2 > 40) = true := d3
          go_wp2
          go_ret
          exact ⟨rfl, Below.refl _ _⟩
        · go_wp2
          go_ret
          exact ⟨rfl, Below.refl _ _⟩
      · have d1' : decide (a0 > 20) = true := d1
        go_wp2
        go_ret
        exact ⟨rfl, Below.refl _ _⟩
    · go_wp2
      go_ret
      exact ⟨rfl, Below.refl _ _⟩
  obtain ⟨n, rfl⟩ : ∃ n : Nat, a0 = (n : Int) := ⟨a0.toNat, by omega⟩
  obtain ⟨m, rfl⟩ : ∃ m : Nat, a2 = (m : Int) := ⟨a2.toNat, by omega⟩
  have hsn : (DS.new n).S.length = n := by simp [DS.new]
  have n1 := not_lt0 a1 0
  have n2 := not_lt0 a1 (n : Int)
  have hL : ∀ (d : DS) (c : Int), (DS.new n).wr a1 (zr m) = (d, c) → d.S.length = n → (d.rd a1).length = if (!decide (a1 < 0) && decide (a1 < (n : Int))) = true then 16 else 0 := fun d c e hs => by
    rw [out_len n m a1 d c e hs]
    by_cases h1 : a1 < 0 <;> by_cases h2 : a1 < (n : Int) <;> simp [h1, h2] <;> omega
  by_cases hm : m = 16
  · have m1 : ((m : Int) != 16) = false := by simp [hm]
    have m2 : ((m : Int) == 16) = !false := by simp [hm]
    have m3 : decide ((m : Int) = 16) = !false := by simp [hm]
    have m4 : decide (m = 16) = !false := by simp [hm]
    by_cases hi : a1 < 0 ∨ (n : Int) ≤ a1
    · have e := out_full n a1 (zr m) (by rw [zr_len]; exact hm) hi
      have hb : (decide (a1 < 0) || !decide (a1 < (n : Int))) = true := by rcases hi with hi | hi <;> simp [hi]
      exact out_core n m a1 w false (decide (a1 < 0)) (decide (a1 < (n : Int))) (by omega) (by omega) m1 m2 m3 m4 rfl n1 n1 rfl n2 n2 (DS.new n) (by rw [e, if_neg (by simp), if_pos hb]) (by rw [Bool.false_or, if_pos hb]; rfl) (hL _ _ e hsn)
    · have e := out_fine n a1 (zr m) (by rw [zr_len]; exact hm) hi
      have hb : (decide (a1 < 0) || !decide (a1 < (n : Int))) = false := by
        have h1 : ¬ a1 < 0 := fun h => hi (.inl h)
        have h2 : a1 < (n : Int) := by omega
        simp [h1, h2]
      exact out_core n m a1 w false (decide (a1 < 0)) (decide (a1 < (n : Int))) (by omega) (by omega) m1 m2 m3 m4 rfl n1 n1 rfl n2 n2 _ (e.trans (by rw [if_neg (by simp), if_neg (by simp only [hb]; simp)])) (by rw [Bool.false_or, if_neg (by simp only [hb]; simp)]) (hL _ _ e hsn)
  · have m1 : ((m : Int) != 16) = true := by simp; omega
    have m2 : ((m : Int) == 16) = !true := by simp; omega
    have m3 : decide ((m : Int) = 16) = !true := by simp; omega
    have m4 : decide (m = 16) = !true := by simp; omega
    have e := out_arg n a1 (zr m) (by rw [zr_len]; exact hm)
    exact out_core n m a1 w true (decide (a1 < 0)) (decide (a1 < (n : Int))) (by omega) (by omega) m1 m2 m3 m4 rfl n1 n1 rfl n2 n2 (DS.new n) (by rw [e, if_pos rfl]) (by rw [Bool.true_or, Bool.true_or, if_pos rfl]; rfl) (hL _ _ e hsn)
end Go.Proofs.Ytnahlhabhipfmaa.QDiskOutside
