-- Written by a program of this session (wip/tools), out of the kit's print of the loaded program: functions, and proofs that the calls come to them.
import Derived.Test.YtnhmfeihnjdcpaaDoorQSplitFieldsx0
import Derived.Test.YtnhmfeihnjdcpaaDoorQSplitFieldsx1
namespace Go.Proofs.YtnhmfeihnjdcpaaDoor.QSplitFields
open Go.RowKit Go.Proofs.YtnhmfeihnjdcpaaDoorW.PrintWords Go.Proofs.YtnhmfeihnjdcpaaDoorW.PrintLast Go.Proofs.YtnhmfeihnjdcpaaDoorW.PrintMore
attribute [local go_sem] max2_int min2_int max_two min_two max_three min_three max_four min_four   -- for this text's walks alone
set_option linter.unusedVariables false
set_option linter.unusedSimpArgs false

attribute [local go_sem high] eqA57
/-! ### lazarusref13_Same: function 29 -/
def lazarusref13_Same.l0 : Nat → List (S57) → List (S57) → Int → Option (Bool)
  | 0, _, _, _ => none
  | k + 1, x0, x1, x5 => if x5 < (x0.length : Int) then (if 0 ≤ x5 then (if x5 < (x1.length : Int) then (if (!(((rd_T57 x0 x5).f0) == ((rd_T57 x1 x5).f0)) || (!(((rd_T57 x0 x5).f1) == ((rd_T57 x1 x5).f1)))) = true then (some false) else (lazarusref13_Same.l0 k x0 x1 (wrap64 (x5 + 1)))) else (none)) else (none)) else (some true)
def lazarusref13_Same.f (k : Nat) (l0 : List (S57)) (l1 : List (S57)) : Option (Bool) := if (l0.length : Int) = (l1.length : Int) then (lazarusref13_Same.l0 k l0 l1 0) else (some false)
theorem lazarusref13_Same.mono_l : ∀ k, (∀ y0 y1 y2, LeO (lazarusref13_Same.l0 k y0 y1 y2) (lazarusref13_Same.l0 (k + 1) y0 y1 y2))
  | 0 => fun _ _ _ r h => by simp [lazarusref13_Same.l0] at h
  | k + 1 => by
    have ih0 := lazarusref13_Same.mono_l k
    · intro y0 y1 y2
      unfold lazarusref13_Same.l0
      repeat' first
      | (with_reducible exact ih0 _ _ _)
      | (with_reducible exact LeO.refl _)
      | (with_reducible exact LeO.none _)
      | (with_reducible refine LeO.ite ?_ ?_)
      | (with_reducible refine LeO.bind ?_ (fun _ => ?_))
      | exact ih0 _ _ _
      | exact LeO.none _
      | refine LeO.ite ?_ ?_
      | refine LeO.bind ?_ (fun _ => ?_)
theorem lazarusref13_Same.mono : ∀ a0 a1 k, LeO (lazarusref13_Same.f k a0 a1) (lazarusref13_Same.f (k + 1) a0 a1) := by
  intro a0 a1 k
  have ih0 := lazarusref13_Same.mono_l k
  unfold lazarusref13_Same.f
  repeat' first
      | (with_reducible exact ih0 _ _ _)
      | (with_reducible exact LeO.refl _)
      | (with_reducible exact LeO.none _)
      | (with_reducible refine LeO.ite ?_ ?_)
      | (with_reducible refine LeO.bind ?_ (fun _ => ?_))
      | exact ih0 _ _ _
      | exact LeO.none _
      | refine LeO.ite ?_ ?_
      | refine LeO.bind ?_ (fun _ => ?_)
set_option maxHeartbeats 8000000 in
set_option maxRecDepth 100000 in
theorem lazarusref13_Same.calls (k : Nat) (A0 : Option Addr) (c0 : Nat) (l0 : List (S57)) (A1 : Option Addr) (c1 : Nat) (l1 : List (S57)) (r : Bool) (w : World) (hr0 : Kd.C k57 w A0 l0.length l0) (hc0 : l0.length ≤ c0) (hr1 : Kd.C k57 w A1 l1.length l1) (hc1 : l1.length ≤ c1) (h : lazarusref13_Same.f k l0 l1 = some r) :
    Calls Tryd.prog 29 #[.slice A0 l0.length c0, .slice A1 l1.length c1] w fun e w' => e = .returned (.bool r) ∧ Drawn0 w w' := by
  have hu57 := Tryd.underlying57
  have HR0 := Aside0.mk hr0
  have HC0 := Aside0.mk hc0
  clear hr0 hc0
  have HR1 := Aside0.mk hr1
  have HC1 := Aside0.mk hc1
  clear hr1 hc1
  have H : (if (l0.length : Int) = (l1.length : Int) then (lazarusref13_Same.l0 k l0 l1 0) else (some false)) = some r := h
  clear h
  by_cases c3 : (l0.length : Int) = (l1.length : Int)
  · rw [if_pos c3] at H
    have c3b0 : ((l0.length : Int) == (l1.length : Int)) = true := beq_iff_eq.mpr c3
    have c3b1 : ((l0.length : Int) != (l1.length : Int)) = false := bne_eq_false_iff_eq.mpr c3
    have c3b2 : (l0.length == l1.length) = true := by first | simpa using c3 | (simp at c3 ⊢; omega)
    clear c3
    have H' := Aside0.mk H
    clear H
    go_enter Tryd.func29, Tryd.ntmps29
    go_wp2
    repeat (go_quiet (fail); try go_wp2)
    go_loopg [5] k (fun kq v5 w' => ∃ (x5_1 : Int), v5 = .int .i64 x5_1 ∧ Aside0 (lazarusref13_Same.l0 kq l0 l1 x5_1 = some r) ∧ Aside0 (kq ≤ k) ∧ Drawn0 w w')
    case atStart => exact ⟨(0), (by first | rfl | (simp; done) | (simp [*]; done) | (simp; unfold wrap64; omega)), H', ⟨Nat.le_refl _⟩, by repeat (first | exact Drawn0.refl _ | apply Drawn0.step)⟩
    case round =>
      clear H'
      try clear c1
      try clear c2
      try clear p2
      try clear c3
      try clear c3b0
      try clear c3b1
      try clear c3b2
      obtain ⟨x5_1, rfl, HA, HK1, ⟨m1, rfl⟩⟩ := hrel
      cases gk with
      | zero => exact absurd HA.out (by simp [lazarusref13_Same.l0])
      | succ k1 =>
        have H := HA.out
        clear HA
        simp only [lazarusref13_Same.l0] at H
        by_cases c4 : x5_1 < (l0.length : Int)
        · rw [if_pos c4] at H
          have c4b0 : decide (x5_1 < (l0.length : Int)) = true := decide_eq_true c4
          clear c4
          by_cases c5 : 0 ≤ x5_1
          · rw [if_pos c5] at H
            have c5b0 : decide (0 ≤ x5_1) = true := decide_eq_true c5
            clear c5
            by_cases c6 : x5_1 < (l1.length : Int)
            · rw [if_pos c6] at H
              have c6b0 : decide (x5_1 < (l1.length : Int)) = true := decide_eq_true c6
              clear c6
              by_cases c7 : (!(((rd_T57 l0 x5_1).f0) == ((rd_T57 l1 x5_1).f0)) || (!(((rd_T57 l0 x5_1).f1) == ((rd_T57 l1 x5_1).f1)))) = true
              · rw [if_pos c7] at H
                have c7b0 : (!(((rd_T57 l0 x5_1).f0) == ((rd_T57 l1 x5_1).f0)) || (!(((rd_T57 l0 x5_1).f1) == ((rd_T57 l1 x5_1).f1)))) = true := c7
                clear c7
                obtain rfl := Option.some.inj H
                have p101 : 0 ≤ (x5_1 : Int) := of_decide_eq_true (by first | (with_reducible assumption) | assumption)
                have q101 : x5_1 < (l0.length : Int) := of_decide_eq_true (by first | (with_reducible assumption) | assumption)
                obtain ⟨ad101, e101, hx101_0, hx101_1⟩ := at_T57 HR0.out x5_1 p101 q101
                cases e101
                replace p101 := eq_true p101
                replace q101 := eq_true q101
                have p102 : 0 ≤ (x5_1 : Int) := of_decide_eq_true (by first | (with_reducible assumption) | assumption)
                have q102 : x5_1 < (l1.length : Int) := of_decide_eq_true (by first | (with_reducible assumption) | assumption)
                obtain ⟨ad102, e102, hx102_0, hx102_1⟩ := at_T57 HR1.out x5_1 p102 q102
                cases e102
                replace p102 := eq_true p102
                replace q102 := eq_true q102
                go_wp2
                repeat (go_quiet (fail); try go_wp2)
                go_ret
                exact ⟨by first | rfl | (simp; done) | (simp [*]; done) | (simp; unfold wrap64; omega) | (simp; generalize ByteArray.toList _ = l_; cases l_ <;> simp), by repeat (first | exact Drawn0.refl _ | apply Drawn0.step)⟩
              · rw [if_neg c7] at H
                have c7b0 : (!(((rd_T57 l0 x5_1).f0) == ((rd_T57 l1 x5_1).f0)) || (!(((rd_T57 l0 x5_1).f1) == ((rd_T57 l1 x5_1).f1)))) = false := by simpa using c7
                clear c7
                have H' := Aside0.mk H
                clear H
                have p101 : 0 ≤ (x5_1 : Int) := of_decide_eq_true (by first | (with_reducible assumption) | assumption)
                have q101 : x5_1 < (l0.length : Int) := of_decide_eq_true (by first | (with_reducible assumption) | assumption)
                obtain ⟨ad101, e101, hx101_0, hx101_1⟩ := at_T57 HR0.out x5_1 p101 q101
                cases e101
                replace p101 := eq_true p101
                replace q101 := eq_true q101
                have p102 : 0 ≤ (x5_1 : Int) := of_decide_eq_true (by first | (with_reducible assumption) | assumption)
                have q102 : x5_1 < (l1.length : Int) := of_decide_eq_true (by first | (with_reducible assumption) | assumption)
                obtain ⟨ad102, e102, hx102_0, hx102_1⟩ := at_T57 HR1.out x5_1 p102 q102
                cases e102
                replace p102 := eq_true p102
                replace q102 := eq_true q102
                go_wp2
                repeat (go_quiet (fail); try go_wp2)
                go_roundg k1
                case measure => have := HK1.out; omega
                case rel => exact ⟨(wrap64 (x5_1 + 1)), (by first | rfl | (simp; done) | (simp [*]; done) | (simp; unfold wrap64; omega)), H', ⟨by have := HK1.out; omega⟩, by repeat (first | exact Drawn0.refl _ | apply Drawn0.step)⟩
            · rw [if_neg c6] at H
              exact absurd H (by simp)
          · rw [if_neg c5] at H
            exact absurd H (by simp)
        · rw [if_neg c4] at H
          have c4b0 : decide (x5_1 < (l0.length : Int)) = false := decide_eq_false c4
          clear c4
          obtain rfl := Option.some.inj H
          go_wp2
          repeat (go_quiet (fail); try go_wp2)
          go_ret
          exact ⟨by first | rfl | (simp; done) | (simp [*]; done) | (simp; unfold wrap64; omega) | (simp; generalize ByteArray.toList _ = l_; cases l_ <;> simp), by repeat (first | exact Drawn0.refl _ | apply Drawn0.step)⟩
  · rw [if_neg c3] at H
    have c3b0 : ((l0.length : Int) == (l1.length : Int)) = false := beq_eq_false_iff_ne.mpr c3
    have c3b1 : ((l0.length : Int) != (l1.length : Int)) = true := bne_iff_ne.mpr c3
    have c3b2 : (l0.length == l1.length) = false := by first | simpa using c3 | (simp at c3 ⊢; omega)
    obtain rfl := Option.some.inj H
    go_enter Tryd.func29, Tryd.ntmps29
    go_wp2
    repeat (go_quiet (fail); try go_wp2)
    go_ret
    exact ⟨by first | rfl | (simp; done) | (simp [*]; done) | (simp; unfold wrap64; omega) | (simp; generalize ByteArray.toList _ = l_; cases l_ <;> simp), by repeat (first | exact Drawn0.refl _ | apply Drawn0.step)⟩

/-! ### glyph_Runes: function 23 -/
theorem glyph_Runes.info : (Tryd.prog.info? 21).map (fun i => (i.zero, i.size, i.bytes)) = some (some (.int .i32 0), 1, 4) := by kernel_rfl
def glyph_Runes.f (a0 : ByteArray) : Option (List Int) := if a0.size < 17592186044416 then some (Kd.letters a0) else none
set_option maxHeartbeats 2000000 in
theorem glyph_Runes.calls (a0 : ByteArray) (r : List Int) (w : World) (h : glyph_Runes.f a0 = some r) :
    Calls Tryd.prog 23 #[.string a0] w fun e w' => ∃ v0_, e = .returned v0_ ∧ Kd.R (Kd.int .i32) 21 w' w.heap.size (fun _ => True) v0_ r ∧ Below w.heap.size w w' := by
  unfold glyph_Runes.f at h
  by_cases hl : a0.size < 17592186044416
  · rw [if_pos hl] at h
    injection h with h
    subst h
    go_enter Tryd.func23, Tryd.ntmps23
    go_wp2
    go_loopw [3] (fun v wr => ∃ (xs : List Int) (pos : Nat), wr.heap[w.heap.size]? = some (.stringIter a0 pos) ∧ Aside0 (Kd.R (Kd.int .i32) 21 wr w.heap.size (fun k => k ≠ w.heap.size) v xs) ∧ Aside0 (Below w.heap.size w wr) ∧ Aside0 (xs ++ Kd.letN a0 (a0.size - pos) pos = Kd.letters a0) ∧ xs.length ≤ pos) (fun _ wr => a0.size - wr.iterPos w.heap.size)
    case atStart => exact ⟨[], 0, World.iter_heap w a0 0, ⟨Kd.R_nil _ _ _ _ _⟩, ⟨(Below.refl _ _).alloc (Nat.le_refl _) _⟩, ⟨rfl⟩, Nat.le_refl _⟩
    case round =>
      obtain ⟨xs, pos, hit, HR, HB, HI, hlen⟩ := hrel
      have hpos0 := Kd.iterPos_is hit
      by_cases hp : pos < a0.size
      · have hnx : ∀ ty, (Instr.next (.pointer (some ⟨w.heap.size, 0, none⟩)) true ty).run Tryd.prog wr = _ := fun ty => Lib.run_next_any_at wr w.heap.size a0 pos ty hit hp
        have hwd := Kd.width_pos a0 pos hp
        have HI2 : Aside0 ((xs ++ [((Utf8.decode a0 pos).1 : Int)]) ++ Kd.letN a0 (a0.size - (pos + (Utf8.decode a0 pos).2)) (pos + (Utf8.decode a0 pos).2) = Kd.letters a0) := ⟨by rw [← HI.out, Kd.letN_at a0 pos hp]; simp⟩
        have hit2 := Lib.iterAt_heap wr w.heap.size a0 pos (pos + (Utf8.decode a0 pos).2) hit
        have HB2 := Aside0.mk (Lib.below_iterAt HB.out (k := w.heap.size) (Nat.le_refl _) a0 (pos + (Utf8.decode a0 pos).2))
        have HR2 := Aside0.mk (Kd.R_step HR.out (fun k ho hk => Lib.iterAt_other wr w.heap.size k a0 (pos + (Utf8.decode a0 pos).2) ho))
        obtain ⟨W1, hW1⟩ : ∃ W1, W1 = wr.iterAt w.heap.size a0 (pos + (Utf8.decode a0 pos).2) := ⟨_, rfl⟩
        rw [← hW1] at hnx hit2 HB2 HR2
        have hBlt := (Array.getElem?_eq_some_iff.1 hit2).1
        have HIT := Aside0.mk hit2
        clear hW1 hit HR HB HI hit2
        have hp2 : pos < pos + (Utf8.decode a0 pos).2 := by omega
        clear hwd
        generalize (Utf8.decode a0 pos).1 = c at hnx HI2
        generalize pos + (Utf8.decode a0 pos).2 = p2 at *
        go_wp2_with ((with_reducible refine gate_builtin (b := .append) (xs := #[.tmp 11, .tmp 13]) rfl ?_); at_builtin; refine Kd.R_append (Kd.int .i32) (w0 := w) w.heap.size rfl (.tmp 11) (.tmp 13) 23 21 (.int .i32 0) 4 rfl Tryd.underlying23 glyph_Runes.info rfl (by decide) (by omega) _ xs (c : Int) [.int .i32 (c : Int)] (fun k => k ≠ w.heap.size) (fun _ => False) rfl rfl ?aP (fun _ hk => hk.elim) ?aF ?aO ?aB ?aS ?aL ?_; (case aP => exact rfl); (case aF => exact fun k hk => by omega); (case aB => exact HB2.out); (case aO => exact HR2.out); (case aS => exact HB2.out.size); (case aL => omega); intro v1 w3 ho hb hg hat; have HO3 := Aside0.mk ho; have HB3 := Aside0.mk hb; have HIT3 := Aside0.mk ((hg.block w.heap.size (by omega) (fun h => HR2.out.1 _ h.symm rfl)).trans HIT.out); clear ho hb hg hat)
        go_roundw
        case rel => exact ⟨_, _, HIT3.out, HO3, HB3, HI2, by simp; omega⟩
        case measure => rw [Kd.iterPos_is HIT3.out, hpos0]; omega
      · have hnx : ∀ ty, (Instr.next (.pointer (some ⟨w.heap.size, 0, none⟩)) true ty).run Tryd.prog wr = _ := fun ty => Lib.run_next_end_at wr w.heap.size a0 pos ty hit hp
        have e : xs = Kd.letters a0 := by rw [← HI.out, Kd.letN_end a0 _ pos hp, List.append_nil]
        subst e
        clear HI
        go_wp2
        go_ret
        exact ⟨_, rfl, Kd.R_mono HR.out (fun _ _ => trivial), HB.out⟩
  · rw [if_neg hl] at h
    cases h


/-! ### glob_Chars: function 26 -/
def glob_Chars.l0 : Nat → Bool → List (S57) → List Int → Int → Int → Option ((List (S57)))
  | 0, _, _, _, _, _ => none
  | k + 1, x1, x5, x9, x10, x11 => if x11 < x10 then (if 0 ≤ x11 then (if x11 < (x9.length : Int) then (if x5.length < 17592186044416 then (glob_Chars.l0 k x1 (x5 ++ [(⟨rd x9 x11, x1⟩ : S57)]) x9 x10 (wrap64 (x11 + 1))) else (none)) else (none)) else (none)) else (some x5)
def glob_Chars.f (k : Nat) (a0 : ByteArray) (a1 : Bool) : Option ((List (S57))) := (glyph_Runes.f a0).bind fun t103 => (glob_Chars.l0 k a1 ([] : List (S57)) t103 (t103.length : Int) 0)
theorem glob_Chars.mono_l : ∀ k, (∀ y0 y1 y2 y3 y4, LeO (glob_Chars.l0 k y0 y1 y2 y3 y4) (glob_Chars.l0 (k + 1) y0 y1 y2 y3 y4))
  | 0 => fun _ _ _ _ _ r h => by simp [glob_Chars.l0] at h
  | k + 1 => by
    have ih0 := glob_Chars.mono_l k
    · intro y0 y1 y2 y3 y4
      unfold glob_Chars.l0
      repeat' first
      | (with_reducible exact ih0 _ _ _ _ _)
      | (with_reducible exact LeO.refl _)
      | (with_reducible exact LeO.none _)
      | (with_reducible refine LeO.ite ?_ ?_)
      | (with_reducible refine LeO.bind ?_ (fun _ => ?_))
      | exact ih0 _ _ _ _ _
      | exact LeO.none _
      | refine LeO.ite ?_ ?_
      | refine LeO.bind ?_ (fun _ => ?_)
theorem glob_Chars.mono : ∀ a0 a1 k, LeO (glob_Chars.f k a0 a1) (glob_Chars.f (k + 1) a0 a1) := by
  intro a0 a1 k
  have ih0 := glob_Chars.mono_l k
  unfold glob_Chars.f
  repeat' first
      | (with_reducible exact ih0 _ _ _ _ _)
      | (with_reducible exact LeO.refl _)
      | (with_reducible exact LeO.none _)
      | (with_reducible refine LeO.ite ?_ ?_)
      | (with_reducible refine LeO.bind ?_ (fun _ => ?_))
      | exact ih0 _ _ _ _ _
      | exact LeO.none _
      | refine LeO.ite ?_ ?_
      | refine LeO.bind ?_ (fun _ => ?_)
set_option maxHeartbeats 8000000 in
set_option maxRecDepth 100000 in
theorem glob_Chars.calls (k : Nat) (a0 : ByteArray) (a1 : Bool) (r : List (S57)) (w : World) (h : glob_Chars.f k a0 a1 = some r) :
    Calls Tryd.prog 26 #[.string a0, .bool a1] w fun e w' => ∃ v0_ : Value, e = .returned (v0_) ∧ Kd.R k57 57 w' w.heap.size (fun _ => True) v0_ r ∧ Below w.heap.size w w' := by
  have hu57 := Tryd.underlying57
  have HB := Aside0.mk (Below.refl w.heap.size w)
  have H : ((glyph_Runes.f a0).bind fun t103 => (glob_Chars.l0 k a1 ([] : List (S57)) t103 (t103.length : Int) 0)) = some r := h
  clear h
  replace H := Option.bind_eq_some_iff.mp H
  obtain ⟨t103, A30, H⟩ := H
  replace H : (glob_Chars.l0 k a1 ([] : List (S57)) t103 (t103.length : Int) 0) = some r := H
  have A3 := Aside0.mk A30
  clear A30
  have H' := Aside0.mk H
  clear H
  go_enter Tryd.func26, Tryd.ntmps26
  go_wp2_with (first | ((with_reducible refine gate_callee (f := 23) rfl ?_); refine goesL_ (some 9) rfl rfl Tryd.func23 (by kernel_rfl) rfl #[.string a0] rfl (by (try simp only [List.map_toArray, List.map_cons, List.map_nil]); first | done | rfl | (simp only [List.length_drop, List.length_take]; rfl)) ?_; (with_reducible refine (glyph_Runes.calls a0 t103 _ A3.out).mono ?_); rintro e w4 ⟨v104, rfl, ho0, hb⟩; refine ⟨_, rfl, ?_⟩; have n0_ := Aside0.mk (Kd.R_lower ho0 (below_size (by repeat (first | (with_reducible first | exact HB.out | apply below_alloc | apply pw_below_drewN | apply below_drew1) | exact HB.out)))); have n1_ := Aside0.mk (below_step (by repeat (first | (with_reducible first | exact HB.out | apply below_alloc | apply pw_below_drewN | apply below_drew1) | exact HB.out)) hb); clear HB; have HO105 := n0_; have HB := n1_; clear n0_ n1_; (try clear hb); (try clear hb2); (try clear hk); (try clear hi); (try clear ho0); obtain ⟨Ao5, co5, eo5⟩ := Kd.R_slice HO105.out; subst eo5))
  go_loopg [5, 11] k (fun kq v5 v11 w' => ∃ (x5_1 : List (S57)) (x11_1 : Int), v11 = .int .i64 x11_1 ∧ Aside0 (glob_Chars.l0 kq a1 x5_1 t103 (t103.length : Int) x11_1 = some r) ∧ Aside0 (kq ≤ k) ∧ Aside0 (Kd.R k57 57 w' w.heap.size (fun _ => True) v5 x5_1) ∧ Aside0 (Kd.R (Kd.int .i32) 21 w' w.heap.size (fun _ => True) (.slice Ao5 t103.length co5) t103) ∧ Aside0 (Below w.heap.size w w'))
  case atStart => exact ⟨(([] : List (S57))), (0), (by first | rfl | (simp; done) | (simp [*]; done) | (simp; unfold wrap64; omega)), H', ⟨Nat.le_refl _⟩, ⟨by first | exact Kd.R_nil _ _ _ _ _ | exact Kd.N_nil _ _ _ _ _ | exact Kd.V_nil _ _ _ _ _ | exact Kd.Q_nil _ _ _ _ _ | exact Kd.S_nil _ _ _ _ _⟩, ⟨by (with_reducible repeat (first | apply Kd.R_alloc | apply Kd.R_drewN | apply Kd.R_drew)); exact HO105.out⟩, ⟨by repeat (first | (with_reducible first | exact HB.out | apply below_alloc | apply pw_below_drewN | apply below_drew1) | exact HB.out)⟩⟩
  case round =>
    clear H'
    try clear c2
    try clear p2
    obtain ⟨x5_1, x11_1, rfl, HA, HK1, HO_5, HO_9, HB⟩ := hrel
    cases gk with
    | zero => exact absurd HA.out (by simp [glob_Chars.l0])
    | succ k1 =>
      have H := HA.out
      clear HA
      simp only [glob_Chars.l0] at H
      by_cases c6 : x11_1 < (t103.length : Int)
      · rw [if_pos c6] at H
        have c6b0 : decide (x11_1 < (t103.length : Int)) = true := decide_eq_true c6
        clear c6
        by_cases c7 : 0 ≤ x11_1
        · rw [if_pos c7] at H
          have c7b0 : decide (0 ≤ x11_1) = true := decide_eq_true c7
          clear c7
          by_cases c8 : x11_1 < (t103.length : Int)
          · rw [if_pos c8] at H
            have c8b0 : decide (x11_1 < (t103.length : Int)) = true := decide_eq_true c8
            clear c8
            by_cases c9 : x5_1.length < 17592186044416
            · rw [if_pos c9] at H
              have LMc9 := Aside0.mk c9
              clear c9
              obtain ⟨y107, hy107⟩ : ∃ y_ : List (S57), y_ = (x5_1 ++ [(⟨rd t103 x11_1, a1⟩ : S57)]) := ⟨_, rfl⟩
              replace H : (glob_Chars.l0 k1 a1 y107 t103 (t103.length : Int) (wrap64 (x11_1 + 1))) = some r := by first | (rw [hy107]; with_reducible exact H) | (have H2_ := (Option.bind_some _ _).symm.trans H; rw [hy107]; with_reducible exact H2_) | (have H2_ := (Option.bind_some _ _).symm.trans H; with_reducible exact H2_) | with_reducible exact H | (rw [hy107]; exact H) | exact H
              have Ny107 := Aside0.mk hy107
              clear hy107
              have H' := Aside0.mk H
              clear H
              have p106 : 0 ≤ (x11_1 : Int) := of_decide_eq_true (by first | (with_reducible assumption) | assumption)
              have q106 : x11_1 < (t103.length : Int) := of_decide_eq_true (by first | (with_reducible assumption) | assumption)
              obtain ⟨ad106, e106, hx106_0⟩ := Kd.at_int (Kd.R_reads' HO_9.out).2.2 x11_1 p106 q106
              cases e106
              replace p106 := eq_true p106
              replace q106 := eq_true q106
              go_wp2_with (first | ((with_reducible refine gate_builtin (b := .append) (xs := #[.tmp 15, .tmp 19]) rfl ?_); at_builtin; refine Kd.R_append k57 (w0 := w) w.heap.size rfl (.tmp 15) (.tmp 19) 33 57 (.agg #[(.int .i32 0), (.bool false)]) 8 rfl Tryd.underlying33 info57 rfl (by decide) (by omega) u5 x5_1 (⟨rd t103 x11_1, a1⟩ : S57) [.int .i32 (rd t103 x11_1), .bool a1] (fun _ => True) (fun _ => False) rfl rfl ?aP (fun _ hk => hk.elim) ?aF ?aO ?aB ?aS ?aL ?_; (case aP => exact k57_mkM _ _ _ (⟨rd t103 x11_1, a1⟩ : S57)); (case aB => exact (by repeat (first | (with_reducible first | exact HB.out | apply below_alloc | apply pw_below_drewN | apply below_drew1) | exact HB.out))); (case aF => exact (fun _ _ => trivial)); (case aO => exact (by (with_reducible repeat (first | apply Kd.R_alloc | apply Kd.R_drewN | apply Kd.R_drew)); exact HO_5.out)); (case aS => exact (below_size (by repeat (first | (with_reducible first | exact HB.out | apply below_alloc | apply pw_below_drewN | apply below_drew1) | exact HB.out)))); (case aL => have := LMc9.out; omega); intro v108 w10 ho hb hg hat; rw [← Ny107.out] at ho; have n0_ := Aside0.mk (Kd.R_over' (by (with_reducible repeat (first | apply Kd.R_alloc | apply Kd.R_drewN | apply Kd.R_drew)); exact HO_9.out) (Kd.R_typed (by (with_reducible repeat (first | apply Kd.R_alloc | apply Kd.R_drewN | apply Kd.R_drew)); exact HO_5.out)) (by decide) hg); have n1_ := Aside0.mk (hb); have n2_ := Aside0.mk (ho); clear HO_9; clear HB; clear HO_5; have HO_9 := n0_; have HB := n1_; have HO109 := n2_; clear n0_ n1_ n2_; clear ho hb hg hat))
              go_roundg k1
              case measure => have := HK1.out; omega
              case rel => exact ⟨(y107), (wrap64 (x11_1 + 1)), (by first | rfl | (simp; done) | (simp [*]; done) | (simp; unfold wrap64; omega)), H', ⟨by have := HK1.out; omega⟩, ⟨by (with_reducible repeat (first | apply Kd.R_alloc | apply Kd.R_drewN | apply Kd.R_drew)); exact HO109.out⟩, ⟨by (with_reducible repeat (first | apply Kd.R_alloc | apply Kd.R_drewN | apply Kd.R_drew)); exact HO_9.out⟩, ⟨by repeat (first | (with_reducible first | exact HB.out | apply below_alloc | apply pw_below_drewN | apply below_drew1) | exact HB.out)⟩⟩
            · rw [if_neg c9] at H
              exact absurd H (by simp)
          · rw [if_neg c8] at H
            exact absurd H (by simp)
        · rw [if_neg c7] at H
          exact absurd H (by simp)
      · rw [if_neg c6] at H
        have c6b0 : decide (x11_1 < (t103.length : Int)) = false := decide_eq_false c6
        clear c6
        obtain rfl := Option.some.inj H
        go_wp2
        go_ret
        exact ⟨_, by first | rfl | (simp [errW_none, errW_some] <;> rfl) | (simp [*, errW_none, errW_some] <;> rfl), by (with_reducible repeat (first | apply Kd.R_alloc | apply Kd.R_drewN | apply Kd.R_drew)); exact HO_5.out, by repeat (first | (with_reducible first | exact HB.out | apply below_alloc | apply pw_below_drewN | apply below_drew1) | exact HB.out)⟩

-- NOT PRINTED: function 48 (split_maker_ends)

-- NOT PRINTED: function 49 (split_maker_puts)

/-! ### glyph_Blank: function 17 -/
def glyph_Blank.f (a0 : Int) : Option (Bool) := if a0 = 32 then (some true) else (if a0 = 9 then (some true) else (some (a0 == 10)))
set_option maxHeartbeats 8000000 in
set_option maxRecDepth 100000 in
theorem glyph_Blank.calls (a0 : Int) (r : Bool) (w : World) (h : glyph_Blank.f a0 = some r) :
    Calls Tryd.prog 17 #[.int .i32 a0] w fun e w' => e = .returned (.bool r) ∧ Drawn0 w w' := by
  have H : (if a0 = 32 then (some true) else (if a0 = 9 then (some true) else (some (a0 == 10)))) = some r := h
  clear h
  by_cases c2 : a0 = 32
  · rw [if_pos c2] at H
    have c2b0 : (a0 == 32) = true := beq_iff_eq.mpr c2
    have c2b1 : (a0 != 32) = false := bne_eq_false_iff_eq.mpr c2
    clear c2
    obtain rfl := Option.some.inj H
    go_enter Tryd.func17, Tryd.ntmps17
    go_wp2
    go_ret
    exact ⟨by first | rfl | (simp; done) | (simp [*]; done) | (simp; unfold wrap64; omega) | (simp; generalize ByteArray.toList _ = l_; cases l_ <;> simp), by repeat (first | exact Drawn0.refl _ | apply Drawn0.step)⟩
  · rw [if_neg c2] at H
    have c2b0 : (a0 == 32) = false := beq_eq_false_iff_ne.mpr c2
    have c2b1 : (a0 != 32) = true := bne_iff_ne.mpr c2
    by_cases c3 : a0 = 9
    · rw [if_pos c3] at H
      have c3b0 : (a0 == 9) = true := beq_iff_eq.mpr c3
      have c3b1 : (a0 != 9) = false := bne_eq_false_iff_eq.mpr c3
      clear c3
      obtain rfl := Option.some.inj H
      go_enter Tryd.func17, Tryd.ntmps17
      go_wp2
      go_ret
      exact ⟨by first | rfl | (simp; done) | (simp [*]; done) | (simp; unfold wrap64; omega) | (simp; generalize ByteArray.toList _ = l_; cases l_ <;> simp), by repeat (first | exact Drawn0.refl _ | apply Drawn0.step)⟩
    · rw [if_neg c3] at H
      have c3b0 : (a0 == 9) = false := beq_eq_false_iff_ne.mpr c3
      have c3b1 : (a0 != 9) = true := bne_iff_ne.mpr c3
      obtain rfl := Option.some.inj H
      go_enter Tryd.func17, Tryd.ntmps17
      go_wp2
      go_ret
      exact ⟨by first | rfl | (simp; done) | (simp [*]; done) | (simp; unfold wrap64; omega) | (simp; generalize ByteArray.toList _ = l_; cases l_ <;> simp), by repeat (first | exact Drawn0.refl _ | apply Drawn0.step)⟩

-- NOT PRINTED: function 50 (split_maker_plain)

/-! ### split_Fields: function 34 -/
theorem split_Fields.info34 : (Tryd.prog.info? 57).map (fun i => (i.zero, i.size, i.bytes)) = some (some (.agg #[.int .i32 0, .bool false]), 2, 8) := by kernel_rfl
theorem split_Fields.info23 : (Tryd.prog.info? 33).map (fun i => (i.zero, i.size, i.bytes)) = some (some (.slice none 0 0), 1, 24) := by kernel_rfl
structure split_Fields.St where
  fs : List (List S57)
  now : List S57
  begun : Bool
def split_Fields.Mk (w : World) (B g : Nat) (s : split_Fields.St) : Prop := ∃ vl vn, w.heap[g]? = some (.cells #[vl, vn, .bool s.begun] 69 (0, 0)) ∧ Kd.R (Kd.slice 57 k57) 33 w B (fun k => k ≠ g ∧ some k ≠ vn.ownBlock) vl s.fs ∧ Kd.R k57 57 w B (fun k => k ≠ g) vn s.now ∧ B ≤ g
def split_Fields.Oth (g : Nat) (w w' : World) : Prop := w.heap.size ≤ w'.heap.size ∧ ∀ k o, w.heap[k]? = some o → k ≠ g → (∀ c fz, o ≠ .cells c 57 fz) → (∀ c fz, o ≠ .cells c 33 fz) → w'.heap[k]? = some o
theorem split_Fields.Oth.set {g : Nat} {w w' : World} (h : split_Fields.Oth g w w') (j : Nat) (u : Value) : split_Fields.Oth g w (w'.setCell ⟨g, j, none⟩ u) :=
  ⟨by simpa [World.setCell] using h.1, fun k o hk hg h1 h2 => (Below.heap_setCell w' ⟨g, j, none⟩ u k hg).trans (h.2 k o hk hg h1 h2)⟩
theorem split_Fields.Oth.refl (g : Nat) (w : World) : split_Fields.Oth g w w := ⟨Nat.le_refl _, fun _ _ h _ _ _ => h⟩
theorem split_Fields.Oth.drewN {g : Nat} {w w' : World} (h : split_Fields.Oth g w w') (n : Nat) : split_Fields.Oth g w (w'.drewN n) := by
  have hb := pw_below_drewN (Below.refl w'.heap.size w') n
  exact ⟨Nat.le_trans h.1 hb.size, fun k o hk hg h1 h2 => (hb.block k (Array.getElem?_eq_some_iff.1 (h.2 k o hk hg h1 h2)).1).trans (h.2 k o hk hg h1 h2)⟩
theorem split_Fields.Oth.below {g : Nat} {w w' w2 : World} (h : split_Fields.Oth g w w') (hb : Below w'.heap.size w' w2) : split_Fields.Oth g w w2 :=
  ⟨Nat.le_trans h.1 hb.size, fun k o hk hg h1 h2 => (hb.block k (Array.getElem?_eq_some_iff.1 (h.2 k o hk hg h1 h2)).1).trans (h.2 k o hk hg h1 h2)⟩
theorem split_Fields.Oth.trans {g : Nat} {w w' w2 : World} (h : split_Fields.Oth g w w') (h' : split_Fields.Oth g w' w2) : split_Fields.Oth g w w2 :=
  ⟨Nat.le_trans h.1 h'.1, fun k o hk hg h1 h2 => h'.2 k o (h.2 k o hk hg h1 h2) hg h1 h2⟩
/-- What an append to a row of these types turns is of these types. -/
theorem split_Fields.Oth.grown {g : Nat} {w w' w2 : World} (h : split_Fields.Oth g w w') {row : Option Nat} (hg : w'.grownBy w2 row) (hr : ∀ k, row = some k → ∃ c fz, w'.heap[k]? = some (.cells c 57 fz) ∨ w'.heap[k]? = some (.cells c 33 fz)) : split_Fields.Oth g w w2 :=
  ⟨Nat.le_trans h.1 hg.size, fun k o hk hgk h1 h2 => by
    have h3 := h.2 k o hk hgk h1 h2
    have hlt := (Array.getElem?_eq_some_iff.1 h3).1
    rw [hg.block k hlt ?_]
    · exact h3
    · intro e
      obtain ⟨c, fz, hc | hc⟩ := hr k e.symm
      · rw [h3] at hc; exact h1 c fz (Option.some.inj hc)
      · rw [h3] at hc; exact h2 c fz (Option.some.inj hc)⟩
def split_Fields.endS (s : split_Fields.St) : split_Fields.St := ⟨if s.begun = true then s.fs ++ [s.now] else s.fs, [], false⟩
theorem split_Fields.ends_any (B g : Nat) (s : split_Fields.St) (w : World) (hM : split_Fields.Mk w B g s) (hl : s.fs.length < 4398046511104) :
    Calls Tryd.prog 48 #[.pointer (some ⟨g, 0, none⟩)] w fun e w' => e = .returned (.tuple #[]) ∧ split_Fields.Mk w' B g (split_Fields.endS s) ∧ split_Fields.Oth g w w' ∧ Below B w w' := by
  obtain ⟨vl, vn, hb, HL, HN, hBg⟩ := hM
  obtain ⟨fs, now, begun⟩ := s
  obtain ⟨An, cn, rfl⟩ := Kd.R_slice HN
  obtain ⟨Al, cl, rfl⟩ := Kd.R_slice HL
  simp only at hl hb HL HN
  have c0 : w.cell? ⟨g, 0, none⟩ = some (.slice Al fs.length cl) := (blk_cell hb 0).trans rfl
  have c1 : w.cell? ⟨g, 1, none⟩ = some (.slice An now.length cn) := (blk_cell hb 1).trans rfl
  have c2 : w.cell? ⟨g, 2, none⟩ = some (.bool begun) := (blk_cell hb 2).trans rfl
  have f0 := blk_frozen hb 0
  have f1 := blk_frozen hb 1
  have f2 := blk_frozen hb 2
  have HB := Aside0.mk hb
  have HL0 := Aside0.mk HL
  have HN0 := Aside0.mk HN
  have hl0 := Aside0.mk hl
  have hBg0 := Aside0.mk hBg
  have hgs := Aside0.mk (blk_lt hb)
  clear hb HL HN hl hBg
  have hlt : g ≠ w.heap.size := by have := hgs.out; omega
  cases begun with
  | false =>
    go_enter Tryd.func48, Tryd.ntmps48
    go_wp2
    go_end0
    refine ⟨rfl, ⟨.slice Al fs.length cl, .slice none 0 0, blk_put (blk_put HB.out 1 _ rfl) 2 _ rfl, ?_, Kd.R_nil _ _ _ _ _, hBg0.out⟩, ((split_Fields.Oth.refl g w).set 1 _).set 2 _, (((Below.refl _ _ : Below B w w).setCell hBg0.out _).setCell hBg0.out _)⟩
    exact Kd.R_mono (Kd.R_far (p := ⟨g, 2, none⟩) (Kd.R_far (p := ⟨g, 1, none⟩) HL0.out (fun _ hk => hk.1) _) (fun _ hk => hk.1) _) (fun k hk => ⟨hk.1, by simp [Value.ownBlock]⟩)
  | true =>
    have HLg : Aside0 (Kd.R (Kd.slice 57 k57) 33 w B (fun k => k ≠ g) (.slice Al fs.length cl) fs) := ⟨Kd.R_mono HL0.out (fun _ hk => hk.1)⟩
    have HDA : Aside0 (∀ o : Obj, (w.alloc o).drew = w.drew.alloc o) := ⟨fun _ => rfl⟩
    have cx0 : ((w.alloc (.cells #[.slice An now.length cn] 33)).drew).cell? ⟨g, 0, none⟩ = some (.slice Al fs.length cl) := (blk_cell (blk_drew (blk_alloc HB.out _)) 0).trans rfl
    go_enter Tryd.func48, Tryd.ntmps48
    go_wp2
    go_region_law (rw [HDA.out]; refine Kd.R_append_step (Kd.slice 57 k57) (w0 := w) B ?ew (.tmp 10) (.tmp 15) 43 33 (.slice none 0 0) 24 ?eo Tryd.underlying43 split_Fields.info23 rfl (by decide) (by decide) (.slice Al fs.length cl) fs now [.slice An now.length cn] (fun k => k ≠ g) (fun k => k ≠ g ∧ some k ≠ (Value.slice Al fs.length cl).ownBlock) ?e1 ?e2 ?aP (fun _ hk => hk) ?aF ?aO ?aB ?aS ?aL ?_; (case ew => simp [Region.wanted]); (case eo => rfl); (case e1 => rfl); (case e2 => rfl); (case aP => exact ⟨_, rfl, by repeat (first | exact Kd.R_apartR HN0.out HL0.out (by decide) | apply Kd.R_drew)⟩); (case aF => exact fun k hk => by have := hgs.out; simp at hk; omega); (case aO => exact Kd.R_drew HLg.out); (case aB => exact Below.drew (Below.refl _ _)); (case aS => have := hgs.out; have := hBg0.out; simp; omega); (case aL => have := hl0.out; omega); intro v1 w1 ho hb1 hg1 hat1; obtain ⟨A1, k1, hv1⟩ := Kd.R_slice ho; subst hv1; have HBn := Aside0.mk (blk_grown (blk_drew HB.out) hg1 (fun e => (HL0.out.1 g e.symm).1 rfl)); have c0' : w1.cell? ⟨g, 0, none⟩ = some (.slice Al fs.length cl) := (blk_cell HBn.out 0).trans rfl; have c1' : w1.cell? ⟨g, 1, none⟩ = some (.slice An now.length cn) := (blk_cell HBn.out 1).trans rfl; have c2' : w1.cell? ⟨g, 2, none⟩ = some (.bool true) := (blk_cell HBn.out 2).trans rfl; have f0' := blk_frozen HBn.out 0; have f1' := blk_frozen HBn.out 1; have f2' := blk_frozen HBn.out 2; have f0d : w1.drew.frozen? ⟨g, 0, none⟩ = false := f0'; have f0e : w1.drew.drew.frozen? ⟨g, 0, none⟩ = false := f0'; have HO1 := Aside0.mk ho; have HB1 := Aside0.mk hb1; have HG1 := Aside0.mk hg1; clear ho hb1 hg1 hat1)
    all_goals go_wp2
    all_goals go_end0
    all_goals
      have hR : Kd.R (Kd.slice 57 k57) 33 w1 B (fun k => k ≠ g) (.slice A1 (fs.length + 1) k1) (fs ++ [now]) := by
        have h := HO1.out
        simp only [List.length_append, List.length_cons, List.length_nil, Nat.zero_add] at h
        exact h
      refine ⟨rfl, ⟨.slice A1 (fs.length + 1) k1, .slice none 0 0, blk_put (blk_put (blk_put HBn.out 0 _ rfl) 1 _ rfl) 2 _ rfl, ?_, Kd.R_nil _ _ _ _ _, hBg0.out⟩, ((((split_Fields.Oth.refl g w).below (below_drew (Below.refl _ _))).grown HG1.out (fun k hk => ?_)).set 0 _ |>.set 1 _ |>.set 2 _), ((HB1.out.setCell hBg0.out _).setCell hBg0.out _).setCell hBg0.out _⟩
      · exact Kd.R_mono (Kd.R_far (p := ⟨g, 2, none⟩) (Kd.R_far (p := ⟨g, 1, none⟩) (Kd.R_far (p := ⟨g, 0, none⟩) hR (fun _ hk => hk) _) (fun _ hk => hk) _) (fun _ hk => hk) _) (fun k hk => ⟨hk, by simp [Value.ownBlock]⟩)
      · obtain ⟨c, hc⟩ := Kd.R_typed HLg.out k hk
        exact ⟨c, _, .inr hc⟩
/-! ### puts -/
def split_Fields.putS (l : List S57) (s : split_Fields.St) : split_Fields.St := ⟨s.fs, s.now ++ l, true⟩
theorem split_Fields.puts_any (B g : Nat) (s : split_Fields.St) (l : List S57) (A : Option Addr) (c : Nat) (w : World) (hM : split_Fields.Mk w B g s) (hr : Kd.C k57 w A l.length l) (hc : l.length ≤ c) (hl : s.now.length + l.length < 4398046511104) :
    Calls Tryd.prog 49 #[.pointer (some ⟨g, 0, none⟩), .slice A l.length c] w fun e w' => e = .returned (.tuple #[]) ∧ split_Fields.Mk w' B g (split_Fields.putS l s) ∧ split_Fields.Oth g w w' ∧ Below B w w' := by
  obtain ⟨vl, vn, hb, HL, HN, hBg⟩ := hM
  obtain ⟨fs, now, begun⟩ := s
  obtain ⟨An, cn, rfl⟩ := Kd.R_slice HN
  obtain ⟨Al, cl, rfl⟩ := Kd.R_slice HL
  simp only at hl hb HL HN
  have c0 : w.cell? ⟨g, 0, none⟩ = some (.slice Al fs.length cl) := (blk_cell hb 0).trans rfl
  have c1 : w.cell? ⟨g, 1, none⟩ = some (.slice An now.length cn) := (blk_cell hb 1).trans rfl
  have c2 : w.cell? ⟨g, 2, none⟩ = some (.bool begun) := (blk_cell hb 2).trans rfl
  have f0 := blk_frozen hb 0
  have f1 := blk_frozen hb 1
  have f2 := blk_frozen hb 2
  have HB := Aside0.mk hb
  have HL0 := Aside0.mk HL
  have HN0 := Aside0.mk HN
  have hl0 := Aside0.mk hl
  have hBg0 := Aside0.mk hBg
  have hgs := Aside0.mk (blk_lt hb)
  have HR := Aside0.mk hr
  have HNa : Aside0 (Kd.R k57 57 w B (fun k => k ≠ g ∧ some k ≠ (Value.slice Al fs.length cl).ownBlock) (.slice An now.length cn) now) := ⟨Kd.R_apartR HN HL (by decide)⟩
  clear hb HL HN hl hBg hr
  go_enter Tryd.func49, Tryd.ntmps49
  go_wp2_with ((with_reducible refine gate_builtin (b := .append) (xs := #[.tmp 8, .tmp 9]) rfl ?_); at_builtin; refine Kd.R_append_rows k57 (Rr := k57.K w) (w0 := w) B rfl (.tmp 8) (.tmp 9) 33 57 (.agg #[.int .i32 0, .bool false]) 8 rfl Tryd.underlying33 split_Fields.info34 rfl (by decide) (by decide) (.slice An now.length cn) now l A l.length c (fun k => k ≠ g) (fun _ => False) rfl rfl ?aO ?aR ?aM (fun _ hk => hk.elim) ?aF ?aB ?aS ?aL ?_; (case aO => exact HN0.out); (case aR => exact HR.out); (case aM => intro x cs hx; have := k57_open hx; subst this; exact k57_mkM _ _ _ x); (case aF => exact fun k hk => by have := hgs.out; omega); (case aB => exact Below.refl _ _); (case aS => have := hgs.out; have := hBg0.out; omega); (case aL => have := hl0.out; omega); intro v1 w1 ho hb1 hg1 hat1; obtain ⟨A1, k1, hv1⟩ := Kd.R_slice ho; subst hv1; have HBn := Aside0.mk (blk_grown HB.out hg1 (fun e => HN0.out.1 g e.symm rfl)); have c0' : w1.cell? ⟨g, 0, none⟩ = some (.slice Al fs.length cl) := (blk_cell HBn.out 0).trans rfl; have c1' : w1.cell? ⟨g, 1, none⟩ = some (.slice An now.length cn) := (blk_cell HBn.out 1).trans rfl; have c2' : w1.cell? ⟨g, 2, none⟩ = some (.bool begun) := (blk_cell HBn.out 2).trans rfl; have f0' := blk_frozen HBn.out 0; have f1' := blk_frozen HBn.out 1; have f2' := blk_frozen HBn.out 2; have HO1 := Aside0.mk ho; have HB1 := Aside0.mk hb1; have HG1 := Aside0.mk hg1; have HAT := Aside0.mk hat1; clear ho hb1 hg1 hat1)
  go_end0
  have hR : Kd.R k57 57 w1 B (fun k => k ≠ g) (.slice A1 (now.length + l.length) k1) (now ++ l) := by
    have h := HO1.out
    simp only [List.length_append] at h
    exact h
  have hL := Kd.R_after HL0.out HG1.out HAT.out
  refine ⟨rfl, ⟨.slice Al fs.length cl, .slice A1 (now.length + l.length) k1, blk_put (blk_put HBn.out 1 _ rfl) 2 _ rfl, ?_, ?_, hBg0.out⟩, (((split_Fields.Oth.refl g w).grown HG1.out (fun k hk => ?_)).set 1 _ |>.set 2 _), (HB1.out.setCell hBg0.out _).setCell hBg0.out _⟩
  · exact Kd.R_mono (Kd.R_far (p := ⟨g, 2, none⟩) (Kd.R_far (p := ⟨g, 1, none⟩) hL (fun _ hk => hk.1) _) (fun _ hk => hk.1) _) (fun k hk => ⟨hk.1, by rw [← List.length_append]; exact hk.2⟩)
  · exact Kd.R_far (p := ⟨g, 2, none⟩) (Kd.R_far (p := ⟨g, 1, none⟩) hR (fun _ hk => hk) _) (fun _ hk => hk) _
  · obtain ⟨c, hc⟩ := Kd.R_typed HN0.out k hk
    exact ⟨c, _, .inl hc⟩
theorem split_Fields.puts_one (B g : Nat) (s : split_Fields.St) (p : S57) (A : Option Addr) (w : World) (hM : split_Fields.Mk w B g s) (hr : Kd.C k57 w A 1 [p]) (hl : s.now.length + 1 < 4398046511104) :
    Calls Tryd.prog 49 #[.pointer (some ⟨g, 0, none⟩), .slice A 1 1] w fun e w' => e = .returned (.tuple #[]) ∧ split_Fields.Mk w' B g (split_Fields.putS [p] s) ∧ split_Fields.Oth g w w' ∧ Below B w w' := split_Fields.puts_any B g s [p] A 1 w hM hr (Nat.le_refl _) hl
/-! ### plain -/
theorem split_Fields.Mk.move {w w' : World} {B g : Nat} {s : split_Fields.St} (h : split_Fields.Mk w B g s) (hm : ∀ (k : Nat) (c : Array Value) (t : TypeId), w.heap[k]? = some (Obj.cells c t (0, 0)) → w'.heap[k]? = w.heap[k]?) : split_Fields.Mk w' B g s := by
  obtain ⟨vl, vn, hb, HL, HN, hBg⟩ := h
  refine ⟨vl, vn, (hm _ _ _ hb).trans hb, ?_, ?_, hBg⟩
  · exact Kd.R_mono (Kd.R_move (Kd.R_bound HL) (fun k hk => by obtain ⟨_, _, _, q, _, c, hc⟩ := hk; exact hm k c q hc)) (fun k hk => hk.1)
  · exact Kd.R_mono (Kd.R_move (Kd.R_bound HN) (fun k hk => by obtain ⟨_, _, _, q, _, c, hc⟩ := hk; exact hm k c q hc)) (fun k hk => hk.1)
theorem split_Fields.Mk.below {w w' : World} {B g : Nat} {s : split_Fields.St} (h : split_Fields.Mk w B g s) (hb : Below w.heap.size w w') : split_Fields.Mk w' B g s := h.move (fun k c t hk => hb.block k (blk_lt hk))
theorem split_Fields.lit_C {W : World} {g c : Nat} {T : TypeId} {b : Bool} (h : W.heap[g]? = some (.cells #[.int .i32 (c : Int), .bool b] T (0, 0))) : Kd.C k57 W (some ⟨g, 0, none⟩) 1 [(⟨(c : Int), b⟩ : S57)] :=
  ⟨rfl, by omega, fun _ => ⟨_, rfl, fun j p hj => by
    have hj0 : j = 0 := by have := (List.getElem?_eq_some_iff.1 hj).1; simpa using this
    subst hj0
    obtain rfl : (⟨(c : Int), b⟩ : S57) = p := by simpa using hj
    refine ⟨_, rfl, k57_mk _ _, fun i u hu => ?_⟩
    have e : k57.sz = 2 := rfl
    have ha : (⟨g, 0, none⟩ : Addr).add (0 * k57.sz + i) = ⟨g, i, none⟩ := by rw [Nat.zero_mul, Nat.zero_add]; exact add_plain _ _
    rw [ha, blk_cell h]
    simpa using hu⟩⟩
def split_Fields.blank (c : Int) : Bool := c == 32 || c == 9 || c == 10
theorem split_Fields.blank_f (c : Int) : glyph_Blank.f c = some (split_Fields.blank c) := by
  unfold glyph_Blank.f split_Fields.blank
  repeat' split
  all_goals simp_all
def split_Fields.stepS (sp : Bool) (s : split_Fields.St) (c : Int) : split_Fields.St := if (sp && split_Fields.blank c) = true then split_Fields.endS s else split_Fields.putS [⟨c, false⟩] s
def split_Fields.plainS (sp : Bool) (l : List Int) (s : split_Fields.St) : split_Fields.St := l.foldl (split_Fields.stepS sp) s
def split_Fields.wt (s : split_Fields.St) : Nat := s.fs.length + s.now.length + (if s.begun = true then 1 else 0)
theorem split_Fields.wt_end (s : split_Fields.St) : split_Fields.wt (split_Fields.endS s) ≤ split_Fields.wt s := by
  unfold split_Fields.wt split_Fields.endS
  cases hb : s.begun <;> simp [hb] <;> omega
theorem split_Fields.wt_put (l : List S57) (s : split_Fields.St) : split_Fields.wt (split_Fields.putS l s) ≤ split_Fields.wt s + l.length + 1 := by
  unfold split_Fields.wt split_Fields.putS
  simp
  omega
theorem split_Fields.Oth.it {g k : Nat} {w w' : World} (h : split_Fields.Oth g w w') {s : ByteArray} {p : Nat} (hk : w.heap[k]? = some (.stringIter s p)) (hg : k ≠ g) : w'.heap[k]? = some (.stringIter s p) := h.2 k _ hk hg (fun _ _ e => by cases e) (fun _ _ e => by cases e)
theorem split_Fields.Oth.box {g k : Nat} {w w' : World} (h : split_Fields.Oth g w w') {c : Array Value} (hk : w.heap[k]? = some (.cells c 42 (0, 0))) (hg : k ≠ g) : w'.heap[k]? = some (.cells c 42 (0, 0)) := h.2 k _ hk hg (fun _ _ e => by injection e with _ e; cases e) (fun _ _ e => by injection e with _ e; cases e)
theorem split_Fields.Oth.alloc {g : Nat} {w w' : World} (h : split_Fields.Oth g w w') (o : Obj) : split_Fields.Oth g w (w'.alloc o) := h.below (below_alloc (Below.refl _ _) o)
theorem split_Fields.Mk.drewN {w : World} {B g : Nat} {s : split_Fields.St} (h : split_Fields.Mk w B g s) (n : Nat) : split_Fields.Mk (w.drewN n) B g s := h.below (pw_below_drewN (Below.refl _ _) n)
set_option maxHeartbeats 2000000 in
theorem split_Fields.plain_any (B g : Nat) (s : split_Fields.St) (tx : ByteArray) (q sp br : Bool) (w : World) (hM : split_Fields.Mk w B g s) (hl : split_Fields.wt s + 2 * tx.size < 2199023255552) :
    Calls Tryd.prog 50 #[.pointer (some ⟨g, 0, none⟩), .agg #[.string tx, .bool q, .bool sp, .bool br]] w fun e w' => e = .returned (.tuple #[]) ∧ split_Fields.Mk w' B g (split_Fields.plainS sp (Kd.letters tx) s) ∧ split_Fields.Oth g w w' ∧ Below B w w' := by
  have hgs : g < w.heap.size := by obtain ⟨_, _, hb, _⟩ := hM; exact blk_lt hb
  have hBw : B ≤ w.heap.size := by obtain ⟨_, _, _, _, _, hBg⟩ := hM; omega
  have HM := Aside0.mk hM
  have HL := Aside0.mk hl
  clear hM hl
  go_enter Tryd.func50, Tryd.ntmps50
  go_wp2
  go_loopw [5] (fun _ wr => ∃ (st : split_Fields.St) (pos : Nat), wr.heap[w.heap.size + 1]? = some (.stringIter tx pos) ∧ Aside0 (wr.heap[w.heap.size]? = some (.cells #[.string tx, .bool q, .bool sp, .bool br] 42 (0, 0))) ∧ Aside0 (split_Fields.Mk wr B g st) ∧ Aside0 (split_Fields.Oth g w wr) ∧ Aside0 (Below B w wr) ∧ Aside0 (split_Fields.plainS sp (Kd.letN tx (tx.size - pos) pos) st = split_Fields.plainS sp (Kd.letters tx) s) ∧ Aside0 (split_Fields.wt st ≤ split_Fields.wt s + 2 * pos)) (fun _ wr => tx.size - wr.iterPos (w.heap.size + 1))
  case atStart =>
    refine ⟨s, 0, ?_, ⟨?_⟩, ⟨?_⟩, ⟨?_⟩, ⟨?_⟩, ⟨rfl⟩, ⟨Nat.le_refl _⟩⟩
    · have h := World.iter_heap (w.alloc (.cells #[.string tx, .bool q, .bool sp, .bool br] 42)) tx 0
      rw [show (w.alloc (.cells #[.string tx, .bool q, .bool sp, .bool br] 42)).heap.size = w.heap.size + 1 by simp] at h
      exact h
    · exact blk_alloc (blk_new w _) _
    · exact (HM.out.below (below_alloc (Below.refl _ _) _)).below (below_alloc (Below.refl _ _) _)
    · exact ((split_Fields.Oth.refl g w).alloc _).alloc _
    · exact ((Below.refl B w).alloc hBw _).alloc (by simp; omega) _
  case round =>
    obtain ⟨st, pos, hit, HX, HM1, HO1, HB1, HI, HW⟩ := hrel
    have hpos0 := Kd.iterPos_is hit
    by_cases hp : pos < tx.size
    · have hnx : ∀ ty, (Instr.next (.pointer (some ⟨w.heap.size + 1, 0, none⟩)) true ty).run Tryd.prog wr = _ := fun ty => Lib.run_next_any_at wr (w.heap.size + 1) tx pos ty hit hp
      have hwd := Kd.width_pos tx pos hp
      have HI2 := Aside0.mk HI.out
      rw [Kd.letN_at tx pos hp] at HI2
      have hit2 := Lib.iterAt_heap wr (w.heap.size + 1) tx pos (pos + (Utf8.decode tx pos).2) hit
      have HB2 := Aside0.mk (Lib.below_iterAt HB1.out (k := w.heap.size + 1) (by omega) tx (pos + (Utf8.decode tx pos).2))
      have HX2 := Aside0.mk ((Lib.iterAt_other wr (w.heap.size + 1) w.heap.size tx (pos + (Utf8.decode tx pos).2) (by omega)).trans HX.out)
      have HM2 := Aside0.mk (HM1.out.move (w' := wr.iterAt (w.heap.size + 1) tx (pos + (Utf8.decode tx pos).2)) (fun k c t hk => Lib.iterAt_other wr (w.heap.size + 1) k tx _ (fun e => by subst e; rw [hit] at hk; cases hk)))
      have HO2 : Aside0 (split_Fields.Oth g w (wr.iterAt (w.heap.size + 1) tx (pos + (Utf8.decode tx pos).2))) := ⟨⟨by rw [Lib.iterAt_size]; exact HO1.out.1, fun k o hk hg h1 h2 => (Lib.iterAt_other wr (w.heap.size + 1) k tx _ (by have := (Array.getElem?_eq_some_iff.1 hk).1; omega)).trans (HO1.out.2 k o hk hg h1 h2)⟩⟩
      obtain ⟨W1, hW1⟩ : ∃ W1, W1 = wr.iterAt (w.heap.size + 1) tx (pos + (Utf8.decode tx pos).2) := ⟨_, rfl⟩
      rw [← hW1] at hnx hit2 HB2 HX2 HM2 HO2
      have hp2 : pos + 1 ≤ pos + (Utf8.decode tx pos).2 := by omega
      have HIT := Aside0.mk hit2
      have hx0 : W1.cell? ⟨w.heap.size, 2, none⟩ = some (.bool sp) := (blk_cell HX2.out 2).trans rfl
      have HS1 := Aside0.mk HO2.out.1
      have HWT : Aside0 (split_Fields.wt st + 2 < 2199023255552) := ⟨by have := HW.out; have := HL.out; omega⟩
      clear hW1 hit HX HM1 HO1 HB1 HI hit2 hwd
      generalize (Utf8.decode tx pos).1 = c at hnx HI2
      generalize pos + (Utf8.decode tx pos).2 = p2 at *
      cases sp with
      | false =>
        have HMp := HM2
        have HOp := HO2
        have HBp := HB2
        have HXp := HX2
        have HITp := HIT
        have HSp := HS1
        go_wp2_with (go_at_call 49; go_must ((with_reducible refine (split_Fields.puts_one B g st ⟨(c : Int), false⟩ _ _ ?s1 ?s2 ?s4).mono ?_); (case s1 => exact HMp.out.below (below_alloc (Below.refl _ _) _)); (case s2 => exact split_Fields.lit_C (blk_new _ _)); (case s4 => have := HWT.out; simp [split_Fields.wt] at this; omega); rintro e w2 ⟨rfl, hm2, ho2, hb2⟩; have HM3 := Aside0.mk hm2; have HO3 := Aside0.mk (HOp.out.alloc (.cells #[.int .i32 (c : Int), .bool false] 57) |>.trans ho2); have HB3 := Aside0.mk ((HBp.out.alloc (by have := HOp.out.1; omega) _).trans hb2); have HX3 := Aside0.mk (ho2.box (blk_alloc HXp.out _) (by omega)); have HIT3 := Aside0.mk (ho2.it (blk_alloc HITp.out _) (by omega)); clear hm2 ho2 hb2))
        go_roundw
        case rel => exact ⟨split_Fields.putS [⟨(c : Int), false⟩] st, p2, HIT3.out, HX3, HM3, HO3, HB3, HI2, ⟨by have := HW.out; have := split_Fields.wt_put [⟨(c : Int), false⟩] st; simp at this; omega⟩⟩
        case measure => rw [Kd.iterPos_is HIT3.out, hpos0]; omega
      | true =>
        cases hb : split_Fields.blank (c : Int) with
        | false =>
          have HBL := Aside0.mk hb
          have hI := HI2.out
          have HI3 : Aside0 (split_Fields.plainS true (Kd.letN tx (tx.size - p2) p2) (split_Fields.putS [⟨(c : Int), false⟩] st) = split_Fields.plainS true (Kd.letters tx) s) := ⟨by rw [← hI]; show _ = List.foldl _ (split_Fields.stepS true st _) _; rw [show split_Fields.stepS true st (c : Int) = split_Fields.putS [⟨(c : Int), false⟩] st by unfold split_Fields.stepS; rw [hb]; rfl]; rfl⟩
          clear hb hI
          go_wp2_with (first | (go_at_call 17; (with_reducible refine (glyph_Blank.calls (c : Int) false _ (by rw [split_Fields.blank_f, HBL.out])).mono ?_); rintro e w2 ⟨rfl, ⟨nd, rfl⟩⟩; have HMp := Aside0.mk (HM2.out.drewN nd); have HOp := Aside0.mk (HO2.out.drewN nd); have HBp := Aside0.mk (pw_below_drewN HB2.out nd); have HXp := Aside0.mk (blk_drewN HX2.out nd); have HITp := Aside0.mk (blk_drewN HIT.out nd); have HSp := Aside0.mk HS1.out) | (go_at_call 49; go_must ((with_reducible refine (split_Fields.puts_one B g st ⟨(c : Int), false⟩ _ _ ?s1 ?s2 ?s4).mono ?_); (case s1 => exact HMp.out.below (below_alloc (Below.refl _ _) _)); (case s2 => exact split_Fields.lit_C (blk_new _ _)); (case s4 => have := HWT.out; simp [split_Fields.wt] at this; omega); rintro e w2 ⟨rfl, hm2, ho2, hb2⟩; have HM3 := Aside0.mk hm2; have HO3 := Aside0.mk (HOp.out.alloc (.cells #[.int .i32 (c : Int), .bool false] 57) |>.trans ho2); have HB3 := Aside0.mk ((HBp.out.alloc (by have := HOp.out.1; omega) _).trans hb2); have HX3 := Aside0.mk (ho2.box (blk_alloc HXp.out _) (by omega)); have HIT3 := Aside0.mk (ho2.it (blk_alloc HITp.out _) (by omega)); clear hm2 ho2 hb2)))
          go_roundw
          case rel => exact ⟨split_Fields.putS [⟨(c : Int), false⟩] st, p2, HIT3.out, HX3, HM3, HO3, HB3, HI3, ⟨by have := HW.out; have := split_Fields.wt_put [⟨(c : Int), false⟩] st; simp at this; omega⟩⟩
          case measure => rw [Kd.iterPos_is HIT3.out, hpos0]; omega
        | true =>
          have HBL := Aside0.mk hb
          have hI := HI2.out
          have HI3 : Aside0 (split_Fields.plainS true (Kd.letN tx (tx.size - p2) p2) (split_Fields.endS st) = split_Fields.plainS true (Kd.letters tx) s) := ⟨by rw [← hI]; show _ = List.foldl _ (split_Fields.stepS true st _) _; rw [show split_Fields.stepS true st (c : Int) = split_Fields.endS st by unfold split_Fields.stepS; rw [hb]; rfl]; rfl⟩
          clear hb hI
          go_wp2_with (first | (go_at_call 17; (with_reducible refine (glyph_Blank.calls (c : Int) true _ (by rw [split_Fields.blank_f, HBL.out])).mono ?_); rintro e w2 ⟨rfl, ⟨nd, rfl⟩⟩; have HMp := Aside0.mk (HM2.out.drewN nd); have HOp := Aside0.mk (HO2.out.drewN nd); have HBp := Aside0.mk (pw_below_drewN HB2.out nd); have HXp := Aside0.mk (blk_drewN HX2.out nd); have HITp := Aside0.mk (blk_drewN HIT.out nd); have HSp := Aside0.mk HS1.out) | (go_at_call 48; go_must ((with_reducible refine (split_Fields.ends_any B g st _ ?s1 ?s4).mono ?_); (case s1 => exact HMp.out); (case s4 => have := HWT.out; simp [split_Fields.wt] at this; omega); rintro e w2 ⟨rfl, hm2, ho2, hb2⟩; have HM3 := Aside0.mk hm2; have HO3 := Aside0.mk (HOp.out.trans ho2); have HB3 := Aside0.mk (HBp.out.trans hb2); have HX3 := Aside0.mk (ho2.box HXp.out (by omega)); have HIT3 := Aside0.mk (ho2.it HITp.out (by omega)); clear hm2 ho2 hb2)))
          go_roundw
          case rel => exact ⟨split_Fields.endS st, p2, HIT3.out, HX3, HM3, HO3, HB3, HI3, ⟨by have := HW.out; have := split_Fields.wt_end st; omega⟩⟩
          case measure => rw [Kd.iterPos_is HIT3.out, hpos0]; omega
    · have hnx : ∀ ty, (Instr.next (.pointer (some ⟨w.heap.size + 1, 0, none⟩)) true ty).run Tryd.prog wr = _ := fun ty => Lib.run_next_end_at wr (w.heap.size + 1) tx pos ty hit hp
      have e : split_Fields.plainS sp (Kd.letters tx) s = st := by rw [← HI.out, Kd.letN_end tx _ pos hp]; rfl
      have HE := Aside0.mk e
      clear HI e
      go_wp2
      go_end0
      rw [HE.out]
      exact ⟨rfl, HM1.out, HO1.out, HB1.out⟩
/-! ### Fields -/
theorem split_Fields.Mk.moveT {w w' : World} {B g : Nat} {s : split_Fields.St} (h : split_Fields.Mk w B g s) (hm : ∀ (k : Nat) (c : Array Value) (t : TypeId), t ≠ 42 → w.heap[k]? = some (Obj.cells c t (0, 0)) → w'.heap[k]? = w.heap[k]?) : split_Fields.Mk w' B g s := by
  obtain ⟨vl, vn, hb, HL, HN, hBg⟩ := h
  refine ⟨vl, vn, (hm _ _ _ (by decide) hb).trans hb, ?_, ?_, hBg⟩
  · exact Kd.R_mono (Kd.R_move (Kd.R_bound HL) (fun k hk => by obtain ⟨_, _, _, q, hq, c, hc⟩ := hk; exact hm k c q (by rintro rfl; revert hq; decide) hc)) (fun k hk => hk.1)
  · exact Kd.R_mono (Kd.R_move (Kd.R_bound HN) (fun k hk => by obtain ⟨_, _, _, q, hq, c, hc⟩ := hk; exact hm k c q (by rintro rfl; revert hq; decide) hc)) (fun k hk => hk.1)
theorem split_Fields.Mk.setBox {w : World} {B g gb : Nat} {s : split_Fields.St} (h : split_Fields.Mk w B g s) {c : Array Value} (hb : w.heap[gb]? = some (.cells c 42 (0, 0))) (j : Nat) (u : Value) : split_Fields.Mk (w.setCell ⟨gb, j, none⟩ u) B g s :=
  h.moveT (fun k c' t ht hk => Below.heap_setCell w ⟨gb, j, none⟩ u k (fun e => by
    have e : k = gb := e
    subst e
    rw [hk] at hb
    injection hb with hb
    injection hb with _ hb
    exact ht hb))
theorem split_Fields.chars_l (q : Bool) (l : List Int) : ∀ (d k i : Nat) (acc : List S57), i + d = l.length → d < k → acc.length + d < 17592186044416 → l.length < 4611686018427387904 →
    glob_Chars.l0 k q acc l (l.length : Int) (i : Int) = some (acc ++ (l.drop i).map (fun c => (⟨c, q⟩ : S57)))
  | 0, k + 1, i, acc, h, _, _, _ => by
    simp only [glob_Chars.l0]
    rw [if_neg (by omega), List.drop_eq_nil_of_le (by omega)]
    simp
  | d + 1, k + 1, i, acc, h, hk, ha, hb => by
    simp only [glob_Chars.l0]
    rw [if_pos (by omega), if_pos (by omega), if_pos (by omega), if_pos (by omega)]
    have e : wrap64 ((i : Int) + 1) = ((i + 1 : Nat) : Int) := by unfold wrap64; omega
    rw [e, split_Fields.chars_l q l d k (i + 1) _ (by omega) (by omega) (by simp; omega) hb]
    have hi : i < l.length := by omega
    have e2 : rd l (i : Int) = l[i] := by unfold rd; simp [List.getD_eq_getElem?_getD, hi]
    rw [List.drop_eq_getElem_cons hi, e2, List.map_cons, List.append_assoc]
    rfl
theorem split_Fields.chars_f (tx : ByteArray) (q : Bool) (h : tx.size < 1099511627776) : glob_Chars.f (tx.size + 1) tx q = some ((Kd.letters tx).map (fun c => (⟨c, q⟩ : S57))) := by
  have hl := Kd.letN_len tx tx.size 0
  have hl : (Kd.letters tx).length ≤ tx.size := hl
  unfold glob_Chars.f glyph_Runes.f
  rw [if_pos (by omega), Option.bind_some]
  exact split_Fields.chars_l q _ (Kd.letters tx).length (tx.size + 1) 0 [] (by omega) (by omega) (by simp; omega) (by omega)
def split_Fields.runS (s : split_Fields.St) (r : S42) : split_Fields.St := if r.f3 = true then split_Fields.endS s else if r.f1 = true then split_Fields.putS ((Kd.letters r.f0).map (fun c => (⟨c, true⟩ : S57))) s else split_Fields.plainS r.f2 (Kd.letters r.f0) s
def split_Fields.cost (l : List S42) : Nat := (l.map (fun r => 2 * r.f0.size + 1)).sum
theorem split_Fields.wt_plain (sp : Bool) : ∀ (l : List Int) (s : split_Fields.St), split_Fields.wt (split_Fields.plainS sp l s) ≤ split_Fields.wt s + 2 * l.length
  | [], s => by simp [split_Fields.plainS]
  | c :: l, s => by
    have h := split_Fields.wt_plain sp l (split_Fields.stepS sp s c)
    have h1 : split_Fields.wt (split_Fields.stepS sp s c) ≤ split_Fields.wt s + 2 := by
      unfold split_Fields.stepS
      split
      · have := split_Fields.wt_end s; omega
      · have := split_Fields.wt_put [⟨c, false⟩] s; simp at this; omega
    simp only [List.length_cons]
    show split_Fields.wt (List.foldl (split_Fields.stepS sp) (split_Fields.stepS sp s c) l) ≤ _
    have h : split_Fields.wt (List.foldl (split_Fields.stepS sp) (split_Fields.stepS sp s c) l) ≤ _ := h
    omega
theorem split_Fields.wt_run (s : split_Fields.St) (r : S42) : split_Fields.wt (split_Fields.runS s r) ≤ split_Fields.wt s + (2 * r.f0.size + 1) := by
  have hl : (Kd.letters r.f0).length ≤ r.f0.size := Kd.letN_len r.f0 r.f0.size 0
  unfold split_Fields.runS
  split
  · have := split_Fields.wt_end s; omega
  · split
    · have := split_Fields.wt_put ((Kd.letters r.f0).map (fun c => (⟨c, true⟩ : S57))) s; simp at this; omega
    · have := split_Fields.wt_plain r.f2 (Kd.letters r.f0) s; omega
theorem split_Fields.Mk.fillBox {w : World} {B g gb : Nat} {s : split_Fields.St} (h : split_Fields.Mk w B g s) {c : Array Value} (hb : w.heap[gb]? = some (.cells c 42 (0, 0))) (a b d e : Value) :
    split_Fields.Mk ((((w.setCell ⟨gb, 0, none⟩ a).setCell ⟨gb, 1, none⟩ b).setCell ⟨gb, 2, none⟩ d).setCell ⟨gb, 3, none⟩ e) B g s :=
  (((h.setBox hb 0 a).setBox (blk_set hb 0 a) 1 b).setBox (blk_set (blk_set hb 0 a) 1 b) 2 d).setBox (blk_set (blk_set (blk_set hb 0 a) 1 b) 2 d) 3 e
theorem split_Fields.fillBelow {w0 w : World} {B gb : Nat} (h : Below B w0 w) (hg : B ≤ gb) (a b d e : Value) : Below B w0 ((((w.setCell ⟨gb, 0, none⟩ a).setCell ⟨gb, 1, none⟩ b).setCell ⟨gb, 2, none⟩ d).setCell ⟨gb, 3, none⟩ e) :=
  (((h.setCell hg a).setCell hg b).setCell hg d).setCell hg e
def split_Fields.f (l0 : List S42) : Option (List (List S57)) := if split_Fields.cost l0 < 1099511627776 then some (split_Fields.endS (l0.foldl split_Fields.runS ⟨[], [], false⟩)).fs else none
set_option maxHeartbeats 2000000 in
theorem split_Fields.calls (A0 : Option Addr) (c0 : Nat) (l0 : List S42) (r : List (List S57)) (w : World) (hr0 : Kd.C k42 w A0 l0.length l0) (hc0 : l0.length ≤ c0) (h : split_Fields.f l0 = some r) :
    Calls Tryd.prog 34 #[.slice A0 l0.length c0] w fun e w' => ∃ v0_, e = .returned v0_ ∧ Kd.R (Kd.slice 57 k57) 33 w' w.heap.size (fun _ => True) v0_ r ∧ Below w.heap.size w w' := by
  unfold split_Fields.f at h
  by_cases hl : split_Fields.cost l0 < 1099511627776
  · rw [if_pos hl] at h
    injection h with h
    have HRR := Aside0.mk h
    have HM : l0.length ≤ 9223372036854775807 := hr0.2.1
    have HR := Aside0.mk hr0
    have HC := Aside0.mk hc0
    have HL := Aside0.mk hl
    clear hr0 hc0 hl h
    go_enter Tryd.func34, Tryd.ntmps34
    go_wp2_with ((with_reducible refine gate_dst (N := 7) rfl ?_); refine box_event ?hg (N := 7) ?hd (cs := #[.slice none 0 0, .slice none 0 0, .bool false]) (t := 69) ?hr ?_; (case hd => rfl); (case hg => rfl); (case hr => first | (go_simp; done) | (go_simp; rfl)); intro g hg w1 hbox hb1; have HBX := Aside0.mk hbox; have HB0 := Aside0.mk hb1; have HG := Aside0.mk hg; clear hbox hb1 hg)
    have HM0 : Aside0 (split_Fields.Mk w1 w.heap.size g ⟨[], [], false⟩) := ⟨⟨.slice none 0 0, .slice none 0 0, HBX.out, Kd.R_nil _ _ _ _ _, Kd.R_nil _ _ _ _ _, by rw [HG.out]; exact Nat.le_refl _⟩⟩
    clear HBX
    go_loopw [10] (fun v wr => ∃ (i : Nat) (st : split_Fields.St), i ≤ l0.length ∧ v = .int .i64 i ∧ Aside0 (split_Fields.Mk wr w.heap.size g st) ∧ Aside0 (Below w.heap.size w wr) ∧ Aside0 ((l0.drop i).foldl split_Fields.runS st = l0.foldl split_Fields.runS ⟨[], [], false⟩) ∧ Aside0 (split_Fields.wt st + split_Fields.cost (l0.drop i) ≤ split_Fields.cost l0)) (fun v _ => (l0.length - intOf v).toNat)
    case atStart => exact ⟨0, _, Nat.zero_le _, rfl, HM0, HB0, ⟨rfl⟩, ⟨by simp [split_Fields.wt]⟩⟩
    case round =>
      obtain ⟨i, st, hil, rfl, HM1, HB1, HI, HW⟩ := hrel
      by_cases hlt : i < l0.length
      · obtain ⟨ad, e0, hx0, hx1, hx2, hx3⟩ := at_T42 (Kd.C_below HR.out HB1.out) (i : Int) (by omega) (by omega)
        subst e0
        have e1 : rd_T42 l0 (i : Int) = l0[i] := by unfold rd_T42; simp [List.getD_eq_getElem?_getD, hlt]
        rw [e1] at hx0 hx1 hx2 hx3
        simp only [Int.toNat_natCast] at hx0 hx1 hx2 hx3
        have hd : decide ((i : Int) < (l0.length : Int)) = true := by simpa using hlt
        have hd2 : decide (i < l0.length) = true := by simpa using hlt
        have hq0 : (0 ≤ (i : Int)) = True := eq_true (by omega)
        have hq1 : ((i : Int) < (l0.length : Int)) = True := eq_true (by omega)
        have hq2 : (i < l0.length) = True := eq_true hlt
        have hi1 := Aside0.mk (Nat.succ_le_of_lt hlt)
        have hw1 : IntKind.i64.wrap ((i : Int) + 1) = (i : Int) + 1 := by rw [IntKind.wrap_i64]; omega
        have hI := HI.out
        have hW := HW.out
        rw [List.drop_eq_getElem_cons hlt] at hI hW
        clear e1 HI HW HM0
        generalize l0[i] = x at hx0 hx1 hx2 hx3 hI hW
        clear hlt
        obtain ⟨tx, q, sp, br⟩ := x
        simp only at hx0 hx1 hx2 hx3
        have hW2 : split_Fields.wt st + (2 * tx.size + 1) + split_Fields.cost (l0.drop (i + 1)) ≤ split_Fields.cost l0 := by simp only [split_Fields.cost, List.map_cons, List.sum_cons] at hW ⊢; omega
        have hrun := split_Fields.wt_run st ⟨tx, q, sp, br⟩
        have HI2 : Aside0 ((l0.drop (i + 1)).foldl split_Fields.runS (split_Fields.runS st ⟨tx, q, sp, br⟩) = l0.foldl split_Fields.runS ⟨[], [], false⟩) := ⟨hI⟩
        have HW2 : Aside0 (split_Fields.wt (split_Fields.runS st ⟨tx, q, sp, br⟩) + split_Fields.cost (l0.drop (i + 1)) ≤ split_Fields.cost l0) := ⟨by simp only at hrun; omega⟩
        have HW3 : Aside0 (split_Fields.wt st + 2 * tx.size < 1099511627776) := ⟨by have := HL.out; omega⟩
        clear hI hW hW2 hrun
        cases br with
        | true =>
          go_wp2_with (first | ((with_reducible refine gate_dst (N := 5) rfl ?_); refine box_event ?hg (N := 5) ?hd (cs := #[.string ⟨#[]⟩, .bool false, .bool false, .bool false]) (t := 42) ?hr ?_; (case hd => rfl); (case hg => rfl); (case hr => first | (go_simp; done) | (go_simp; rfl)); intro gb hgb w2 hbox hb2; have hcz0 : w2.cell? ⟨gb, 0, none⟩ = some (.string ⟨#[]⟩) := (blk_cell hbox 0).trans rfl; have hcz1 : w2.cell? ⟨gb, 1, none⟩ = some (.bool false) := (blk_cell hbox 1).trans rfl; have hcz2 : w2.cell? ⟨gb, 2, none⟩ = some (.bool false) := (blk_cell hbox 2).trans rfl; have hcz3 : w2.cell? ⟨gb, 3, none⟩ = some (.bool false) := (blk_cell hbox 3).trans rfl; have hfz0 := blk_frozen hbox 0; have hfz1 := blk_frozen hbox 1; have hfz2 := blk_frozen hbox 2; have hfz3 := blk_frozen hbox 3; have HGE : Aside0 (w.heap.size ≤ gb) := Aside0.mk (by rw [hgb]; exact HB1.out.size); have HM2 := Aside0.mk (split_Fields.Mk.fillBox (HM1.out.below hb2) hbox (.string tx) (.bool q) (.bool sp) (.bool true)); have HB2 := Aside0.mk (split_Fields.fillBelow (below_then HB1.out HB1.out.size hb2) HGE.out (.string tx) (.bool q) (.bool sp) (.bool true)); clear hbox hb2 hgb) | (go_at_call 48; go_must ((with_reducible refine (split_Fields.ends_any w.heap.size g st _ ?s1 ?s4).mono ?_); (case s1 => exact HM2.out); (case s4 => have := HW3.out; simp only [split_Fields.wt] at this; omega); rintro e w6 ⟨rfl, hm6, ho6, hb6⟩; have HM6 := Aside0.mk hm6; have HB6 := Aside0.mk (HB2.out.trans hb6); clear hm6 ho6 hb6)))
          go_roundw
          case rel => exact ⟨i + 1, _, hi1.out, rfl, HM6, HB6, HI2, HW2⟩
          case measure => have := hi1.out; simp [intOf]; omega
        | false =>
          cases q with
          | true =>
            obtain ⟨cs, hcs⟩ : ∃ cs : List S57, cs = (Kd.letters tx).map (fun c => (⟨c, true⟩ : S57)) := ⟨_, rfl⟩
            have HCS := Aside0.mk hcs
            clear hcs
            go_wp2_with (first | ((with_reducible refine gate_dst (N := 5) rfl ?_); refine box_event ?hg (N := 5) ?hd (cs := #[.string ⟨#[]⟩, .bool false, .bool false, .bool false]) (t := 42) ?hr ?_; (case hd => rfl); (case hg => rfl); (case hr => first | (go_simp; done) | (go_simp; rfl)); intro gb hgb w2 hbox hb2; have hcz0 : w2.cell? ⟨gb, 0, none⟩ = some (.string ⟨#[]⟩) := (blk_cell hbox 0).trans rfl; have hcz1 : w2.cell? ⟨gb, 1, none⟩ = some (.bool false) := (blk_cell hbox 1).trans rfl; have hcz2 : w2.cell? ⟨gb, 2, none⟩ = some (.bool false) := (blk_cell hbox 2).trans rfl; have hcz3 : w2.cell? ⟨gb, 3, none⟩ = some (.bool false) := (blk_cell hbox 3).trans rfl; have hfz0 := blk_frozen hbox 0; have hfz1 := blk_frozen hbox 1; have hfz2 := blk_frozen hbox 2; have hfz3 := blk_frozen hbox 3; have HGE : Aside0 (w.heap.size ≤ gb) := Aside0.mk (by rw [hgb]; exact HB1.out.size); have HM2 := Aside0.mk (split_Fields.Mk.fillBox (HM1.out.below hb2) hbox (.string tx) (.bool true) (.bool sp) (.bool false)); have HB2 := Aside0.mk (split_Fields.fillBelow (below_then HB1.out HB1.out.size hb2) HGE.out (.string tx) (.bool true) (.bool sp) (.bool false)); clear hbox hb2 hgb) | (go_at_call 26; go_must ((with_reducible refine (glob_Chars.calls (tx.size + 1) tx true cs _ (by rw [HCS.out]; exact split_Fields.chars_f tx true (by have := HW3.out; omega))).mono ?_); rintro e w5 ⟨v5, rfl, hr5, hb5⟩; obtain ⟨A5, c5, rfl, hc5, hC5⟩ := Kd.R_reads hr5; have HM5 := Aside0.mk (HM2.out.below hb5); have HB5 := Aside0.mk (below_then HB2.out HB2.out.size hb5); have HC5 := Aside0.mk hc5; have HR5 := Aside0.mk hC5; clear hr5 hb5 hc5 hC5)) | (go_at_call 49; go_must ((with_reducible refine (split_Fields.puts_any w.heap.size g st cs A5 c5 _ ?s1 ?s2 ?s3 ?s4).mono ?_); (case s1 => exact HM5.out); (case s2 => exact HR5.out); (case s3 => exact HC5.out); (case s4 => have := HW3.out; have h9 : (Kd.letters tx).length ≤ tx.size := Kd.letN_len tx tx.size 0; have h8 : cs.length = (Kd.letters tx).length := (by rw [HCS.out, List.length_map]); simp only [split_Fields.wt] at this; omega); rintro e w6 ⟨rfl, hm6, ho6, hb6⟩; have HM6 := Aside0.mk hm6; have HB6 := Aside0.mk (HB5.out.trans hb6); clear hm6 ho6 hb6)))
            have HM6 : Aside0 (split_Fields.Mk _ w.heap.size g (split_Fields.runS st ⟨tx, true, sp, false⟩)) := ⟨by have := HM6.out; rw [HCS.out] at this; exact this⟩
            go_roundw
            case rel => exact ⟨i + 1, _, hi1.out, rfl, HM6, HB6, HI2, HW2⟩
            case measure => have := hi1.out; simp [intOf]; omega
          | false =>
            go_wp2_with (first | ((with_reducible refine gate_dst (N := 5) rfl ?_); refine box_event ?hg (N := 5) ?hd (cs := #[.string ⟨#[]⟩, .bool false, .bool false, .bool false]) (t := 42) ?hr ?_; (case hd => rfl); (case hg => rfl); (case hr => first | (go_simp; done) | (go_simp; rfl)); intro gb hgb w2 hbox hb2; have hcz0 : w2.cell? ⟨gb, 0, none⟩ = some (.string ⟨#[]⟩) := (blk_cell hbox 0).trans rfl; have hcz1 : w2.cell? ⟨gb, 1, none⟩ = some (.bool false) := (blk_cell hbox 1).trans rfl; have hcz2 : w2.cell? ⟨gb, 2, none⟩ = some (.bool false) := (blk_cell hbox 2).trans rfl; have hcz3 : w2.cell? ⟨gb, 3, none⟩ = some (.bool false) := (blk_cell hbox 3).trans rfl; have hfz0 := blk_frozen hbox 0; have hfz1 := blk_frozen hbox 1; have hfz2 := blk_frozen hbox 2; have hfz3 := blk_frozen hbox 3; have HGE : Aside0 (w.heap.size ≤ gb) := Aside0.mk (by rw [hgb]; exact HB1.out.size); have HM2 := Aside0.mk (split_Fields.Mk.fillBox (HM1.out.below hb2) hbox (.string tx) (.bool false) (.bool sp) (.bool false)); have HB2 := Aside0.mk (split_Fields.fillBelow (below_then HB1.out HB1.out.size hb2) HGE.out (.string tx) (.bool false) (.bool sp) (.bool false)); clear hbox hb2 hgb) | (go_at_call 50; go_must ((with_reducible refine (split_Fields.plain_any w.heap.size g st tx false sp false _ ?s1 ?s4).mono ?_); (case s1 => exact HM2.out); (case s4 => have := HW3.out; omega); rintro e w6 ⟨rfl, hm6, ho6, hb6⟩; have HM6 := Aside0.mk hm6; have HB6 := Aside0.mk (HB2.out.trans hb6); clear hm6 ho6 hb6)))
            go_roundw
            case rel => exact ⟨i + 1, _, hi1.out, rfl, HM6, HB6, HI2, HW2⟩
            case measure => have := hi1.out; simp [intOf]; omega
      · obtain rfl : i = l0.length := by omega
        have hd : decide ((l0.length : Int) < (l0.length : Int)) = false := by simp
        have hd2 : decide (l0.length < l0.length) = false := by simp
        have hI := HI.out
        rw [List.drop_eq_nil_of_le (Nat.le_refl _)] at hI
        have hI : st = l0.foldl split_Fields.runS ⟨[], [], false⟩ := hI
        have HRS : Aside0 ((split_Fields.endS st).fs = r) := ⟨by rw [hI]; exact HRR.out⟩
        have HWl : Aside0 (split_Fields.wt st < 1099511627776) := ⟨by have := HW.out; have := HL.out; omega⟩
        clear hlt HI hI HW
        go_wp2_with (go_at_call 48; go_must ((with_reducible refine (split_Fields.ends_any w.heap.size g st _ ?s1 ?s4).mono ?_); (case s1 => exact HM1.out); (case s4 => have := HWl.out; simp only [split_Fields.wt] at this; omega); rintro e w6 ⟨rfl, hm6, ho6, hb6⟩; have HB6 := Aside0.mk (HB1.out.trans hb6); obtain ⟨vl, vn, hb, HLL, HNN, _⟩ := hm6; have hcl : w6.cell? ⟨g, 0, none⟩ = some vl := (blk_cell hb 0).trans rfl; have HLX := Aside0.mk HLL; clear hb HNN HLL ho6 hb6))
        go_ret
        rw [← HRS.out]
        exact ⟨_, rfl, Kd.R_mono HLX.out (fun _ _ => trivial), HB6.out⟩
  · rw [if_neg hl] at h
    cases h


/-! ### lazarusref13_Text: function 33 -/
def lazarusref13_Text.l0 : Nat → List (S57) → List Int → Int → Option (ByteArray)
  | 0, _, _, _ => none
  | k + 1, x0, x3, x4 => if x4 < (x0.length : Int) then (if 0 ≤ x4 then (if x3.length < 35184372088832 then (lazarusref13_Text.l0 k x0 (x3 ++ [(rd_T57 x0 x4).f0]) (wrap64 (x4 + 1))) else (none)) else (none)) else (some (runesBytes x3))
def lazarusref13_Text.f (k : Nat) (l0 : List (S57)) : Option (ByteArray) := lazarusref13_Text.l0 k l0 ([] : List Int) 0
theorem lazarusref13_Text.mono_l : ∀ k, (∀ y0 y1 y2, LeO (lazarusref13_Text.l0 k y0 y1 y2) (lazarusref13_Text.l0 (k + 1) y0 y1 y2))
  | 0 => fun _ _ _ r h => by simp [lazarusref13_Text.l0] at h
  | k + 1 => by
    have ih0 := lazarusref13_Text.mono_l k
    · intro y0 y1 y2
      unfold lazarusref13_Text.l0
      repeat' first
      | (with_reducible exact ih0 _ _ _)
      | (with_reducible exact LeO.refl _)
      | (with_reducible exact LeO.none _)
      | (with_reducible refine LeO.ite ?_ ?_)
      | (with_reducible refine LeO.bind ?_ (fun _ => ?_))
      | exact ih0 _ _ _
      | exact LeO.none _
      | refine LeO.ite ?_ ?_
      | refine LeO.bind ?_ (fun _ => ?_)
theorem lazarusref13_Text.mono : ∀ a0 k, LeO (lazarusref13_Text.f k a0) (lazarusref13_Text.f (k + 1) a0) := by
  intro a0 k
  have ih0 := lazarusref13_Text.mono_l k
  unfold lazarusref13_Text.f
  repeat' first
      | (with_reducible exact ih0 _ _ _)
      | (with_reducible exact LeO.refl _)
      | (with_reducible exact LeO.none _)
      | (with_reducible refine LeO.ite ?_ ?_)
      | (with_reducible refine LeO.bind ?_ (fun _ => ?_))
      | exact ih0 _ _ _
      | exact LeO.none _
      | refine LeO.ite ?_ ?_
      | refine LeO.bind ?_ (fun _ => ?_)
set_option maxHeartbeats 8000000 in
set_option maxRecDepth 100000 in
theorem lazarusref13_Text.calls (k : Nat) (A0 : Option Addr) (c0 : Nat) (l0 : List (S57)) (r : ByteArray) (w : World) (hr0 : Kd.C k57 w A0 l0.length l0) (hc0 : l0.length ≤ c0) (h : lazarusref13_Text.f k l0 = some r) :
    Calls Tryd.prog 33 #[.slice A0 l0.length c0] w fun e w' => e = .returned (.string r) ∧ Below w.heap.size w w' := by
  have HR0 := Aside0.mk hr0
  have HC0 := Aside0.mk hc0
  clear hr0 hc0
  have HB := Aside0.mk (Below.refl w.heap.size w)
  have H : (lazarusref13_Text.l0 k l0 ([] : List Int) 0) = some r := h
  clear h
  have H' := Aside0.mk H
  clear H
  go_enter Tryd.func33, Tryd.ntmps33
  go_wp2
  go_loopg [3, 4] k (fun kq v3 v4 w' => ∃ (x3_1 : List Int) (x4_1 : Int), v4 = .int .i64 x4_1 ∧ Aside0 (lazarusref13_Text.l0 kq l0 x3_1 x4_1 = some r) ∧ Aside0 (kq ≤ k) ∧ Aside0 (Kd.R (Kd.int .i32) 21 w' w.heap.size (fun _ => True) v3 x3_1) ∧ Aside0 (Below w.heap.size w w'))
  case atStart => exact ⟨(([] : List Int)), (0), (by first | rfl | (simp; done) | (simp [*]; done) | (simp; unfold wrap64; omega)), H', ⟨Nat.le_refl _⟩, ⟨by first | exact Kd.R_nil _ _ _ _ _ | exact Kd.N_nil _ _ _ _ _ | exact Kd.V_nil _ _ _ _ _ | exact Kd.Q_nil _ _ _ _ _ | exact Kd.S_nil _ _ _ _ _⟩, ⟨by repeat (first | (with_reducible first | exact HB.out | apply below_alloc | apply pw_below_drewN | apply below_drew1) | exact HB.out)⟩⟩
  case round =>
    clear H'
    obtain ⟨x3_1, x4_1, rfl, HA, HK1, HO_3, HB⟩ := hrel
    cases gk with
    | zero => exact absurd HA.out (by simp [lazarusref13_Text.l0])
    | succ k1 =>
      have H := HA.out
      clear HA
      simp only [lazarusref13_Text.l0] at H
      by_cases c2 : x4_1 < (l0.length : Int)
      · rw [if_pos c2] at H
        have c2b0 : decide (x4_1 < (l0.length : Int)) = true := decide_eq_true c2
        clear c2
        by_cases c3 : 0 ≤ x4_1
        · rw [if_pos c3] at H
          have c3b0 : decide (0 ≤ x4_1) = true := decide_eq_true c3
          clear c3
          by_cases c4 : x3_1.length < 35184372088832
          · rw [if_pos c4] at H
            have LMc4 := Aside0.mk c4
            clear c4
            obtain ⟨y112, hy112⟩ : ∃ y_ : List Int, y_ = (x3_1 ++ [(rd_T57 l0 x4_1).f0]) := ⟨_, rfl⟩
            replace H : (lazarusref13_Text.l0 k1 l0 y112 (wrap64 (x4_1 + 1))) = some r := by first | (rw [hy112]; with_reducible exact H) | (have H2_ := (Option.bind_some _ _).symm.trans H; rw [hy112]; with_reducible exact H2_) | (have H2_ := (Option.bind_some _ _).symm.trans H; with_reducible exact H2_) | with_reducible exact H | (rw [hy112]; exact H) | exact H
            have Ny112 := Aside0.mk hy112
            clear hy112
            have H' := Aside0.mk H
            clear H
            have p111 : 0 ≤ (x4_1 : Int) := of_decide_eq_true (by first | (with_reducible assumption) | assumption)
            have q111 : x4_1 < (l0.length : Int) := of_decide_eq_true (by first | (with_reducible assumption) | assumption)
            obtain ⟨ad111, e111, hx111_0, hx111_1⟩ := at_T57 HR0.out x4_1 p111 q111
            cases e111
            replace hx111_0 := (HB.out.cell (World.block_lt_of_cell? w _ hx111_0)).trans hx111_0
            replace hx111_1 := (HB.out.cell (World.block_lt_of_cell? w _ hx111_1)).trans hx111_1
            replace p111 := eq_true p111
            replace q111 := eq_true q111
            go_wp2_with (first | ((with_reducible refine gate_builtin (b := .append) (xs := #[.tmp 11, .tmp 17]) rfl ?_); at_builtin; refine Kd.R_append (Kd.int .i32) (w0 := w) w.heap.size rfl (.tmp 11) (.tmp 17) 23 21 (.int .i32 0) 4 rfl Tryd.underlying23 info21 rfl (by decide) (by omega) u3 x3_1 ((rd_T57 l0 x4_1).f0) [.int .i32 ((rd_T57 l0 x4_1).f0)] (fun _ => True) (fun _ => False) rfl rfl ?aP (fun _ hk => hk.elim) ?aF ?aO ?aB ?aS ?aL ?_; (case aP => exact rfl); (case aB => exact (by repeat (first | (with_reducible first | exact HB.out | apply below_alloc | apply pw_below_drewN | apply below_drew1) | exact HB.out))); (case aF => exact (fun _ _ => trivial)); (case aO => exact (by (with_reducible repeat (first | apply Kd.R_alloc | apply Kd.R_drewN | apply Kd.R_drew)); exact HO_3.out)); (case aS => exact (below_size (by repeat (first | (with_reducible first | exact HB.out | apply below_alloc | apply pw_below_drewN | apply below_drew1) | exact HB.out)))); (case aL => have := LMc4.out; omega); intro v113 w5 ho hb hg hat; rw [← Ny112.out] at ho; have n0_ := Aside0.mk (hb); have n1_ := Aside0.mk (ho); clear HB; clear HO_3; have HB := n0_; have HO114 := n1_; clear n0_ n1_; clear ho hb hg hat))
            go_roundg k1
            case measure => have := HK1.out; omega
            case rel => exact ⟨(y112), (wrap64 (x4_1 + 1)), (by first | rfl | (simp; done) | (simp [*]; done) | (simp; unfold wrap64; omega)), H', ⟨by have := HK1.out; omega⟩, ⟨by (with_reducible repeat (first | apply Kd.R_alloc | apply Kd.R_drewN | apply Kd.R_drew)); exact HO114.out⟩, ⟨by repeat (first | (with_reducible first | exact HB.out | apply below_alloc | apply pw_below_drewN | apply below_drew1) | exact HB.out)⟩⟩
          · rw [if_neg c4] at H
            exact absurd H (by simp)
        · rw [if_neg c3] at H
          exact absurd H (by simp)
      · rw [if_neg c2] at H
        have c2b0 : decide (x4_1 < (l0.length : Int)) = false := decide_eq_false c2
        clear c2
        obtain rfl := Option.some.inj H
        have hcv6 := Kd.own_runes (P := Tryd.prog) Tryd.underlying23 Tryd.underlying21 Tryd.underlying9 HO_3.out
        go_wp2
        go_ret
        exact ⟨by first | rfl | (simp [errW_none, errW_some] <;> rfl) | (simp [*, errW_none, errW_some] <;> rfl), by repeat (first | (with_reducible first | exact HB.out | apply below_alloc | apply pw_below_drewN | apply below_drew1) | exact HB.out)⟩

end Go.Proofs.YtnhmfeihnjdcpaaDoor.QSplitFields
