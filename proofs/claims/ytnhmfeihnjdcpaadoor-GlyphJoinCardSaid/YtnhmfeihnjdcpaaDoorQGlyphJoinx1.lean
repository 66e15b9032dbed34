-- Written by a program of this session (wip/tools), out of the kit's print of the loaded program: functions, and proofs that the calls come to them.
import Derived.Test.YtnhmfeihnjdcpaaDoorQGlyphJoinx0
namespace Go.Proofs.YtnhmfeihnjdcpaaDoor.QGlyphJoin
open Go.RowKit Go.Proofs.YtnhmfeihnjdcpaaDoorW.PrintWords Go.Proofs.YtnhmfeihnjdcpaaDoorW.PrintLast Go.Proofs.YtnhmfeihnjdcpaaDoorW.PrintMore
attribute [local go_sem] max2_int min2_int max_two min_two max_three min_three max_four min_four   -- for this text's walks alone
set_option linter.unusedVariables false
set_option linter.unusedSimpArgs false

/-! ### glyph_First: function 14 -/
def glyph_First.f (a0 : Int) : Option (Bool) := if a0 ≥ 97 then (if a0 ≤ 122 then (some true) else (if a0 ≥ 65 then (if a0 ≤ 90 then (some true) else (some (a0 == 95))) else (some (a0 == 95)))) else (if a0 ≥ 65 then (if a0 ≤ 90 then (some true) else (some (a0 == 95))) else (some (a0 == 95)))
set_option maxHeartbeats 8000000 in
set_option maxRecDepth 100000 in
theorem glyph_First.calls (a0 : Int) (r : Bool) (w : World) (h : glyph_First.f a0 = some r) :
    Calls Tryd.prog 14 #[.int .i32 a0] w fun e w' => e = .returned (.bool r) ∧ Drawn0 w w' := by
  have H : (if a0 ≥ 97 then (if a0 ≤ 122 then (some true) else (if a0 ≥ 65 then (if a0 ≤ 90 then (some true) else (some (a0 == 95))) else (some (a0 == 95)))) else (if a0 ≥ 65 then (if a0 ≤ 90 then (some true) else (some (a0 == 95))) else (some (a0 == 95)))) = some r := h
  clear h
  by_cases c2 : a0 ≥ 97
  · rw [if_pos c2] at H
    have c2b0 : decide (97 ≤ a0) = true := decide_eq_true c2
    clear c2
    by_cases c3 : a0 ≤ 122
    · rw [if_pos c3] at H
      have c3b0 : decide (a0 ≤ 122) = true := decide_eq_true c3
      clear c3
      obtain rfl := Option.some.inj H
      go_enter Tryd.func14, Tryd.ntmps14
      go_wp2
      go_ret
      exact ⟨by first | rfl | (simp; done) | (simp [*]; done) | (simp; unfold wrap64; omega) | (simp; generalize ByteArray.toList _ = l_; cases l_ <;> simp), by repeat (first | exact Drawn0.refl _ | apply Drawn0.step)⟩
    · rw [if_neg c3] at H
      have c3b0 : decide (a0 ≤ 122) = false := decide_eq_false c3
      clear c3
      by_cases c4 : a0 ≥ 65
      · rw [if_pos c4] at H
        have c4b0 : decide (65 ≤ a0) = true := decide_eq_true c4
        clear c4
        by_cases c5 : a0 ≤ 90
        · rw [if_pos c5] at H
          have c5b0 : decide (a0 ≤ 90) = true := decide_eq_true c5
          clear c5
          obtain rfl := Option.some.inj H
          go_enter Tryd.func14, Tryd.ntmps14
          go_wp2
          go_ret
          exact ⟨by first | rfl | (simp; done) | (simp [*]; done) | (simp; unfold wrap64; omega) | (simp; generalize ByteArray.toList _ = l_; cases l_ <;> simp), by repeat (first | exact Drawn0.refl _ | apply Drawn0.step)⟩
        · rw [if_neg c5] at H
          have c5b0 : decide (a0 ≤ 90) = false := decide_eq_false c5
          clear c5
          obtain rfl := Option.some.inj H
          go_enter Tryd.func14, Tryd.ntmps14
          go_wp2
          go_ret
          exact ⟨by first | rfl | (simp; done) | (simp [*]; done) | (simp; unfold wrap64; omega) | (simp; generalize ByteArray.toList _ = l_; cases l_ <;> simp), by repeat (first | exact Drawn0.refl _ | apply Drawn0.step)⟩
      · rw [if_neg c4] at H
        have c4b0 : decide (65 ≤ a0) = false := decide_eq_false c4
        clear c4
        obtain rfl := Option.some.inj H
        go_enter Tryd.func14, Tryd.ntmps14
        go_wp2
        go_ret
        exact ⟨by first | rfl | (simp; done) | (simp [*]; done) | (simp; unfold wrap64; omega) | (simp; generalize ByteArray.toList _ = l_; cases l_ <;> simp), by repeat (first | exact Drawn0.refl _ | apply Drawn0.step)⟩
  · rw [if_neg c2] at H
    have c2b0 : decide (97 ≤ a0) = false := decide_eq_false c2
    clear c2
    by_cases c6 : a0 ≥ 65
    · rw [if_pos c6] at H
      have c6b0 : decide (65 ≤ a0) = true := decide_eq_true c6
      clear c6
      by_cases c7 : a0 ≤ 90
      · rw [if_pos c7] at H
        have c7b0 : decide (a0 ≤ 90) = true := decide_eq_true c7
        clear c7
        obtain rfl := Option.some.inj H
        go_enter Tryd.func14, Tryd.ntmps14
        go_wp2
        go_ret
        exact ⟨by first | rfl | (simp; done) | (simp [*]; done) | (simp; unfold wrap64; omega) | (simp; generalize ByteArray.toList _ = l_; cases l_ <;> simp), by repeat (first | exact Drawn0.refl _ | apply Drawn0.step)⟩
      · rw [if_neg c7] at H
        have c7b0 : decide (a0 ≤ 90) = false := decide_eq_false c7
        clear c7
        obtain rfl := Option.some.inj H
        go_enter Tryd.func14, Tryd.ntmps14
        go_wp2
        go_ret
        exact ⟨by first | rfl | (simp; done) | (simp [*]; done) | (simp; unfold wrap64; omega) | (simp; generalize ByteArray.toList _ = l_; cases l_ <;> simp), by repeat (first | exact Drawn0.refl _ | apply Drawn0.step)⟩
    · rw [if_neg c6] at H
      have c6b0 : decide (65 ≤ a0) = false := decide_eq_false c6
      clear c6
      obtain rfl := Option.some.inj H
      go_enter Tryd.func14, Tryd.ntmps14
      go_wp2
      go_ret
      exact ⟨by first | rfl | (simp; done) | (simp [*]; done) | (simp; unfold wrap64; omega) | (simp; generalize ByteArray.toList _ = l_; cases l_ <;> simp), by repeat (first | exact Drawn0.refl _ | apply Drawn0.step)⟩

/-! ### glyph_More: function 12 -/
def glyph_More.f (a0 : Int) : Option (Bool) := (glyph_First.f a0).bind fun t101 => (if t101 = true then (some true) else (if a0 ≥ 48 then (some (decide (a0 ≤ 57))) else (some false)))
set_option maxHeartbeats 8000000 in
set_option maxRecDepth 100000 in
theorem glyph_More.calls (a0 : Int) (r : Bool) (w : World) (h : glyph_More.f a0 = some r) :
    Calls Tryd.prog 12 #[.int .i32 a0] w fun e w' => e = .returned (.bool r) ∧ Drawn0 w w' := by
  have H : ((glyph_First.f a0).bind fun t101 => (if t101 = true then (some true) else (if a0 ≥ 48 then (some (decide (a0 ≤ 57))) else (some false)))) = some r := h
  clear h
  replace H := Option.bind_eq_some_iff.mp H
  obtain ⟨t101, A20, H⟩ := H
  replace H : (if t101 = true then (some true) else (if a0 ≥ 48 then (some (decide (a0 ≤ 57))) else (some false))) = some r := H
  have A2 := Aside0.mk A20
  clear A20
  by_cases c3 : t101 = true
  · subst c3
    have H1 : (some true) = some r := by rw [if_pos rfl] at H; exact H
    clear H
    have H := H1
    clear H1
    obtain rfl := Option.some.inj H
    go_enter Tryd.func12, Tryd.ntmps12
    go_wp2_with (first | ((with_reducible refine gate_callee (f := 14) rfl ?_); refine goesL_ (some 4) rfl rfl Tryd.func14 (by kernel_rfl) rfl #[.int .i32 a0] rfl (by (try simp only [List.map_toArray, List.map_cons, List.map_nil]); first | done | rfl | (simp only [List.length_drop, List.length_take]; rfl)) ?_; (with_reducible refine (glyph_First.calls a0 true _ A2.out).mono ?_); rintro e w' ⟨rfl, ⟨nd, rfl⟩⟩; refine ⟨_, rfl, ?_⟩))
    go_ret
    exact ⟨by first | rfl | (simp; done) | (simp [*]; done) | (simp; unfold wrap64; omega) | (simp; generalize ByteArray.toList _ = l_; cases l_ <;> simp), by repeat (first | exact Drawn0.refl _ | apply Drawn0.step)⟩
  · replace c3 := Bool.eq_false_iff.mpr c3
    subst c3
    have H1 : (if a0 ≥ 48 then (some (decide (a0 ≤ 57))) else (some false)) = some r := by rw [if_neg (show ¬ (false = true) by decide)] at H; exact H
    clear H
    have H := H1
    clear H1
    by_cases c4 : a0 ≥ 48
    · rw [if_pos c4] at H
      have c4b0 : decide (48 ≤ a0) = true := decide_eq_true c4
      clear c4
      obtain rfl := Option.some.inj H
      go_enter Tryd.func12, Tryd.ntmps12
      go_wp2_with (first | ((with_reducible refine gate_callee (f := 14) rfl ?_); refine goesL_ (some 4) rfl rfl Tryd.func14 (by kernel_rfl) rfl #[.int .i32 a0] rfl (by (try simp only [List.map_toArray, List.map_cons, List.map_nil]); first | done | rfl | (simp only [List.length_drop, List.length_take]; rfl)) ?_; (with_reducible refine (glyph_First.calls a0 false _ A2.out).mono ?_); rintro e w' ⟨rfl, ⟨nd, rfl⟩⟩; refine ⟨_, rfl, ?_⟩))
      go_ret
      exact ⟨by first | rfl | (simp; done) | (simp [*]; done) | (simp; unfold wrap64; omega) | (simp; generalize ByteArray.toList _ = l_; cases l_ <;> simp), by repeat (first | exact Drawn0.refl _ | apply Drawn0.step)⟩
    · rw [if_neg c4] at H
      have c4b0 : decide (48 ≤ a0) = false := decide_eq_false c4
      clear c4
      obtain rfl := Option.some.inj H
      go_enter Tryd.func12, Tryd.ntmps12
      go_wp2_with (first | ((with_reducible refine gate_callee (f := 14) rfl ?_); refine goesL_ (some 4) rfl rfl Tryd.func14 (by kernel_rfl) rfl #[.int .i32 a0] rfl (by (try simp only [List.map_toArray, List.map_cons, List.map_nil]); first | done | rfl | (simp only [List.length_drop, List.length_take]; rfl)) ?_; (with_reducible refine (glyph_First.calls a0 false _ A2.out).mono ?_); rintro e w' ⟨rfl, ⟨nd, rfl⟩⟩; refine ⟨_, rfl, ?_⟩))
      go_ret
      exact ⟨by first | rfl | (simp; done) | (simp [*]; done) | (simp; unfold wrap64; omega) | (simp; generalize ByteArray.toList _ = l_; cases l_ <;> simp), by repeat (first | exact Drawn0.refl _ | apply Drawn0.step)⟩

/-! ### glyph_Count: function 24 -/
def glyph_Count.f (a0 : ByteArray) : Option (Int) := if a0.size < 17592186044416 then some ((Kd.letters a0).length : Int) else none
set_option maxHeartbeats 2000000 in
theorem glyph_Count.calls (a0 : ByteArray) (r : Int) (w : World) (h : glyph_Count.f a0 = some r) :
    Calls Tryd.prog 24 #[.string a0] w fun e w' => e = .returned (.int .i64 r) ∧ Below w.heap.size w w' := by
  unfold glyph_Count.f at h
  by_cases hl : a0.size < 17592186044416
  · rw [if_pos hl] at h
    injection h with h
    subst h
    go_enter Tryd.func24, Tryd.ntmps24
    go_wp2
    go_loopw [3] (fun v wr => ∃ (c pos : Nat), v = .int .i64 (c : Int) ∧ wr.heap[w.heap.size]? = some (.stringIter a0 pos) ∧ Aside0 (Below w.heap.size w wr) ∧ Aside0 (c + (Kd.letN a0 (a0.size - pos) pos).length = (Kd.letters a0).length) ∧ c ≤ pos) (fun _ wr => a0.size - wr.iterPos w.heap.size)
    case atStart => exact ⟨0, 0, rfl, World.iter_heap w a0 0, ⟨(Below.refl _ _).alloc (Nat.le_refl _) _⟩, ⟨by simp [Kd.letters]⟩, Nat.le_refl _⟩
    case round =>
      obtain ⟨c, pos, rfl, hit, HB, HI, hlen⟩ := hrel
      have hpos0 := Kd.iterPos_is hit
      by_cases hp : pos < a0.size
      · have hnx : ∀ ty, (Instr.next (.pointer (some ⟨w.heap.size, 0, none⟩)) true ty).run Tryd.prog wr = _ := fun ty => Lib.run_next_any_at wr w.heap.size a0 pos ty hit hp
        have hwd := Kd.width_pos a0 pos hp
        have HI2 : Aside0 ((c + 1) + (Kd.letN a0 (a0.size - (pos + (Utf8.decode a0 pos).2)) (pos + (Utf8.decode a0 pos).2)).length = (Kd.letters a0).length) := ⟨by rw [← HI.out, Kd.letN_at a0 pos hp]; simp; omega⟩
        have hit2 := Lib.iterAt_heap wr w.heap.size a0 pos (pos + (Utf8.decode a0 pos).2) hit
        have HB2 := Aside0.mk (Lib.below_iterAt HB.out (k := w.heap.size) (Nat.le_refl _) a0 (pos + (Utf8.decode a0 pos).2))
        obtain ⟨W1, hW1⟩ : ∃ W1, W1 = wr.iterAt w.heap.size a0 (pos + (Utf8.decode a0 pos).2) := ⟨_, rfl⟩
        rw [← hW1] at hnx hit2 HB2
        have HIT := Aside0.mk hit2
        clear hW1 hit HB HI hit2
        have hp2 : pos < pos + (Utf8.decode a0 pos).2 := by omega
        clear hwd
        generalize (Utf8.decode a0 pos).1 = ch at hnx HI2
        generalize pos + (Utf8.decode a0 pos).2 = p2 at *
        have hwr : IntKind.i64.wrap ((c : Int) + 1) = (c : Int) + 1 := by rw [IntKind.wrap_i64]; omega
        go_wp2
        go_roundw
        case rel => exact ⟨c + 1, _, by first | rfl | (simp; done) | (push_cast; rfl) | (congr 1; unfold wrap64; omega), HIT.out, HB2, HI2, by omega⟩
        case measure => rw [Kd.iterPos_is HIT.out, hpos0]; omega
      · have hnx : ∀ ty, (Instr.next (.pointer (some ⟨w.heap.size, 0, none⟩)) true ty).run Tryd.prog wr = _ := fun ty => Lib.run_next_end_at wr w.heap.size a0 pos ty hit hp
        have e : c = (Kd.letters a0).length := by rw [← HI.out, Kd.letN_end a0 _ pos hp]; rfl
        subst e
        clear HI
        go_wp2
        go_ret
        exact ⟨rfl, HB.out⟩
  · rw [if_neg hl] at h
    cases h


/-! ### glyph_Name: function 11 -/
def glyph_Name.fst (c : Int) : Bool := (glyph_First.f c).getD false
theorem glyph_Name.fst_f (c : Int) : glyph_First.f c = some (glyph_Name.fst c) := by
  unfold glyph_Name.fst glyph_First.f
  repeat' split
  all_goals rfl
def glyph_Name.mor (c : Int) : Bool := (glyph_More.f c).getD false
theorem glyph_Name.mor_f (c : Int) : glyph_More.f c = some (glyph_Name.mor c) := by
  unfold glyph_Name.mor glyph_More.f
  rw [glyph_Name.fst_f]
  simp only [Option.bind_some]
  repeat' split
  all_goals rfl
def glyph_Name.go (s : ByteArray) : Nat → Nat → Bool
  | 0, _ => true
  | d + 1, pos => if pos < s.size then (if ((decide (pos = 0) && !glyph_Name.fst ((Utf8.decode s pos).1 : Int)) || !glyph_Name.mor ((Utf8.decode s pos).1 : Int)) = true then false else glyph_Name.go s d (pos + (Utf8.decode s pos).2)) else true
theorem glyph_Name.go_end (s : ByteArray) (d pos : Nat) (h : ¬ pos < s.size) : glyph_Name.go s d pos = true := by
  cases d with
  | zero => rfl
  | succ d => rw [glyph_Name.go, if_neg h]
theorem glyph_Name.go_more (s : ByteArray) : ∀ (d d' pos : Nat), s.size ≤ pos + d → s.size ≤ pos + d' → glyph_Name.go s d pos = glyph_Name.go s d' pos
  | 0, d', pos, h, _ => by rw [glyph_Name.go_end s _ pos (by omega), glyph_Name.go_end s _ pos (by omega)]
  | d + 1, 0, pos, _, h => by rw [glyph_Name.go_end s _ pos (by omega), glyph_Name.go_end s _ pos (by omega)]
  | d + 1, d' + 1, pos, h, h' => by
    rw [glyph_Name.go, glyph_Name.go]
    by_cases hp : pos < s.size
    · have := Kd.width_pos s pos hp
      rw [if_pos hp, if_pos hp, glyph_Name.go_more s d d' _ (by omega) (by omega)]
    · rw [if_neg hp, if_neg hp]
theorem glyph_Name.go_at (s : ByteArray) (pos : Nat) (h : pos < s.size) : glyph_Name.go s (s.size - pos) pos = if ((decide (pos = 0) && !glyph_Name.fst ((Utf8.decode s pos).1 : Int)) || !glyph_Name.mor ((Utf8.decode s pos).1 : Int)) = true then false else glyph_Name.go s (s.size - (pos + (Utf8.decode s pos).2)) (pos + (Utf8.decode s pos).2) := by
  obtain ⟨d, hd⟩ : ∃ d, s.size - pos = d + 1 := ⟨s.size - pos - 1, by omega⟩
  have := Kd.width_pos s pos h
  rw [hd, glyph_Name.go, if_pos h, glyph_Name.go_more s d (s.size - (pos + (Utf8.decode s pos).2)) _ (by omega) (by omega)]
def glyph_Name.f (a0 : ByteArray) : Option (Bool) := if a0.size < 17592186044416 then some (glyph_Name.go a0 a0.size 0 && (a0.toList != ([] : List UInt8) && decide ((Kd.letters a0).length ≤ 12))) else none
set_option maxHeartbeats 4000000 in
theorem glyph_Name.calls (a0 : ByteArray) (r : Bool) (w : World) (h : glyph_Name.f a0 = some r) :
    Calls Tryd.prog 11 #[.string a0] w fun e w' => e = .returned (.bool r) ∧ Below w.heap.size w w' := by
  unfold glyph_Name.f at h
  by_cases hl : a0.size < 17592186044416
  · rw [if_pos hl] at h
    injection h with h
    have H0 := Aside0.mk h
    clear h
    have HC : Aside0 (glyph_Count.f a0 = some ((Kd.letters a0).length : Int)) := ⟨by rw [glyph_Count.f, if_pos hl]⟩
    go_enter Tryd.func11, Tryd.ntmps11
    go_wp2
    go_loopw [] (fun wr => ∃ (pos : Nat), wr.heap[w.heap.size]? = some (.stringIter a0 pos) ∧ Aside0 (Below w.heap.size w wr) ∧ Aside0 ((glyph_Name.go a0 (a0.size - pos) pos && (a0.toList != ([] : List UInt8) && decide ((Kd.letters a0).length ≤ 12))) = r)) (fun wr => a0.size - wr.iterPos w.heap.size)
    case atStart => exact ⟨0, World.iter_heap w a0 0, ⟨(Below.refl _ _).alloc (Nat.le_refl _) _⟩, H0⟩
    case round =>
      obtain ⟨pos, hit, HB, HI⟩ := hrel
      have hpos0 := Kd.iterPos_is hit
      by_cases hp : pos < a0.size
      · have hnx : ∀ ty, (Instr.next (.pointer (some ⟨w.heap.size, 0, none⟩)) true ty).run Tryd.prog wr = _ := fun ty => Lib.run_next_any_at wr w.heap.size a0 pos ty hit hp
        have hwd := Kd.width_pos a0 pos hp
        have HI2 := HI.out
        rw [glyph_Name.go_at a0 pos hp] at HI2
        have hit2 := Lib.iterAt_heap wr w.heap.size a0 pos (pos + (Utf8.decode a0 pos).2) hit
        have HB2 := Aside0.mk (Lib.below_iterAt HB.out (k := w.heap.size) (Nat.le_refl _) a0 (pos + (Utf8.decode a0 pos).2))
        obtain ⟨W1, hW1⟩ : ∃ W1, W1 = wr.iterAt w.heap.size a0 (pos + (Utf8.decode a0 pos).2) := ⟨_, rfl⟩
        rw [← hW1] at hnx hit2 HB2
        have HIT := Aside0.mk hit2
        clear hW1 hit HB HI hit2
        have hp2 : pos < pos + (Utf8.decode a0 pos).2 := by omega
        clear hwd
        generalize (Utf8.decode a0 pos).1 = ch at hnx HI2
        generalize pos + (Utf8.decode a0 pos).2 = p2 at *
        obtain ⟨fb, hfb⟩ : ∃ fb, glyph_Name.fst (ch : Int) = fb := ⟨_, rfl⟩
        obtain ⟨mb, hmb⟩ : ∃ mb, glyph_Name.mor (ch : Int) = mb := ⟨_, rfl⟩
        have HF : Aside0 (glyph_First.f (ch : Int) = some fb) := ⟨by rw [glyph_Name.fst_f, hfb]⟩
        have HM : Aside0 (glyph_More.f (ch : Int) = some mb) := ⟨by rw [glyph_Name.mor_f, hmb]⟩
        rw [hfb, hmb] at HI2
        clear hfb hmb
        by_cases hz : pos = 0
        · have hzb : ((pos : Int) == 0) = true := beq_iff_eq.2 (by omega)
          cases fb with
          | false =>
            have HI3 : false = r := by simpa [hz] using HI2
            subst HI3
            clear HI2
            go_wp2_with (first | (go_at_call 14; (with_reducible refine (glyph_First.calls (ch : Int) false _ HF.out).mono ?_); rintro e w2 ⟨rfl, ⟨nd, rfl⟩⟩; have HB3 := Aside0.mk (pw_below_drewN HB2.out nd); have HIT3 := Aside0.mk (blk_drewN HIT.out nd)))
            go_ret
            exact ⟨rfl, HB3.out⟩
          | true =>
            cases mb with
            | false =>
              have HI3 : false = r := by simpa [hz] using HI2
              subst HI3
              clear HI2
              go_wp2_with (first | (go_at_call 14; (with_reducible refine (glyph_First.calls (ch : Int) true _ HF.out).mono ?_); rintro e w2 ⟨rfl, ⟨nd, rfl⟩⟩; have HB3 := Aside0.mk (pw_below_drewN HB2.out nd); have HIT3 := Aside0.mk (blk_drewN HIT.out nd)) | (go_at_call 12; (with_reducible refine (glyph_More.calls (ch : Int) false _ HM.out).mono ?_); rintro e w3 ⟨rfl, ⟨nd2, rfl⟩⟩; have HB4 := Aside0.mk (pw_below_drewN HB2.out (nd + nd2)); have HIT4 := Aside0.mk (blk_drewN HIT.out (nd + nd2))))
              go_ret
              exact ⟨rfl, HB4.out⟩
            | true =>
              have HI3 : Aside0 ((glyph_Name.go a0 (a0.size - p2) p2 && (a0.toList != ([] : List UInt8) && decide ((Kd.letters a0).length ≤ 12))) = r) := ⟨by simpa [hz] using HI2⟩
              clear HI2
              go_wp2_with (first | (go_at_call 14; (with_reducible refine (glyph_First.calls (ch : Int) true _ HF.out).mono ?_); rintro e w2 ⟨rfl, ⟨nd, rfl⟩⟩; have HB3 := Aside0.mk (pw_below_drewN HB2.out nd); have HIT3 := Aside0.mk (blk_drewN HIT.out nd)) | (go_at_call 12; (with_reducible refine (glyph_More.calls (ch : Int) true _ HM.out).mono ?_); rintro e w3 ⟨rfl, ⟨nd2, rfl⟩⟩; have HB4 := Aside0.mk (pw_below_drewN HB2.out (nd + nd2)); have HIT4 := Aside0.mk (blk_drewN HIT.out (nd + nd2))))
              go_roundw
              case rel => exact ⟨_, HIT4.out, HB4, HI3⟩
              case measure => rw [Kd.iterPos_is HIT4.out, hpos0]; omega
        · have hzb : ((pos : Int) == 0) = false := beq_eq_false_iff_ne.2 (by omega)
          cases mb with
          | false =>
            have HI3 : false = r := by simpa [hz] using HI2
            subst HI3
            clear HI2
            go_wp2_with (first | (go_at_call 12; (with_reducible refine (glyph_More.calls (ch : Int) false _ HM.out).mono ?_); rintro e w3 ⟨rfl, ⟨nd2, rfl⟩⟩; have HB4 := Aside0.mk (pw_below_drewN HB2.out nd2); have HIT4 := Aside0.mk (blk_drewN HIT.out nd2)))
            go_ret
            exact ⟨rfl, HB4.out⟩
          | true =>
            have HI3 : Aside0 ((glyph_Name.go a0 (a0.size - p2) p2 && (a0.toList != ([] : List UInt8) && decide ((Kd.letters a0).length ≤ 12))) = r) := ⟨by simpa [hz] using HI2⟩
            clear HI2
            go_wp2_with (first | (go_at_call 12; (with_reducible refine (glyph_More.calls (ch : Int) true _ HM.out).mono ?_); rintro e w3 ⟨rfl, ⟨nd2, rfl⟩⟩; have HB4 := Aside0.mk (pw_below_drewN HB2.out nd2); have HIT4 := Aside0.mk (blk_drewN HIT.out nd2)))
            go_roundw
            case rel => exact ⟨_, HIT4.out, HB4, HI3⟩
            case measure => rw [Kd.iterPos_is HIT4.out, hpos0]; omega
      · have hnx : ∀ ty, (Instr.next (.pointer (some ⟨w.heap.size, 0, none⟩)) true ty).run Tryd.prog wr = _ := fun ty => Lib.run_next_end_at wr w.heap.size a0 pos ty hit hp
        have HI2 := HI.out
        rw [glyph_Name.go_end a0 _ pos hp, Bool.true_and] at HI2
        clear HI
        cases hne : (a0.toList != ([] : List UInt8)) with
        | false =>
          have HI3 : false = r := by simpa [hne] using HI2
          subst HI3
          clear HI2
          have hne2 : (a0.toList == ([] : List UInt8)) = true := by simpa [bne] using hne
          go_wp2
          go_ret
          exact ⟨rfl, HB.out⟩
        | true =>
          have hne2 : (a0.toList == ([] : List UInt8)) = false := by simpa [bne] using hne
          rw [hne, Bool.true_and] at HI2
          obtain ⟨n, hn⟩ : ∃ n, (Kd.letters a0).length = n := ⟨_, rfl⟩
          rw [hn] at HI2 HC
          clear hn
          have hd : decide ((n : Int) ≤ 12) = r := by rw [← HI2]; simp; omega
          clear HI2
          go_wp2_with (first | (go_at_call 24; (with_reducible refine (glyph_Count.calls a0 _ _ HC.out).mono ?_); rintro e w3 ⟨rfl, hb⟩; have HB4 := Aside0.mk (below_step HB.out hb); clear hb))
          go_ret
          exact ⟨by first | rfl | rw [hd], HB4.out⟩
  · rw [if_neg hl] at h
    cases h


-- NOT PRINTED: function 51 (utf8_decodeRuneInStringSlow)

/-! ### utf8_DecodeRuneInString: function 42 -/
def utf8_DecodeRuneInString.ren : Go.Shelf.Ren := ⟨fun | 197 => 42 | 260 => 51 | n => n, fun | 0 => 0 | 3 => 3 | 4 => 4 | 5 => 5 | 9 => 9 | 21 => 21 | 46 => 81 | 105 => 54 | 119 => 80 | 138 => 83 | 139 => 84 | n => n, fun | 3 => 0 | 4 => 1 | n => n⟩
theorem utf8_DecodeRuneInString.lays : Go.Proofs.Lays.n197 Tryd.prog utf8_DecodeRuneInString.ren := {
  mixed := by kernel_rfl
  f197 := Tryd.func42.trans (congrArg some (by kernel_rfl))
  f260 := Tryd.func51.trans (congrArg some (by kernel_rfl))
  t0 := Tryd.underlying0
  a0 := Tryd.isAgg0
  z0 := Tryd.sizeOf0
  v0 := Tryd.zeroValue0
  t3 := Tryd.underlying3
  a3 := Tryd.isAgg3
  z3 := Tryd.sizeOf3
  v3 := Tryd.zeroValue3
  t4 := Tryd.underlying4
  a4 := Tryd.isAgg4
  z4 := Tryd.sizeOf4
  v4 := Tryd.zeroValue4
  t5 := Tryd.underlying5
  a5 := Tryd.isAgg5
  z5 := Tryd.sizeOf5
  v5 := Tryd.zeroValue5
  t9 := Tryd.underlying9
  a9 := Tryd.isAgg9
  z9 := Tryd.sizeOf9
  v9 := Tryd.zeroValue9
  t21 := Tryd.underlying21
  a21 := Tryd.isAgg21
  z21 := Tryd.sizeOf21
  v21 := Tryd.zeroValue21
  t46 := Tryd.underlying81
  a46 := Tryd.isAgg81
  z46 := Tryd.sizeOf81
  v46 := Tryd.zeroValue81
  t105 := Tryd.underlying54
  a105 := Tryd.isAgg54
  z105 := Tryd.sizeOf54
  v105 := Tryd.zeroValue54
  t119 := Tryd.underlying80
  a119 := Tryd.isAgg80
  z119 := Tryd.sizeOf80
  t138 := Tryd.underlying83
  a138 := Tryd.isAgg83
  z138 := Tryd.sizeOf83
  v138 := Tryd.zeroValue83
  t139 := Tryd.underlying84
  a139 := Tryd.isAgg84
  z139 := Tryd.sizeOf84
  v139 := Tryd.zeroValue84
  g3 := by kernel_rfl
  g4 := by kernel_rfl }
theorem utf8_DecodeRuneInString.extra : Go.Proofs.U8Extra Tryd.prog utf8_DecodeRuneInString.ren := ⟨by kernel_rfl, by kernel_rfl, by kernel_rfl, by kernel_rfl, by kernel_rfl, by kernel_rfl, by kernel_rfl⟩
def utf8_DecodeRuneInString.f (a0 : ByteArray) : Option (Int × Int) := some (((Lib.decodeGo a0).1 : Int), ((Lib.decodeGo a0).2 : Int))
theorem utf8_DecodeRuneInString.calls (a0 : ByteArray) (r1 : Int) (r2 : Int) (w : World) (h : utf8_DecodeRuneInString.f a0 = some (r1, r2)) (hT : Lib.Utf8Tabs 0 1 w) :
    Calls Tryd.prog 42 #[.string a0] w fun e w' => e = .returned (.tuple #[.int .i32 r1, .int .i64 r2]) ∧ Below w.heap.size w w' := by
  injection h with h
  injection h with h1 h2
  subst h1 h2
  exact Any.utf8_DecodeRuneInString utf8_DecodeRuneInString.lays a0 w hT
theorem utf8_DecodeRuneInString.below {w w' : World} (h : Lib.Utf8Tabs 0 1 w) (hb : Below w.heap.size w w') : Lib.Utf8Tabs 0 1 w' :=
  ⟨fun c hc => pw_cell_below hb (h.1 c hc), fun i hi => ⟨pw_cell_below hb (h.2 i hi).1, pw_cell_below hb (h.2 i hi).2⟩⟩


/-! ### glyph_Valid: function 19 -/
def glyph_Valid.go (s : ByteArray) : Nat → Nat → Int × Bool
  | 0, _ => ((s.size : Int), true)
  | d + 1, pos => if pos < s.size then (if (Utf8.decode s pos).1 = 0 then ((pos : Int), false) else if (Utf8.decode s pos).1 = 65533 ∧ (Lib.decodeGo (s.extract pos s.size)).2 = 1 then ((pos : Int), false) else glyph_Valid.go s d (pos + (Utf8.decode s pos).2)) else ((s.size : Int), true)
theorem glyph_Valid.go_end (s : ByteArray) (d pos : Nat) (h : ¬ pos < s.size) : glyph_Valid.go s d pos = ((s.size : Int), true) := by
  cases d with
  | zero => rfl
  | succ d => rw [glyph_Valid.go, if_neg h]
theorem glyph_Valid.go_more (s : ByteArray) : ∀ (d d' pos : Nat), s.size ≤ pos + d → s.size ≤ pos + d' → glyph_Valid.go s d pos = glyph_Valid.go s d' pos
  | 0, d', pos, h, _ => by rw [glyph_Valid.go_end s _ pos (by omega), glyph_Valid.go_end s _ pos (by omega)]
  | d + 1, 0, pos, _, h => by rw [glyph_Valid.go_end s _ pos (by omega), glyph_Valid.go_end s _ pos (by omega)]
  | d + 1, d' + 1, pos, h, h' => by
    rw [glyph_Valid.go, glyph_Valid.go]
    by_cases hp : pos < s.size
    · have := Kd.width_pos s pos hp
      rw [if_pos hp, if_pos hp, glyph_Valid.go_more s d d' _ (by omega) (by omega)]
    · rw [if_neg hp, if_neg hp]
theorem glyph_Valid.go_at (s : ByteArray) (pos : Nat) (h : pos < s.size) : glyph_Valid.go s (s.size - pos) pos = if (Utf8.decode s pos).1 = 0 then ((pos : Int), false) else if (Utf8.decode s pos).1 = 65533 ∧ (Lib.decodeGo (s.extract pos s.size)).2 = 1 then ((pos : Int), false) else glyph_Valid.go s (s.size - (pos + (Utf8.decode s pos).2)) (pos + (Utf8.decode s pos).2) := by
  obtain ⟨d, hd⟩ : ∃ d, s.size - pos = d + 1 := ⟨s.size - pos - 1, by omega⟩
  have := Kd.width_pos s pos h
  rw [hd, glyph_Valid.go, if_pos h, glyph_Valid.go_more s d (s.size - (pos + (Utf8.decode s pos).2)) _ (by omega) (by omega)]
def glyph_Valid.f (a0 : ByteArray) : Option (Int × Bool) := if a0.size < 17592186044416 then some (glyph_Valid.go a0 a0.size 0) else none
set_option maxHeartbeats 2000000 in
theorem glyph_Valid.calls (a0 : ByteArray) (r1 : Int) (r2 : Bool) (w : World) (h : glyph_Valid.f a0 = some (r1, r2)) (hT : Lib.Utf8Tabs 0 1 w) :
    Calls Tryd.prog 19 #[.string a0] w fun e w' => e = .returned (.tuple #[.int .i64 r1, .bool r2]) ∧ Below w.heap.size w w' := by
  have HT := Aside0.mk hT
  clear hT
  unfold glyph_Valid.f at h
  by_cases hl : a0.size < 17592186044416
  · rw [if_pos hl] at h
    injection h with h
    have H0 := Aside0.mk h
    clear h
    go_enter Tryd.func19, Tryd.ntmps19
    go_wp2
    go_loopw [] (fun wr => ∃ (pos : Nat), wr.heap[w.heap.size]? = some (.stringIter a0 pos) ∧ Aside0 (Below w.heap.size w wr) ∧ Aside0 (glyph_Valid.go a0 (a0.size - pos) pos = (r1, r2))) (fun wr => a0.size - wr.iterPos w.heap.size)
    case atStart => exact ⟨0, World.iter_heap w a0 0, ⟨(Below.refl _ _).alloc (Nat.le_refl _) _⟩, H0⟩
    case round =>
      obtain ⟨pos, hit, HB, HI⟩ := hrel
      have hpos0 := Kd.iterPos_is hit
      by_cases hp : pos < a0.size
      · have hnx : ∀ ty, (Instr.next (.pointer (some ⟨w.heap.size, 0, none⟩)) true ty).run Tryd.prog wr = _ := fun ty => Lib.run_next_any_at wr w.heap.size a0 pos ty hit hp
        have hwd := Kd.width_pos a0 pos hp
        have HI2 := HI.out
        rw [glyph_Valid.go_at a0 pos hp] at HI2
        have hit2 := Lib.iterAt_heap wr w.heap.size a0 pos (pos + (Utf8.decode a0 pos).2) hit
        have HB2 := Aside0.mk (Lib.below_iterAt HB.out (k := w.heap.size) (Nat.le_refl _) a0 (pos + (Utf8.decode a0 pos).2))
        obtain ⟨W1, hW1⟩ : ∃ W1, W1 = wr.iterAt w.heap.size a0 (pos + (Utf8.decode a0 pos).2) := ⟨_, rfl⟩
        rw [← hW1] at hnx hit2 HB2
        have HIT := Aside0.mk hit2
        clear hW1 hit HB HI hit2
        have hp2 : pos < pos + (Utf8.decode a0 pos).2 := by omega
        clear hwd
        generalize (Utf8.decode a0 pos).1 = ch at hnx HI2
        generalize pos + (Utf8.decode a0 pos).2 = p2 at *
        have hb1 : decide ((0 : Int) ≤ (pos : Int)) = true := decide_eq_true (by omega)
        have hb2 : decide ((pos : Int) ≤ (a0.size : Int)) = true := decide_eq_true (by omega)
        have hb3 : (pos ≤ a0.size) = True := eq_true (by omega)
        have hb4 : ((pos : Int) ≤ (a0.size : Int)) = True := eq_true (by omega)
        by_cases h0 : ch = 0
        · rw [if_pos h0] at HI2
          injection HI2 with e1 e2
          subst e1 e2 h0
          go_wp2
          go_ret2
          exact ⟨rfl, HB2.out⟩
        rw [if_neg h0] at HI2
        have h0b : ((ch : Int) == 0) = false := beq_eq_false_iff_ne.2 (by omega)
        have hT2 := Aside0.mk (utf8_DecodeRuneInString.below HT.out HB2.out)
        obtain ⟨rr, hrr⟩ : ∃ rr, ((Lib.decodeGo (a0.extract pos a0.size)).1 : Int) = rr := ⟨_, rfl⟩
        obtain ⟨nn, hnn⟩ : ∃ nn, (Lib.decodeGo (a0.extract pos a0.size)).2 = nn := ⟨_, rfl⟩
        have HD : Aside0 (utf8_DecodeRuneInString.f (a0.extract pos a0.size) = some (rr, (nn : Int))) := ⟨by rw [utf8_DecodeRuneInString.f, hrr, hnn]⟩
        rw [hnn] at HI2
        clear hrr hnn
        by_cases h1 : ch = 65533
        · have h1b : ((ch : Int) == 65533) = true := beq_iff_eq.2 (by omega)
          by_cases h2 : nn = 1
          · rw [if_pos ⟨h1, h2⟩] at HI2
            injection HI2 with e1 e2
            subst e1 e2 h1 h2
            go_wp2_with (go_at_call 42; go_must ((with_reducible refine (utf8_DecodeRuneInString.calls _ rr _ _ HD.out ?sT).mono ?_); (case sT => exact hT2.out); rintro e w2 ⟨rfl, hb⟩; have HB3 := Aside0.mk (below_step HB2.out hb); clear hb))
            go_ret2
            exact ⟨rfl, HB3.out⟩
          · rw [if_neg (fun h => h2 h.2)] at HI2
            have h2b : ((nn : Int) == 1) = false := beq_eq_false_iff_ne.2 (by omega)
            have HI3 := Aside0.mk HI2
            clear HI2
            subst h1
            go_wp2_with (go_at_call 42; go_must ((with_reducible refine (utf8_DecodeRuneInString.calls _ rr _ _ HD.out ?sT).mono ?_); (case sT => exact hT2.out); rintro e w2 ⟨rfl, hb⟩; have HB3 := Aside0.mk (below_step HB2.out hb); have HIT3 := Aside0.mk ((hb.block w.heap.size (Array.getElem?_eq_some_iff.1 HIT.out).1).trans HIT.out); clear hb))
            go_roundw
            case rel => exact ⟨_, HIT3.out, HB3, HI3⟩
            case measure => rw [Kd.iterPos_is HIT3.out, hpos0]; omega
        · have h1b : ((ch : Int) == 65533) = false := beq_eq_false_iff_ne.2 (by omega)
          rw [if_neg (fun h => h1 h.1)] at HI2
          have HI3 := Aside0.mk HI2
          clear HI2
          go_wp2_with (go_at_call 42; go_must ((with_reducible refine (utf8_DecodeRuneInString.calls _ rr _ _ HD.out ?sT).mono ?_); (case sT => exact hT2.out); rintro e w2 ⟨rfl, hb⟩; have HB3 := Aside0.mk (below_step HB2.out hb); have HIT3 := Aside0.mk ((hb.block w.heap.size (Array.getElem?_eq_some_iff.1 HIT.out).1).trans HIT.out); clear hb))
          go_roundw
          case rel => exact ⟨_, HIT3.out, HB3, HI3⟩
          case measure => rw [Kd.iterPos_is HIT3.out, hpos0]; omega
      · have hnx : ∀ ty, (Instr.next (.pointer (some ⟨w.heap.size, 0, none⟩)) true ty).run Tryd.prog wr = _ := fun ty => Lib.run_next_end_at wr w.heap.size a0 pos ty hit hp
        have e := HI.out
        rw [glyph_Valid.go_end a0 _ pos hp] at e
        injection e with e1 e2
        subst e1 e2
        clear HI
        go_wp2
        go_ret2
        exact ⟨rfl, HB.out⟩
  · rw [if_neg hl] at h
    cases h


/-! ### lazaruslaw7_known: function 13 -/
def lazaruslaw7_known.f  : Option (Bool) := (glyph_Valid.f (⟨#[97, 255]⟩ : ByteArray)).bind fun bt102 => ((glyph_Count.f (⟨#[195, 169, 49]⟩ : ByteArray)).bind fun t104 => (if t104 = 2 then ((glyph_Name.f (⟨#[195, 169, 49]⟩ : ByteArray)).bind fun t105 => (if t105 = true then (some false) else ((glyph_Name.f (⟨#[95, 97, 49]⟩ : ByteArray)).bind fun t106 => (if t106 = true then (if bt102.1 = 1 then (some (!bt102.2)) else (some false)) else (some false))))) else (some false)))
set_option maxHeartbeats 8000000 in
set_option maxRecDepth 100000 in
theorem lazaruslaw7_known.calls  (r : Bool) (w : World) (h : lazaruslaw7_known.f  = some r) (hT : Lib.Utf8Tabs 0 1 w) :
    Calls Tryd.prog 13 #[] w fun e w' => e = .returned (.bool r) ∧ Below w.heap.size w w' := by
  have HT := Aside0.mk hT
  clear hT
  have HB := Aside0.mk (Below.refl w.heap.size w)
  have H : ((glyph_Valid.f (⟨#[97, 255]⟩ : ByteArray)).bind fun bt102 => ((glyph_Count.f (⟨#[195, 169, 49]⟩ : ByteArray)).bind fun t104 => (if t104 = 2 then ((glyph_Name.f (⟨#[195, 169, 49]⟩ : ByteArray)).bind fun t105 => (if t105 = true then (some false) else ((glyph_Name.f (⟨#[95, 97, 49]⟩ : ByteArray)).bind fun t106 => (if t106 = true then (if bt102.1 = 1 then (some (!bt102.2)) else (some false)) else (some false))))) else (some false)))) = some r := h
  clear h
  replace H := Option.bind_eq_some_iff.mp H
  obtain ⟨⟨t102, t103⟩, A10, H⟩ := H
  replace H : ((glyph_Count.f (⟨#[195, 169, 49]⟩ : ByteArray)).bind fun t104 => (if t104 = 2 then ((glyph_Name.f (⟨#[195, 169, 49]⟩ : ByteArray)).bind fun t105 => (if t105 = true then (some false) else ((glyph_Name.f (⟨#[95, 97, 49]⟩ : ByteArray)).bind fun t106 => (if t106 = true then (if t102 = 1 then (some (!t103)) else (some false)) else (some false))))) else (some false))) = some r := H
  have A1 := Aside0.mk A10
  clear A10
  replace H := Option.bind_eq_some_iff.mp H
  obtain ⟨t104, A20, H⟩ := H
  replace H : (if t104 = 2 then ((glyph_Name.f (⟨#[195, 169, 49]⟩ : ByteArray)).bind fun t105 => (if t105 = true then (some false) else ((glyph_Name.f (⟨#[95, 97, 49]⟩ : ByteArray)).bind fun t106 => (if t106 = true then (if t102 = 1 then (some (!t103)) else (some false)) else (some false))))) else (some false)) = some r := H
  have A2 := Aside0.mk A20
  clear A20
  by_cases c3 : t104 = 2
  · rw [if_pos c3] at H
    have c3b0 : (t104 == 2) = true := beq_iff_eq.mpr c3
    have c3b1 : (t104 != 2) = false := bne_eq_false_iff_eq.mpr c3
    clear c3
    replace H := Option.bind_eq_some_iff.mp H
    obtain ⟨t105, A40, H⟩ := H
    replace H : (if t105 = true then (some false) else ((glyph_Name.f (⟨#[95, 97, 49]⟩ : ByteArray)).bind fun t106 => (if t106 = true then (if t102 = 1 then (some (!t103)) else (some false)) else (some false)))) = some r := H
    have A4 := Aside0.mk A40
    clear A40
    by_cases c5 : t105 = true
    · subst c5
      have H1 : (some false) = some r := by rw [if_pos rfl] at H; exact H
      clear H
      have H := H1
      clear H1
      obtain rfl := Option.some.inj H
      go_enter Tryd.func13, Tryd.ntmps13
      go_wp2_with (first | ((with_reducible refine gate_callee (f := 19) rfl ?_); refine goesL_ (some 4) rfl rfl Tryd.func19 (by kernel_rfl) rfl #[.string (⟨#[97, 255]⟩ : ByteArray)] rfl (by (try simp only [List.map_toArray, List.map_cons, List.map_nil]); first | done | rfl | (simp only [List.length_drop, List.length_take]; rfl)) ?_; (with_reducible refine (glyph_Valid.calls (⟨#[97, 255]⟩ : ByteArray) t102 t103 _ A1.out ?sT).mono ?_); (case sT => exact utf8_DecodeRuneInString.below HT.out (by repeat (first | (with_reducible first | exact HB.out | exact Below.refl _ _ | apply below_alloc | apply pw_below_drewN | apply below_drew1) | exact HB.out))); rintro e w6 ⟨rfl, hb⟩; refine ⟨_, rfl, ?_⟩; have n0_ := Aside0.mk (below_step (by repeat (first | (with_reducible first | exact HB.out | apply below_alloc | apply pw_below_drewN | apply below_drew1) | exact HB.out)) hb); clear HB; have HB := n0_; clear n0_; (try clear hb); (try clear hb2); (try clear hk); (try clear hi)) | ((with_reducible refine gate_callee (f := 24) rfl ?_); refine goesL_ (some 7) rfl rfl Tryd.func24 (by kernel_rfl) rfl #[.string (⟨#[195, 169, 49]⟩ : ByteArray)] rfl (by (try simp only [List.map_toArray, List.map_cons, List.map_nil]); first | done | rfl | (simp only [List.length_drop, List.length_take]; rfl)) ?_; (with_reducible refine (glyph_Count.calls (⟨#[195, 169, 49]⟩ : ByteArray) t104 _ A2.out).mono ?_); rintro e w7 ⟨rfl, hb⟩; refine ⟨_, rfl, ?_⟩; have n0_ := Aside0.mk (below_step (by repeat (first | (with_reducible first | exact HB.out | apply below_alloc | apply pw_below_drewN | apply below_drew1) | exact HB.out)) hb); clear HB; have HB := n0_; clear n0_; (try clear hb); (try clear hb2); (try clear hk); (try clear hi)) | (go_at_call 11; (with_reducible refine (glyph_Name.calls (⟨#[195, 169, 49]⟩ : ByteArray) true _ A4.out).mono ?_); rintro e w8 ⟨rfl, hb⟩; have n0_ := Aside0.mk (below_step (by repeat (first | (with_reducible first | exact HB.out | apply below_alloc | apply pw_below_drewN | apply below_drew1) | exact HB.out)) hb); clear HB; have HB := n0_; clear n0_; (try clear hb); (try clear hb2); (try clear hk); (try clear hi)))
      go_ret
      exact ⟨by first | rfl | (simp [errW_none, errW_some] <;> rfl) | (simp [*, errW_none, errW_some] <;> rfl), by repeat (first | (with_reducible first | exact HB.out | apply below_alloc | apply pw_below_drewN | apply below_drew1) | exact HB.out)⟩
    · replace c5 := Bool.eq_false_iff.mpr c5
      subst c5
      have H1 : ((glyph_Name.f (⟨#[95, 97, 49]⟩ : ByteArray)).bind fun t106 => (if t106 = true then (if t102 = 1 then (some (!t103)) else (some false)) else (some false))) = some r := by rw [if_neg (show ¬ (false = true) by decide)] at H; exact H
      clear H
      have H := H1
      clear H1
      replace H := Option.bind_eq_some_iff.mp H
      obtain ⟨t106, A90, H⟩ := H
      replace H : (if t106 = true then (if t102 = 1 then (some (!t103)) else (some false)) else (some false)) = some r := H
      have A9 := Aside0.mk A90
      clear A90
      by_cases c10 : t106 = true
      · subst c10
        have H1 : (if t102 = 1 then (some (!t103)) else (some false)) = some r := by rw [if_pos rfl] at H; exact H
        clear H
        have H := H1
        clear H1
        by_cases c11 : t102 = 1
        · rw [if_pos c11] at H
          have c11b0 : (t102 == 1) = true := beq_iff_eq.mpr c11
          have c11b1 : (t102 != 1) = false := bne_eq_false_iff_eq.mpr c11
          clear c11
          obtain rfl := Option.some.inj H
          go_enter Tryd.func13, Tryd.ntmps13
          go_wp2_with (first | ((with_reducible refine gate_callee (f := 19) rfl ?_); refine goesL_ (some 4) rfl rfl Tryd.func19 (by kernel_rfl) rfl #[.string (⟨#[97, 255]⟩ : ByteArray)] rfl (by (try simp only [List.map_toArray, List.map_cons, List.map_nil]); first | done | rfl | (simp only [List.length_drop, List.length_take]; rfl)) ?_; (with_reducible refine (glyph_Valid.calls (⟨#[97, 255]⟩ : ByteArray) t102 t103 _ A1.out ?sT).mono ?_); (case sT => exact utf8_DecodeRuneInString.below HT.out (by repeat (first | (with_reducible first | exact HB.out | exact Below.refl _ _ | apply below_alloc | apply pw_below_drewN | apply below_drew1) | exact HB.out))); rintro e w12 ⟨rfl, hb⟩; refine ⟨_, rfl, ?_⟩; have n0_ := Aside0.mk (below_step (by repeat (first | (with_reducible first | exact HB.out | apply below_alloc | apply pw_below_drewN | apply below_drew1) | exact HB.out)) hb); clear HB; have HB := n0_; clear n0_; (try clear hb); (try clear hb2); (try clear hk); (try clear hi)) | ((with_reducible refine gate_callee (f := 24) rfl ?_); refine goesL_ (some 7) rfl rfl Tryd.func24 (by kernel_rfl) rfl #[.string (⟨#[195, 169, 49]⟩ : ByteArray)] rfl (by (try simp only [List.map_toArray, List.map_cons, List.map_nil]); first | done | rfl | (simp only [List.length_drop, List.length_take]; rfl)) ?_; (with_reducible refine (glyph_Count.calls (⟨#[195, 169, 49]⟩ : ByteArray) t104 _ A2.out).mono ?_); rintro e w13 ⟨rfl, hb⟩; refine ⟨_, rfl, ?_⟩; have n0_ := Aside0.mk (below_step (by repeat (first | (with_reducible first | exact HB.out | apply below_alloc | apply pw_below_drewN | apply below_drew1) | exact HB.out)) hb); clear HB; have HB := n0_; clear n0_; (try clear hb); (try clear hb2); (try clear hk); (try clear hi)) | (go_at_call 11; (with_reducible refine (glyph_Name.calls (⟨#[195, 169, 49]⟩ : ByteArray) false _ A4.out).mono ?_); rintro e w14 ⟨rfl, hb⟩; have n0_ := Aside0.mk (below_step (by repeat (first | (with_reducible first | exact HB.out | apply below_alloc | apply pw_below_drewN | apply below_drew1) | exact HB.out)) hb); clear HB; have HB := n0_; clear n0_; (try clear hb); (try clear hb2); (try clear hk); (try clear hi)) | (go_at_call 11; (with_reducible refine (glyph_Name.calls (⟨#[95, 97, 49]⟩ : ByteArray) true _ A9.out).mono ?_); rintro e w15 ⟨rfl, hb⟩; have n0_ := Aside0.mk (below_step (by repeat (first | (with_reducible first | exact HB.out | apply below_alloc | apply pw_below_drewN | apply below_drew1) | exact HB.out)) hb); clear HB; have HB := n0_; clear n0_; (try clear hb); (try clear hb2); (try clear hk); (try clear hi)))
          go_ret
          exact ⟨by first | rfl | (simp [errW_none, errW_some] <;> rfl) | (simp [*, errW_none, errW_some] <;> rfl), by repeat (first | (with_reducible first | exact HB.out | apply below_alloc | apply pw_below_drewN | apply below_drew1) | exact HB.out)⟩
        · rw [if_neg c11] at H
          have c11b0 : (t102 == 1) = false := beq_eq_false_iff_ne.mpr c11
          have c11b1 : (t102 != 1) = true := bne_iff_ne.mpr c11
          obtain rfl := Option.some.inj H
          go_enter Tryd.func13, Tryd.ntmps13
          go_wp2_with (first | ((with_reducible refine gate_callee (f := 19) rfl ?_); refine goesL_ (some 4) rfl rfl Tryd.func19 (by kernel_rfl) rfl #[.string (⟨#[97, 255]⟩ : ByteArray)] rfl (by (try simp only [List.map_toArray, List.map_cons, List.map_nil]); first | done | rfl | (simp only [List.length_drop, List.length_take]; rfl)) ?_; (with_reducible refine (glyph_Valid.calls (⟨#[97, 255]⟩ : ByteArray) t102 t103 _ A1.out ?sT).mono ?_); (case sT => exact utf8_DecodeRuneInString.below HT.out (by repeat (first | (with_reducible first | exact HB.out | exact Below.refl _ _ | apply below_alloc | apply pw_below_drewN | apply below_drew1) | exact HB.out))); rintro e w16 ⟨rfl, hb⟩; refine ⟨_, rfl, ?_⟩; have n0_ := Aside0.mk (below_step (by repeat (first | (with_reducible first | exact HB.out | apply below_alloc | apply pw_below_drewN | apply below_drew1) | exact HB.out)) hb); clear HB; have HB := n0_; clear n0_; (try clear hb); (try clear hb2); (try clear hk); (try clear hi)) | ((with_reducible refine gate_callee (f := 24) rfl ?_); refine goesL_ (some 7) rfl rfl Tryd.func24 (by kernel_rfl) rfl #[.string (⟨#[195, 169, 49]⟩ : ByteArray)] rfl (by (try simp only [List.map_toArray, List.map_cons, List.map_nil]); first | done | rfl | (simp only [List.length_drop, List.length_take]; rfl)) ?_; (with_reducible refine (glyph_Count.calls (⟨#[195, 169, 49]⟩ : ByteArray) t104 _ A2.out).mono ?_); rintro e w17 ⟨rfl, hb⟩; refine ⟨_, rfl, ?_⟩; have n0_ := Aside0.mk (below_step (by repeat (first | (with_reducible first | exact HB.out | apply below_alloc | apply pw_below_drewN | apply below_drew1) | exact HB.out)) hb); clear HB; have HB := n0_; clear n0_; (try clear hb); (try clear hb2); (try clear hk); (try clear hi)) | (go_at_call 11; (with_reducible refine (glyph_Name.calls (⟨#[195, 169, 49]⟩ : ByteArray) false _ A4.out).mono ?_); rintro e w18 ⟨rfl, hb⟩; have n0_ := Aside0.mk (below_step (by repeat (first | (with_reducible first | exact HB.out | apply below_alloc | apply pw_below_drewN | apply below_drew1) | exact HB.out)) hb); clear HB; have HB := n0_; clear n0_; (try clear hb); (try clear hb2); (try clear hk); (try clear hi)) | (go_at_call 11; (with_reducible refine (glyph_Name.calls (⟨#[95, 97, 49]⟩ : ByteArray) true _ A9.out).mono ?_); rintro e w19 ⟨rfl, hb⟩; have n0_ := Aside0.mk (below_step (by repeat (first | (with_reducible first | exact HB.out | apply below_alloc | apply pw_below_drewN | apply below_drew1) | exact HB.out)) hb); clear HB; have HB := n0_; clear n0_; (try clear hb); (try clear hb2); (try clear hk); (try clear hi)))
          go_ret
          exact ⟨by first | rfl | (simp [errW_none, errW_some] <;> rfl) | (simp [*, errW_none, errW_some] <;> rfl), by repeat (first | (with_reducible first | exact HB.out | apply below_alloc | apply pw_below_drewN | apply below_drew1) | exact HB.out)⟩
      · replace c10 := Bool.eq_false_iff.mpr c10
        subst c10
        have H1 : (some false) = some r := by rw [if_neg (show ¬ (false = true) by decide)] at H; exact H
        clear H
        have H := H1
        clear H1
        obtain rfl := Option.some.inj H
        go_enter Tryd.func13, Tryd.ntmps13
        go_wp2_with (first | ((with_reducible refine gate_callee (f := 19) rfl ?_); refine goesL_ (some 4) rfl rfl Tryd.func19 (by kernel_rfl) rfl #[.string (⟨#[97, 255]⟩ : ByteArray)] rfl (by (try simp only [List.map_toArray, List.map_cons, List.map_nil]); first | done | rfl | (simp only [List.length_drop, List.length_take]; rfl)) ?_; (with_reducible refine (glyph_Valid.calls (⟨#[97, 255]⟩ : ByteArray) t102 t103 _ A1.out ?sT).mono ?_); (case sT => exact utf8_DecodeRuneInString.below HT.out (by repeat (first | (with_reducible first | exact HB.out | exact Below.refl _ _ | apply below_alloc | apply pw_below_drewN | apply below_drew1) | exact HB.out))); rintro e w20 ⟨rfl, hb⟩; refine ⟨_, rfl, ?_⟩; have n0_ := Aside0.mk (below_step (by repeat (first | (with_reducible first | exact HB.out | apply below_alloc | apply pw_below_drewN | apply below_drew1) | exact HB.out)) hb); clear HB; have HB := n0_; clear n0_; (try clear hb); (try clear hb2); (try clear hk); (try clear hi)) | ((with_reducible refine gate_callee (f := 24) rfl ?_); refine goesL_ (some 7) rfl rfl Tryd.func24 (by kernel_rfl) rfl #[.string (⟨#[195, 169, 49]⟩ : ByteArray)] rfl (by (try simp only [List.map_toArray, List.map_cons, List.map_nil]); first | done | rfl | (simp only [List.length_drop, List.length_take]; rfl)) ?_; (with_reducible refine (glyph_Count.calls (⟨#[195, 169, 49]⟩ : ByteArray) t104 _ A2.out).mono ?_); rintro e w21 ⟨rfl, hb⟩; refine ⟨_, rfl, ?_⟩; have n0_ := Aside0.mk (below_step (by repeat (first | (with_reducible first | exact HB.out | apply below_alloc | apply pw_below_drewN | apply below_drew1) | exact HB.out)) hb); clear HB; have HB := n0_; clear n0_; (try clear hb); (try clear hb2); (try clear hk); (try clear hi)) | (go_at_call 11; (with_reducible refine (glyph_Name.calls (⟨#[195, 169, 49]⟩ : ByteArray) false _ A4.out).mono ?_); rintro e w22 ⟨rfl, hb⟩; have n0_ := Aside0.mk (below_step (by repeat (first | (with_reducible first | exact HB.out | apply below_alloc | apply pw_below_drewN | apply below_drew1) | exact HB.out)) hb); clear HB; have HB := n0_; clear n0_; (try clear hb); (try clear hb2); (try clear hk); (try clear hi)) | (go_at_call 11; (with_reducible refine (glyph_Name.calls (⟨#[95, 97, 49]⟩ : ByteArray) false _ A9.out).mono ?_); rintro e w23 ⟨rfl, hb⟩; have n0_ := Aside0.mk (below_step (by repeat (first | (with_reducible first | exact HB.out | apply below_alloc | apply pw_below_drewN | apply below_drew1) | exact HB.out)) hb); clear HB; have HB := n0_; clear n0_; (try clear hb); (try clear hb2); (try clear hk); (try clear hi)))
        go_ret
        exact ⟨by first | rfl | (simp [errW_none, errW_some] <;> rfl) | (simp [*, errW_none, errW_some] <;> rfl), by repeat (first | (with_reducible first | exact HB.out | apply below_alloc | apply pw_below_drewN | apply below_drew1) | exact HB.out)⟩
  · rw [if_neg c3] at H
    have c3b0 : (t104 == 2) = false := beq_eq_false_iff_ne.mpr c3
    have c3b1 : (t104 != 2) = true := bne_iff_ne.mpr c3
    obtain rfl := Option.some.inj H
    go_enter Tryd.func13, Tryd.ntmps13
    go_wp2_with (first | ((with_reducible refine gate_callee (f := 19) rfl ?_); refine goesL_ (some 4) rfl rfl Tryd.func19 (by kernel_rfl) rfl #[.string (⟨#[97, 255]⟩ : ByteArray)] rfl (by (try simp only [List.map_toArray, List.map_cons, List.map_nil]); first | done | rfl | (simp only [List.length_drop, List.length_take]; rfl)) ?_; (with_reducible refine (glyph_Valid.calls (⟨#[97, 255]⟩ : ByteArray) t102 t103 _ A1.out ?sT).mono ?_); (case sT => exact utf8_DecodeRuneInString.below HT.out (by repeat (first | (with_reducible first | exact HB.out | exact Below.refl _ _ | apply below_alloc | apply pw_below_drewN | apply below_drew1) | exact HB.out))); rintro e w24 ⟨rfl, hb⟩; refine ⟨_, rfl, ?_⟩; have n0_ := Aside0.mk (below_step (by repeat (first | (with_reducible first | exact HB.out | apply below_alloc | apply pw_below_drewN | apply below_drew1) | exact HB.out)) hb); clear HB; have HB := n0_; clear n0_; (try clear hb); (try clear hb2); (try clear hk); (try clear hi)) | ((with_reducible refine gate_callee (f := 24) rfl ?_); refine goesL_ (some 7) rfl rfl Tryd.func24 (by kernel_rfl) rfl #[.string (⟨#[195, 169, 49]⟩ : ByteArray)] rfl (by (try simp only [List.map_toArray, List.map_cons, List.map_nil]); first | done | rfl | (simp only [List.length_drop, List.length_take]; rfl)) ?_; (with_reducible refine (glyph_Count.calls (⟨#[195, 169, 49]⟩ : ByteArray) t104 _ A2.out).mono ?_); rintro e w25 ⟨rfl, hb⟩; refine ⟨_, rfl, ?_⟩; have n0_ := Aside0.mk (below_step (by repeat (first | (with_reducible first | exact HB.out | apply below_alloc | apply pw_below_drewN | apply below_drew1) | exact HB.out)) hb); clear HB; have HB := n0_; clear n0_; (try clear hb); (try clear hb2); (try clear hk); (try clear hi)))
    go_ret
    exact ⟨by first | rfl | (simp [errW_none, errW_some] <;> rfl) | (simp [*, errW_none, errW_some] <;> rfl), by repeat (first | (with_reducible first | exact HB.out | apply below_alloc | apply pw_below_drewN | apply below_drew1) | exact HB.out)⟩

/-! ### lazarusref7_Valid: function 20 -/
def lazarusref7_Valid.l0 : Nat → ByteArray → Int → Option (Int × Bool)
  | 0, _, _ => none
  | k + 1, x0, x4 => if x4 < (x0.size : Int) then (if 0 ≤ x4 then (if x4 ≤ (x0.size : Int) then ((utf8_DecodeRuneInString.f (x0.extract (x4 : Int).toNat x0.size)).bind fun bt107 => (if bt107.1 = 0 then (some (x4, false)) else (if bt107.1 = 65533 then (if bt107.2 = 1 then (some (x4, false)) else (lazarusref7_Valid.l0 k x0 (wrap64 (x4 + bt107.2)))) else (lazarusref7_Valid.l0 k x0 (wrap64 (x4 + bt107.2)))))) else (none)) else (none)) else (some ((x0.size : Int), true))
def lazarusref7_Valid.f (k : Nat) (a0 : ByteArray) : Option (Int × Bool) := lazarusref7_Valid.l0 k a0 0
theorem lazarusref7_Valid.mono_l : ∀ k, (∀ y0 y1, LeO (lazarusref7_Valid.l0 k y0 y1) (lazarusref7_Valid.l0 (k + 1) y0 y1))
  | 0 => fun _ _ r h => by simp [lazarusref7_Valid.l0] at h
  | k + 1 => by
    have ih0 := lazarusref7_Valid.mono_l k
    · intro y0 y1
      unfold lazarusref7_Valid.l0
      repeat' first
      | (with_reducible exact ih0 _ _)
      | (with_reducible exact LeO.refl _)
      | (with_reducible exact LeO.none _)
      | (with_reducible refine LeO.ite ?_ ?_)
      | (with_reducible refine LeO.bind ?_ (fun _ => ?_))
      | exact ih0 _ _
      | exact LeO.none _
      | refine LeO.ite ?_ ?_
      | refine LeO.bind ?_ (fun _ => ?_)
theorem lazarusref7_Valid.mono : ∀ a0 k, LeO (lazarusref7_Valid.f k a0) (lazarusref7_Valid.f (k + 1) a0) := by
  intro a0 k
  have ih0 := lazarusref7_Valid.mono_l k
  unfold lazarusref7_Valid.f
  repeat' first
      | (with_reducible exact ih0 _ _)
      | (with_reducible exact LeO.refl _)
      | (with_reducible exact LeO.none _)
      | (with_reducible refine LeO.ite ?_ ?_)
      | (with_reducible refine LeO.bind ?_ (fun _ => ?_))
      | exact ih0 _ _
      | exact LeO.none _
      | refine LeO.ite ?_ ?_
      | refine LeO.bind ?_ (fun _ => ?_)
set_option maxHeartbeats 8000000 in
set_option maxRecDepth 100000 in
theorem lazarusref7_Valid.calls (k : Nat) (a0 : ByteArray) (r1 : Int) (r2 : Bool) (w : World) (h : lazarusref7_Valid.f k a0 = some (r1, r2)) (hT : Lib.Utf8Tabs 0 1 w) :
    Calls Tryd.prog 20 #[.string a0] w fun e w' => e = .returned (.tuple #[.int .i64 r1, .bool r2]) ∧ Below w.heap.size w w' := by
  have HT := Aside0.mk hT
  clear hT
  have HB := Aside0.mk (Below.refl w.heap.size w)
  have H : (lazarusref7_Valid.l0 k a0 0) = some (r1, r2) := h
  clear h
  have H' := Aside0.mk H
  clear H
  go_enter Tryd.func20, Tryd.ntmps20
  go_wp2
  go_loopg [4] k (fun kq v4 w' => ∃ (x4_1 : Int), v4 = .int .i64 x4_1 ∧ Aside0 (lazarusref7_Valid.l0 kq a0 x4_1 = some (r1, r2)) ∧ Aside0 (kq ≤ k) ∧ Aside0 (Below w.heap.size w w'))
  case atStart => exact ⟨(0), (by first | rfl | (simp; done) | (simp [*]; done) | (simp; unfold wrap64; omega)), H', ⟨Nat.le_refl _⟩, ⟨by repeat (first | (with_reducible first | exact HB.out | apply below_alloc | apply pw_below_drewN | apply below_drew1) | exact HB.out)⟩⟩
  case round =>
    clear H'
    obtain ⟨x4_1, rfl, HA, HK1, HB⟩ := hrel
    cases gk with
    | zero => exact absurd HA.out (by simp [lazarusref7_Valid.l0])
    | succ k1 =>
      have H := HA.out
      clear HA
      simp only [lazarusref7_Valid.l0] at H
      by_cases c2 : x4_1 < (a0.size : Int)
      · rw [if_pos c2] at H
        have c2b0 : decide (x4_1 < (a0.size : Int)) = true := decide_eq_true c2
        clear c2
        by_cases c3 : 0 ≤ x4_1
        · rw [if_pos c3] at H
          have c3b0 := eq_true c3
          have c3b1 : decide (0 ≤ x4_1) = true := decide_eq_true c3
          clear c3
          by_cases c4 : x4_1 ≤ (a0.size : Int)
          · rw [if_pos c4] at H
            have c4b0 := eq_true c4
            have c4b1 : decide (x4_1 ≤ (a0.size : Int)) = true := decide_eq_true c4
            clear c4
            replace H := Option.bind_eq_some_iff.mp H
            obtain ⟨⟨t107, t108⟩, A50, H⟩ := H
            replace H : (if t107 = 0 then (some (x4_1, false)) else (if t107 = 65533 then (if t108 = 1 then (some (x4_1, false)) else (lazarusref7_Valid.l0 k1 a0 (wrap64 (x4_1 + t108)))) else (lazarusref7_Valid.l0 k1 a0 (wrap64 (x4_1 + t108))))) = some (r1, r2) := H
            have A5 := Aside0.mk A50
            clear A50
            by_cases c6 : t107 = 0
            · rw [if_pos c6] at H
              have c6b0 : (t107 == 0) = true := beq_iff_eq.mpr c6
              have c6b1 : (t107 != 0) = false := bne_eq_false_iff_eq.mpr c6
              clear c6
              simp only [Option.some.injEq, Prod.mk.injEq] at H
              obtain ⟨rfl, rfl⟩ := H
              go_wp2_with (first | ((with_reducible refine gate_callee (f := 42) rfl ?_); refine goesL_ (some 15) rfl rfl Tryd.func42 (by kernel_rfl) rfl #[.string (a0.extract (x4_1 : Int).toNat a0.size)] rfl (by (try simp only [List.map_toArray, List.map_cons, List.map_nil]); first | done | rfl | (simp only [List.length_drop, List.length_take]; rfl)) ?_; (with_reducible refine (utf8_DecodeRuneInString.calls (a0.extract (x4_1 : Int).toNat a0.size) t107 t108 _ A5.out ?sT).mono ?_); (case sT => exact utf8_DecodeRuneInString.below HT.out (by repeat (first | (with_reducible first | exact HB.out | exact Below.refl _ _ | apply below_alloc | apply pw_below_drewN | apply below_drew1) | exact HB.out))); rintro e w7 ⟨rfl, hb⟩; refine ⟨_, rfl, ?_⟩; have n0_ := Aside0.mk (below_step (by repeat (first | (with_reducible first | exact HB.out | apply below_alloc | apply pw_below_drewN | apply below_drew1) | exact HB.out)) hb); clear HB; have HB := n0_; clear n0_; (try clear hb); (try clear hb2); (try clear hk); (try clear hi)))
              go_ret2
              exact ⟨by first | rfl | (simp [errW_none, errW_some] <;> rfl) | (simp [*, errW_none, errW_some] <;> rfl), by repeat (first | (with_reducible first | exact HB.out | apply below_alloc | apply pw_below_drewN | apply below_drew1) | exact HB.out)⟩
            · rw [if_neg c6] at H
              have c6b0 : (t107 == 0) = false := beq_eq_false_iff_ne.mpr c6
              have c6b1 : (t107 != 0) = true := bne_iff_ne.mpr c6
              by_cases c8 : t107 = 65533
              · rw [if_pos c8] at H
                have c8b0 : (t107 == 65533) = true := beq_iff_eq.mpr c8
                have c8b1 : (t107 != 65533) = false := bne_eq_false_iff_eq.mpr c8
                clear c8
                by_cases c9 : t108 = 1
                · rw [if_pos c9] at H
                  have c9b0 : (t108 == 1) = true := beq_iff_eq.mpr c9
                  have c9b1 : (t108 != 1) = false := bne_eq_false_iff_eq.mpr c9
                  clear c9
                  simp only [Option.some.injEq, Prod.mk.injEq] at H
                  obtain ⟨rfl, rfl⟩ := H
                  go_wp2_with (first | ((with_reducible refine gate_callee (f := 42) rfl ?_); refine goesL_ (some 15) rfl rfl Tryd.func42 (by kernel_rfl) rfl #[.string (a0.extract (x4_1 : Int).toNat a0.size)] rfl (by (try simp only [List.map_toArray, List.map_cons, List.map_nil]); first | done | rfl | (simp only [List.length_drop, List.length_take]; rfl)) ?_; (with_reducible refine (utf8_DecodeRuneInString.calls (a0.extract (x4_1 : Int).toNat a0.size) t107 t108 _ A5.out ?sT).mono ?_); (case sT => exact utf8_DecodeRuneInString.below HT.out (by repeat (first | (with_reducible first | exact HB.out | exact Below.refl _ _ | apply below_alloc | apply pw_below_drewN | apply below_drew1) | exact HB.out))); rintro e w10 ⟨rfl, hb⟩; refine ⟨_, rfl, ?_⟩; have n0_ := Aside0.mk (below_step (by repeat (first | (with_reducible first | exact HB.out | apply below_alloc | apply pw_below_drewN | apply below_drew1) | exact HB.out)) hb); clear HB; have HB := n0_; clear n0_; (try clear hb); (try clear hb2); (try clear hk); (try clear hi)))
                  go_ret2
                  exact ⟨by first | rfl | (simp [errW_none, errW_some] <;> rfl) | (simp [*, errW_none, errW_some] <;> rfl), by repeat (first | (with_reducible first | exact HB.out | apply below_alloc | apply pw_below_drewN | apply below_drew1) | exact HB.out)⟩
                · rw [if_neg c9] at H
                  have c9b0 : (t108 == 1) = false := beq_eq_false_iff_ne.mpr c9
                  have c9b1 : (t108 != 1) = true := bne_iff_ne.mpr c9
                  have H' := Aside0.mk H
                  clear H
                  go_wp2_with (first | ((with_reducible refine gate_callee (f := 42) rfl ?_); refine goesL_ (some 15) rfl rfl Tryd.func42 (by kernel_rfl) rfl #[.string (a0.extract (x4_1 : Int).toNat a0.size)] rfl (by (try simp only [List.map_toArray, List.map_cons, List.map_nil]); first | done | rfl | (simp only [List.length_drop, List.length_take]; rfl)) ?_; (with_reducible refine (utf8_DecodeRuneInString.calls (a0.extract (x4_1 : Int).toNat a0.size) t107 t108 _ A5.out ?sT).mono ?_); (case sT => exact utf8_DecodeRuneInString.below HT.out (by repeat (first | (with_reducible first | exact HB.out | exact Below.refl _ _ | apply below_alloc | apply pw_below_drewN | apply below_drew1) | exact HB.out))); rintro e w11 ⟨rfl, hb⟩; refine ⟨_, rfl, ?_⟩; have n0_ := Aside0.mk (below_step (by repeat (first | (with_reducible first | exact HB.out | apply below_alloc | apply pw_below_drewN | apply below_drew1) | exact HB.out)) hb); clear HB; have HB := n0_; clear n0_; (try clear hb); (try clear hb2); (try clear hk); (try clear hi)))
                  go_roundg k1
                  case measure => have := HK1.out; omega
                  case rel => exact ⟨(wrap64 (x4_1 + t108)), (by first | rfl | (simp; done) | (simp [*]; done) | (simp; unfold wrap64; omega)), H', ⟨by have := HK1.out; omega⟩, ⟨by repeat (first | (with_reducible first | exact HB.out | apply below_alloc | apply pw_below_drewN | apply below_drew1) | exact HB.out)⟩⟩
              · rw [if_neg c8] at H
                have c8b0 : (t107 == 65533) = false := beq_eq_false_iff_ne.mpr c8
                have c8b1 : (t107 != 65533) = true := bne_iff_ne.mpr c8
                have H' := Aside0.mk H
                clear H
                go_wp2_with (first | ((with_reducible refine gate_callee (f := 42) rfl ?_); refine goesL_ (some 15) rfl rfl Tryd.func42 (by kernel_rfl) rfl #[.string (a0.extract (x4_1 : Int).toNat a0.size)] rfl (by (try simp only [List.map_toArray, List.map_cons, List.map_nil]); first | done | rfl | (simp only [List.length_drop, List.length_take]; rfl)) ?_; (with_reducible refine (utf8_DecodeRuneInString.calls (a0.extract (x4_1 : Int).toNat a0.size) t107 t108 _ A5.out ?sT).mono ?_); (case sT => exact utf8_DecodeRuneInString.below HT.out (by repeat (first | (with_reducible first | exact HB.out | exact Below.refl _ _ | apply below_alloc | apply pw_below_drewN | apply below_drew1) | exact HB.out))); rintro e w12 ⟨rfl, hb⟩; refine ⟨_, rfl, ?_⟩; have n0_ := Aside0.mk (below_step (by repeat (first | (with_reducible first | exact HB.out | apply below_alloc | apply pw_below_drewN | apply below_drew1) | exact HB.out)) hb); clear HB; have HB := n0_; clear n0_; (try clear hb); (try clear hb2); (try clear hk); (try clear hi)))
                go_roundg k1
                case measure => have := HK1.out; omega
                case rel => exact ⟨(wrap64 (x4_1 + t108)), (by first | rfl | (simp; done) | (simp [*]; done) | (simp; unfold wrap64; omega)), H', ⟨by have := HK1.out; omega⟩, ⟨by repeat (first | (with_reducible first | exact HB.out | apply below_alloc | apply pw_below_drewN | apply below_drew1) | exact HB.out)⟩⟩
          · rw [if_neg c4] at H
            exact absurd H (by simp)
        · rw [if_neg c3] at H
          exact absurd H (by simp)
      · rw [if_neg c2] at H
        have c2b0 : decide (x4_1 < (a0.size : Int)) = false := decide_eq_false c2
        clear c2
        simp only [Option.some.injEq, Prod.mk.injEq] at H
        obtain ⟨rfl, rfl⟩ := H
        go_wp2
        go_ret2
        exact ⟨by first | rfl | (simp [errW_none, errW_some] <;> rfl) | (simp [*, errW_none, errW_some] <;> rfl), by repeat (first | (with_reducible first | exact HB.out | apply below_alloc | apply pw_below_drewN | apply below_drew1) | exact HB.out)⟩

/-! ### lazarusref7_Same: function 22 -/
def lazarusref7_Same.f (l0 : List Int) (l1 : List Int) : Option (Bool) := if (runesBytes l0).toList = (runesBytes l1).toList then (some ((l0.length : Int) == (l1.length : Int))) else (some false)
set_option maxHeartbeats 8000000 in
set_option maxRecDepth 100000 in
theorem lazarusref7_Same.calls (A0 : Option Addr) (c0 : Nat) (l0 : List Int) (A1 : Option Addr) (c1 : Nat) (l1 : List Int) (r : Bool) (w : World) (hr0 : Kd.C (Kd.int .i32) w A0 l0.length l0) (hc0 : l0.length ≤ c0) (hr1 : Kd.C (Kd.int .i32) w A1 l1.length l1) (hc1 : l1.length ≤ c1) (h : lazarusref7_Same.f l0 l1 = some r) :
    Calls Tryd.prog 22 #[.slice A0 l0.length c0, .slice A1 l1.length c1] w fun e w' => e = .returned (.bool r) ∧ Drawn0 w w' := by
  have HR0 := Aside0.mk hr0
  have HC0 := Aside0.mk hc0
  clear hr0 hc0
  have HR1 := Aside0.mk hr1
  have HC1 := Aside0.mk hc1
  clear hr1 hc1
  have H : (if (runesBytes l0).toList = (runesBytes l1).toList then (some ((l0.length : Int) == (l1.length : Int))) else (some false)) = some r := h
  clear h
  by_cases c3 : (runesBytes l0).toList = (runesBytes l1).toList
  · rw [if_pos c3] at H
    have c3b0 : ((runesBytes l0).toList == (runesBytes l1).toList) = true := beq_iff_eq.mpr c3
    have c3b1 : ((runesBytes l0).toList != (runesBytes l1).toList) = false := bne_eq_false_iff_eq.mpr c3
    clear c3
    obtain rfl := Option.some.inj H
    have hcv4 := Kd.C_runes (P := Tryd.prog) (A := A0) (c := c0) Tryd.underlying23 Tryd.underlying21 Tryd.underlying9 HR0.out
    have hcv5 := Kd.C_runes (P := Tryd.prog) (A := A1) (c := c1) Tryd.underlying23 Tryd.underlying21 Tryd.underlying9 HR1.out
    go_enter Tryd.func22, Tryd.ntmps22
    go_wp2
    go_ret
    exact ⟨by first | rfl | (simp; done) | (simp [*]; done) | (simp; unfold wrap64; omega) | (simp; generalize ByteArray.toList _ = l_; cases l_ <;> simp), by repeat (first | exact Drawn0.refl _ | apply Drawn0.step)⟩
  · rw [if_neg c3] at H
    have c3b0 : ((runesBytes l0).toList == (runesBytes l1).toList) = false := beq_eq_false_iff_ne.mpr c3
    have c3b1 : ((runesBytes l0).toList != (runesBytes l1).toList) = true := bne_iff_ne.mpr c3
    obtain rfl := Option.some.inj H
    have hcv6 := Kd.C_runes (P := Tryd.prog) (A := A0) (c := c0) Tryd.underlying23 Tryd.underlying21 Tryd.underlying9 HR0.out
    have hcv7 := Kd.C_runes (P := Tryd.prog) (A := A1) (c := c1) Tryd.underlying23 Tryd.underlying21 Tryd.underlying9 HR1.out
    go_enter Tryd.func22, Tryd.ntmps22
    go_wp2
    go_ret
    exact ⟨by first | rfl | (simp; done) | (simp [*]; done) | (simp; unfold wrap64; omega) | (simp; generalize ByteArray.toList _ = l_; cases l_ <;> simp), by repeat (first | exact Drawn0.refl _ | apply Drawn0.step)⟩

/-! ### glyph_Runes: function 23 -/
theorem glyph_Runes.info : (Tryd.prog.info? 21).map (fun i => (i.zero, i.size, i.bytes)) = some (some (.int .i32 0), 1, 4) := by kernel_rfl
def glyph_Runes.f (a0 : ByteArray) : Option (List Int) := if a0.size < 17592186044416 then some (Kd.letters a0) else none
set_option maxHeartbeats 2000000 in
theorem glyph_Runes.calls (a0 : ByteArray) (r : List Int) (w : World) (h : glyph_Runes.f a0 = some r) :
    Calls Tryd.prog 23 #[.string a0] w fun e w' => ∃ v0_, e = .returned v0_ ∧ Kd.R (Kd.int .i32) 21 w' w.heap.size (fun _ => True) v0_ r ∧ Below w.heap.size w w' := by
  unfold glyph_Runes.f at h
  by_cases hl : a0.size < 17592186044416
  · rw [if_pos hl] at h
    injection h with h
    subst h
    go_enter Tryd.func23, Tryd.ntmps23
    go_wp2
    go_loopw [3] (fun v wr => ∃ (xs : List Int) (pos : Nat), wr.heap[w.heap.size]? = some (.stringIter a0 pos) ∧ Aside0 (Kd.R (Kd.int .i32) 21 wr w.heap.size (fun k => k ≠ w.heap.size) v xs) ∧ Aside0 (Below w.heap.size w wr) ∧ Aside0 (xs ++ Kd.letN a0 (a0.size - pos) pos = Kd.letters a0) ∧ xs.length ≤ pos) (fun _ wr => a0.size - wr.iterPos w.heap.size)
    case atStart => exact ⟨[], 0, World.iter_heap w a0 0, ⟨Kd.R_nil _ _ _ _ _⟩, ⟨(Below.refl _ _).alloc (Nat.le_refl _) _⟩, ⟨rfl⟩, Nat.le_refl _⟩
    case round =>
      obtain ⟨xs, pos, hit, HR, HB, HI, hlen⟩ := hrel
      have hpos0 := Kd.iterPos_is hit
      by_cases hp : pos < a0.size
      · have hnx : ∀ ty, (Instr.next (.pointer (some ⟨w.heap.size, 0, none⟩)) true ty).run Tryd.prog wr = _ := fun ty => Lib.run_next_any_at wr w.heap.size a0 pos ty hit hp
        have hwd := Kd.width_pos a0 pos hp
        have HI2 : Aside0 ((xs ++ [((Utf8.decode a0 pos).1 : Int)]) ++ Kd.letN a0 (a0.size - (pos + (Utf8.decode a0 pos).2)) (pos + (Utf8.decode a0 pos).2) = Kd.letters a0) := ⟨by rw [← HI.out, Kd.letN_at a0 pos hp]; simp⟩
        have hit2 := Lib.iterAt_heap wr w.heap.size a0 pos (pos + (Utf8.decode a0 pos).2) hit
        have HB2 := Aside0.mk (Lib.below_iterAt HB.out (k := w.heap.size) (Nat.le_refl _) a0 (pos + (Utf8.decode a0 pos).2))
        have HR2 := Aside0.mk (Kd.R_step HR.out (fun k ho hk => Lib.iterAt_other wr w.heap.size k a0 (pos + (Utf8.decode a0 pos).2) ho))
        obtain ⟨W1, hW1⟩ : ∃ W1, W1 = wr.iterAt w.heap.size a0 (pos + (Utf8.decode a0 pos).2) := ⟨_, rfl⟩
        rw [← hW1] at hnx hit2 HB2 HR2
        have hBlt := (Array.getElem?_eq_some_iff.1 hit2).1
        have HIT := Aside0.mk hit2
        clear hW1 hit HR HB HI hit2
        have hp2 : pos < pos + (Utf8.decode a0 pos).2 := by omega
        clear hwd
        generalize (Utf8.decode a0 pos).1 = c at hnx HI2
        generalize pos + (Utf8.decode a0 pos).2 = p2 at *
        go_wp2_with ((with_reducible refine gate_builtin (b := .append) (xs := #[.tmp 11, .tmp 13]) rfl ?_); at_builtin; refine Kd.R_append (Kd.int .i32) (w0 := w) w.heap.size rfl (.tmp 11) (.tmp 13) 23 21 (.int .i32 0) 4 rfl Tryd.underlying23 glyph_Runes.info rfl (by decide) (by omega) _ xs (c : Int) [.int .i32 (c : Int)] (fun k => k ≠ w.heap.size) (fun _ => False) rfl rfl ?aP (fun _ hk => hk.elim) ?aF ?aO ?aB ?aS ?aL ?_; (case aP => exact rfl); (case aF => exact fun k hk => by omega); (case aB => exact HB2.out); (case aO => exact HR2.out); (case aS => exact HB2.out.size); (case aL => omega); intro v1 w3 ho hb hg hat; have HO3 := Aside0.mk ho; have HB3 := Aside0.mk hb; have HIT3 := Aside0.mk ((hg.block w.heap.size (by omega) (fun h => HR2.out.1 _ h.symm rfl)).trans HIT.out); clear ho hb hg hat)
        go_roundw
        case rel => exact ⟨_, _, HIT3.out, HO3, HB3, HI2, by simp; omega⟩
        case measure => rw [Kd.iterPos_is HIT3.out, hpos0]; omega
      · have hnx : ∀ ty, (Instr.next (.pointer (some ⟨w.heap.size, 0, none⟩)) true ty).run Tryd.prog wr = _ := fun ty => Lib.run_next_end_at wr w.heap.size a0 pos ty hit hp
        have e : xs = Kd.letters a0 := by rw [← HI.out, Kd.letN_end a0 _ pos hp, List.append_nil]
        subst e
        clear HI
        go_wp2
        go_ret
        exact ⟨_, rfl, Kd.R_mono HR.out (fun _ _ => trivial), HB.out⟩
  · rw [if_neg hl] at h
    cases h


end Go.Proofs.YtnhmfeihnjdcpaaDoor.QGlyphJoin
