-- Written by a program of this session (wip/tools), out of the kit's print of the loaded program: functions, and proofs that the calls come to them.
import Derived.Test.YtnhmfeihnjdcpaaQGlobKnownx0
import Derived.Test.YtnhmfeihnjdcpaaQGlobKnownx1
import Derived.Test.YtnhmfeihnjdcpaaQGlobKnownx4
namespace Go.Proofs.Ytnhmfeihnjdcpaa.QGlobKnown
open Go.RowKit Go.Proofs.YtnhmfeihnjdcpaaW.PrintWords Go.Proofs.YtnhmfeihnjdcpaaW.PrintLast Go.Proofs.YtnhmfeihnjdcpaaW.PrintMore
attribute [local go_sem] max2_int min2_int max_two min_two max_three min_three max_four min_four   -- for this text's walks alone
set_option linter.unusedVariables false
set_option linter.unusedSimpArgs false

-- NOT PRINTED: function 39 (api_Char_39)

-- NOT PRINTED: function 34 (api_Char_34)

/-! ### glob_Has: function 20 -/
theorem glob_Has.is_any (a : Int) (b : Bool) (c : Int) (x : Bool) (hx : (!b && a == c) = x) (w : World) : Calls Try.prog 30 #[.agg #[.int .i32 a, .bool b], .int .i32 c] w fun e w' => e = .returned (.bool x) ∧ Below w.heap.size w w' :=
  glob_is.calls a b c x w (by unfold glob_is.f; cases b <;> simp_all)
set_option maxHeartbeats 1000000 in
theorem glob_Has.cl_any (a : Int) (b : Bool) (r : Bool) (hr : (!b && (a == 42 || a == 63 || a == 91)) = r) (w : World) : Calls Try.prog 35 #[.agg #[.int .i32 a, .bool b]] w fun e w' => e = .returned (.bool r) ∧ Below w.heap.size w w' := by
  obtain ⟨x, hx⟩ : ∃ x, (!b && a == 42) = x := ⟨_, rfl⟩
  obtain ⟨y, hy⟩ : ∃ y, (!b && a == 63) = y := ⟨_, rfl⟩
  obtain ⟨z, hz⟩ : ∃ z, (!b && a == 91) = z := ⟨_, rfl⟩
  have hr2 : (x || y || z) = r := by subst hx hy hz hr; cases b <;> simp [Bool.or_assoc]
  have HX := Aside0.mk hx
  have HY := Aside0.mk hy
  have HZ := Aside0.mk hz
  clear hr hx hy hz
  cases x with
  | true =>
    obtain rfl : true = r := by simpa using hr2
    clear hr2
    go_enter Try.func35, Try.ntmps35
    go_wp2_with (go_at_call 30; (with_reducible refine (glob_Has.is_any a b 42 true HX.out _).mono ?_); rintro e w1 ⟨rfl, hb1⟩; have HB1 := Aside0.mk hb1; clear hb1)
    go_ret
    exact ⟨rfl, below_then (below_alloc (Below.refl _ _) _) (by simp) HB1.out⟩
  | false =>
    cases y with
    | true =>
      obtain rfl : true = r := by simpa using hr2
      clear hr2
      go_enter Try.func35, Try.ntmps35
      go_wp2_with (first
        | (go_at_call 30; (with_reducible refine (glob_Has.is_any a b 42 false HX.out _).mono ?_); rintro e w1 ⟨rfl, hb1⟩; have c0 := pw_cell_below hb1 (Kd.heap_cell (heap_alloc_new _ _) 0); have c1 := pw_cell_below hb1 (Kd.heap_cell (heap_alloc_new _ _) 1); have HB1 := Aside0.mk (below_then (below_alloc (Below.refl _ _) _) (by simp) hb1); clear hb1)
        | (go_at_call 30; (with_reducible refine (glob_Has.is_any a b 63 true HY.out _).mono ?_); rintro e w2 ⟨rfl, hb2⟩; have HB2 := Aside0.mk (below_step HB1.out hb2); clear hb2))
      go_ret
      exact ⟨rfl, HB2.out⟩
    | false =>
      obtain rfl : z = r := by simpa using hr2
      clear hr2
      go_enter Try.func35, Try.ntmps35
      go_wp2_with (first
        | (go_at_call 30; (with_reducible refine (glob_Has.is_any a b 42 false HX.out _).mono ?_); rintro e w1 ⟨rfl, hb1⟩; have c0 := pw_cell_below hb1 (Kd.heap_cell (heap_alloc_new _ _) 0); have c1 := pw_cell_below hb1 (Kd.heap_cell (heap_alloc_new _ _) 1); have HB1 := Aside0.mk (below_then (below_alloc (Below.refl _ _) _) (by simp) hb1); clear hb1)
        | (go_at_call 30; (with_reducible refine (glob_Has.is_any a b 63 false HY.out _).mono ?_); rintro e w2 ⟨rfl, hb2⟩; have d0 := pw_cell_below hb2 c0; have d1 := pw_cell_below hb2 c1; have HB2 := Aside0.mk (below_step HB1.out hb2); clear hb2)
        | (go_at_call 30; (with_reducible refine (glob_Has.is_any a b 91 z HZ.out _).mono ?_); rintro e w3 ⟨rfl, hb3⟩; have HB3 := Aside0.mk (below_step HB2.out hb3); clear hb3))
      go_ret
      exact ⟨rfl, HB3.out⟩
def glob_Has.p (x : S34) : Bool := !x.f1 && (x.f0 == 42 || x.f0 == 63 || x.f0 == 91)
set_option maxHeartbeats 1000000 in
theorem glob_Has.ix_any (A : Option Addr) (c : Nat) (l : List S34) (w : World) (hr : Kd.C k34 w A l.length l) (hc : l.length ≤ c) :
    Calls Try.prog 39 #[.slice A l.length c, .func (.func 35) #[] #[]] w fun e w' => e = .returned (.int .i64 (Kd.idxN glob_Has.p l 0)) ∧ Below w.heap.size w w' := by
  have HM : l.length ≤ 9223372036854775807 := hr.2.1
  have HR := Aside0.mk hr
  have HC := Aside0.mk hc
  clear hr hc
  go_enter Try.func39, Try.ntmps39
  go_wp2
  go_loopw [8] (fun v wr => ∃ i : Nat, i ≤ l.length ∧ v = .int .i64 i ∧ Aside0 (Kd.idxN glob_Has.p (l.drop i) i = Kd.idxN glob_Has.p l 0) ∧ Aside0 (Below w.heap.size w wr)) (fun v _ => (l.length - intOf v).toNat)
  case atStart => exact ⟨0, Nat.zero_le _, rfl, ⟨rfl⟩, ⟨Below.refl _ _⟩⟩
  case round =>
    obtain ⟨i, hil, rfl, HI, HB⟩ := hrel
    by_cases hlt : i < l.length
    · obtain ⟨ad, e0, hx0, hx1⟩ := at_T34 (Kd.C_below HR.out HB.out) (i : Int) (by omega) (by omega)
      subst e0
      have e1 : rd_T34 l (i : Int) = l.getD i z34 := rfl
      rw [e1] at hx0 hx1
      simp only [Int.toNat_natCast] at hx0 hx1
      have hd : decide ((i : Int) < (l.length : Int)) = true := by simpa using hlt
      have hd2 : decide (i < l.length) = true := by simpa using hlt
      have HI2 := Aside0.mk ((Kd.idxN_at glob_Has.p l z34 i hlt).symm.trans HI.out)
      have hq0 : (0 ≤ (i : Int)) = True := eq_true (by omega)
      have hq1 : ((i : Int) < (l.length : Int)) = True := eq_true (by omega)
      have hq2 : (i < l.length) = True := eq_true hlt
      have hi1 := Aside0.mk (Nat.succ_le_of_lt hlt)
      have hw1 : IntKind.i64.wrap ((i : Int) + 1) = (i : Int) + 1 := by rw [IntKind.wrap_i64]; omega
      clear hlt e1 HI
      generalize l.getD i z34 = x at hx0 hx1 HI2
      cases hp : glob_Has.p x with
      | true =>
        rw [hp, if_pos rfl] at HI2
        have HP : Aside0 ((!x.f1 && (x.f0 == 42 || x.f0 == 63 || x.f0 == 91)) = true) := Aside0.mk hp
        clear hp
        go_wp2_with (go_at_call 35; go_must ((with_reducible refine (glob_Has.cl_any x.f0 x.f1 true HP.out _).mono ?_); rintro e w1 ⟨rfl, hb1⟩; have HB1 := Aside0.mk (below_step HB.out hb1); clear hb1))
        go_ret
        rw [← HI2.out]
        exact ⟨rfl, HB1.out⟩
      | false =>
        rw [hp, if_neg (by simp)] at HI2
        have HP : Aside0 ((!x.f1 && (x.f0 == 42 || x.f0 == 63 || x.f0 == 91)) = false) := Aside0.mk hp
        clear hp
        go_wp2_with (go_at_call 35; go_must ((with_reducible refine (glob_Has.cl_any x.f0 x.f1 false HP.out _).mono ?_); rintro e w1 ⟨rfl, hb1⟩; have HB1 := Aside0.mk (below_step HB.out hb1); clear hb1))
        exact ⟨⟨i + 1, hi1.out, rfl, HI2, HB1⟩, by have := hi1.out; simp [intOf]; omega⟩
    · have e := HI.out
      rw [Kd.idxN_end _ _ _ hlt] at e
      have HE := Aside0.mk e
      have hd : decide ((i : Int) < (l.length : Int)) = false := by simpa using hlt
      have hd2 : decide (i < l.length) = false := by simpa using hlt
      clear hlt HI e
      go_wp2
      go_ret
      rw [← HE.out]
      exact ⟨rfl, HB.out⟩
theorem glob_Has.co_any (A : Option Addr) (c : Nat) (l : List S34) (w : World) (hr : Kd.C k34 w A l.length l) (hc : l.length ≤ c) :
    Calls Try.prog 34 #[.slice A l.length c, .func (.func 35) #[] #[]] w fun e w' => e = .returned (.bool (l.any glob_Has.p)) ∧ Below w.heap.size w w' := by
  have HM : l.length ≤ 9223372036854775807 := hr.2.1
  have HR := Aside0.mk hr
  have HC := Aside0.mk hc
  have HA := Aside0.mk (Kd.idxN_any glob_Has.p l 0)
  clear hr hc
  go_enter Try.func34, Try.ntmps34
  go_wp2_with (go_at_call 39; go_must ((with_reducible refine (glob_Has.ix_any A c l _ HR.out HC.out).mono ?_); rintro e w1 ⟨rfl, hb1⟩; have HB1 := Aside0.mk hb1; clear hb1))
  go_ret
  rw [← HA.out]
  exact ⟨rfl, HB1.out⟩
def glob_Has.f (l0 : List S34) : Option Bool := some (l0.any glob_Has.p)
theorem glob_Has.calls (A0 : Option Addr) (c0 : Nat) (l0 : List S34) (r : Bool) (w : World) (hr0 : Kd.C k34 w A0 l0.length l0) (hc0 : l0.length ≤ c0) (h : glob_Has.f l0 = some r) :
    Calls Try.prog 20 #[.slice A0 l0.length c0] w fun e w' => e = .returned (.bool r) ∧ Below w.heap.size w w' := by
  unfold glob_Has.f at h
  injection h with h
  subst h
  have HR := Aside0.mk hr0
  have HC := Aside0.mk hc0
  clear hr0 hc0
  go_enter Try.func20, Try.ntmps20
  go_wp2_with (go_at_call 34; go_must ((with_reducible refine (glob_Has.co_any A0 c0 l0 _ HR.out HC.out).mono ?_); rintro e w1 ⟨rfl, hb1⟩; have HB1 := Aside0.mk hb1; clear hb1))
  go_ret
  exact ⟨rfl, HB1.out⟩


/-! ### lazaruslaw13_known: function 9 -/
def lazaruslaw13_known.f (k : Nat)  : Option (Bool) := (glob_Chars.f k (⟨#[97, 42, 91, 33, 98, 45, 100, 93]⟩ : ByteArray) false).bind fun t214 => ((glob_Match.f k t214 (⟨#[97, 120, 101]⟩ : ByteArray)).bind fun t217 => (if t217 = true then ((glob_Match.f k t214 (⟨#[97, 120, 99]⟩ : ByteArray)).bind fun t218 => (if t218 = true then (some false) else ((glob_Has.f t214).bind fun t219 => (if t219 = true then ((glob_Chars.f k (⟨#[42]⟩ : ByteArray) true).bind fun t220 => ((glob_Has.f t220).bind fun t223 => (some (!t223)))) else (some false))))) else (some false)))
theorem lazaruslaw13_known.mono : ∀ k, LeO (lazaruslaw13_known.f k ) (lazaruslaw13_known.f (k + 1) ) := by
  intro  k
  unfold lazaruslaw13_known.f
  repeat' first
      | (with_reducible exact glob_Chars.mono _ _ _)
      | (with_reducible exact glob_Match.mono _ _ _)
      | (with_reducible exact LeO.refl _)
      | (with_reducible exact LeO.none _)
      | (with_reducible refine LeO.ite ?_ ?_)
      | (with_reducible refine LeO.bind ?_ (fun _ => ?_))
      | exact glob_Chars.mono _ _ _
      | exact glob_Match.mono _ _ _
      | exact LeO.none _
      | refine LeO.ite ?_ ?_
      | refine LeO.bind ?_ (fun _ => ?_)
set_option maxHeartbeats 8000000 in
set_option maxRecDepth 100000 in
theorem lazaruslaw13_known.calls (k : Nat)  (r : Bool) (w : World) (h : lazaruslaw13_known.f k  = some r) :
    Calls Try.prog 9 #[] w fun e w' => e = .returned (.bool r) ∧ Below w.heap.size w w' := by
  have HB := Aside0.mk (Below.refl w.heap.size w)
  have H : ((glob_Chars.f k (⟨#[97, 42, 91, 33, 98, 45, 100, 93]⟩ : ByteArray) false).bind fun t214 => ((glob_Match.f k t214 (⟨#[97, 120, 101]⟩ : ByteArray)).bind fun t217 => (if t217 = true then ((glob_Match.f k t214 (⟨#[97, 120, 99]⟩ : ByteArray)).bind fun t218 => (if t218 = true then (some false) else ((glob_Has.f t214).bind fun t219 => (if t219 = true then ((glob_Chars.f k (⟨#[42]⟩ : ByteArray) true).bind fun t220 => ((glob_Has.f t220).bind fun t223 => (some (!t223)))) else (some false))))) else (some false)))) = some r := h
  clear h
  replace H := Option.bind_eq_some_iff.mp H
  obtain ⟨t214, A10, H⟩ := H
  replace H : ((glob_Match.f k t214 (⟨#[97, 120, 101]⟩ : ByteArray)).bind fun t217 => (if t217 = true then ((glob_Match.f k t214 (⟨#[97, 120, 99]⟩ : ByteArray)).bind fun t218 => (if t218 = true then (some false) else ((glob_Has.f t214).bind fun t219 => (if t219 = true then ((glob_Chars.f k (⟨#[42]⟩ : ByteArray) true).bind fun t220 => ((glob_Has.f t220).bind fun t223 => (some (!t223)))) else (some false))))) else (some false))) = some r := H
  have A1 := Aside0.mk A10
  clear A10
  replace H := Option.bind_eq_some_iff.mp H
  obtain ⟨t217, A20, H⟩ := H
  replace H : (if t217 = true then ((glob_Match.f k t214 (⟨#[97, 120, 99]⟩ : ByteArray)).bind fun t218 => (if t218 = true then (some false) else ((glob_Has.f t214).bind fun t219 => (if t219 = true then ((glob_Chars.f k (⟨#[42]⟩ : ByteArray) true).bind fun t220 => ((glob_Has.f t220).bind fun t223 => (some (!t223)))) else (some false))))) else (some false)) = some r := H
  have A2 := Aside0.mk A20
  clear A20
  by_cases c3 : t217 = true
  · subst c3
    have H1 : ((glob_Match.f k t214 (⟨#[97, 120, 99]⟩ : ByteArray)).bind fun t218 => (if t218 = true then (some false) else ((glob_Has.f t214).bind fun t219 => (if t219 = true then ((glob_Chars.f k (⟨#[42]⟩ : ByteArray) true).bind fun t220 => ((glob_Has.f t220).bind fun t223 => (some (!t223)))) else (some false))))) = some r := by rw [if_pos rfl] at H; exact H
    clear H
    have H := H1
    clear H1
    replace H := Option.bind_eq_some_iff.mp H
    obtain ⟨t218, A40, H⟩ := H
    replace H : (if t218 = true then (some false) else ((glob_Has.f t214).bind fun t219 => (if t219 = true then ((glob_Chars.f k (⟨#[42]⟩ : ByteArray) true).bind fun t220 => ((glob_Has.f t220).bind fun t223 => (some (!t223)))) else (some false)))) = some r := H
    have A4 := Aside0.mk A40
    clear A40
    by_cases c5 : t218 = true
    · subst c5
      have H1 : (some false) = some r := by rw [if_pos rfl] at H; exact H
      clear H
      have H := H1
      clear H1
      obtain rfl := Option.some.inj H
      go_enter Try.func9, Try.ntmps9
      go_wp2_with (first | ((with_reducible refine gate_callee (f := 7) rfl ?_); refine goesL_ (some 2) rfl rfl Try.func7 (by kernel_rfl) rfl #[.string (⟨#[97, 42, 91, 33, 98, 45, 100, 93]⟩ : ByteArray), .bool false] rfl (by (try simp only [List.map_toArray, List.map_cons, List.map_nil]); first | done | rfl | (simp only [List.length_drop, List.length_take]; rfl)) ?_; (with_reducible refine (glob_Chars.calls k (⟨#[97, 42, 91, 33, 98, 45, 100, 93]⟩ : ByteArray) false t214 _ A1.out).mono ?_); rintro e w6 ⟨v215, rfl, ho0, hb⟩; refine ⟨_, rfl, ?_⟩; have n0_ := Aside0.mk (Kd.R_lower ho0 (below_size (by repeat (first | (with_reducible first | exact HB.out | apply below_alloc | apply pw_below_drewN | apply below_drew1) | exact HB.out)))); have n1_ := Aside0.mk (below_step (by repeat (first | (with_reducible first | exact HB.out | apply below_alloc | apply pw_below_drewN | apply below_drew1) | exact HB.out)) hb); clear HB; have HO216 := n0_; have HB := n1_; clear n0_ n1_; (try clear hb); (try clear hb2); (try clear hk); (try clear hi); (try clear ho0); obtain ⟨Ao7, co7, eo7⟩ := Kd.R_slice HO216.out; subst eo7) | ((with_reducible refine gate_callee (f := 8) rfl ?_); refine goesL_ (some 4) rfl rfl Try.func8 (by kernel_rfl) rfl #[.slice Ao7 t214.length co7, .string (⟨#[97, 120, 101]⟩ : ByteArray)] rfl (by (try simp only [List.map_toArray, List.map_cons, List.map_nil]); first | done | rfl | (simp only [List.length_drop, List.length_take]; rfl)) ?_; (with_reducible refine (glob_Match.calls k _ _ t214 (⟨#[97, 120, 101]⟩ : ByteArray) true _ ?side1 ?side2 A2.out).mono ?_); (case side1 => repeat (first | exact (Kd.R_reads' HO216.out).2.2 | (with_reducible refine Kd.C_alloc ?_ _) | (with_reducible refine Kd.C_drewN ?_ _) | (with_reducible refine Kd.C_drew ?_))); (case side2 => exact (Kd.R_reads' HO216.out).2.1); rintro e w8 ⟨rfl, hb⟩; refine ⟨_, rfl, ?_⟩; have n0_ := Aside0.mk (Kd.R_below (by (with_reducible repeat (first | apply Kd.R_alloc | apply Kd.R_drewN | apply Kd.R_drew)); exact HO216.out) hb); have n1_ := Aside0.mk (below_step (by repeat (first | (with_reducible first | exact HB.out | apply below_alloc | apply pw_below_drewN | apply below_drew1) | exact HB.out)) hb); clear HO216; clear HB; have HO216 := n0_; have HB := n1_; clear n0_ n1_; (try clear hb); (try clear hb2); (try clear hk); (try clear hi)) | (go_at_call 8; (with_reducible refine (glob_Match.calls k _ _ t214 (⟨#[97, 120, 99]⟩ : ByteArray) true _ ?side1 ?side2 A4.out).mono ?_); (case side1 => repeat (first | exact (Kd.R_reads' HO216.out).2.2 | (with_reducible refine Kd.C_alloc ?_ _) | (with_reducible refine Kd.C_drewN ?_ _) | (with_reducible refine Kd.C_drew ?_))); (case side2 => exact (Kd.R_reads' HO216.out).2.1); rintro e w9 ⟨rfl, hb⟩; have n0_ := Aside0.mk (Kd.R_below (by (with_reducible repeat (first | apply Kd.R_alloc | apply Kd.R_drewN | apply Kd.R_drew)); exact HO216.out) hb); have n1_ := Aside0.mk (below_step (by repeat (first | (with_reducible first | exact HB.out | apply below_alloc | apply pw_below_drewN | apply below_drew1) | exact HB.out)) hb); clear HO216; clear HB; have HO216 := n0_; have HB := n1_; clear n0_ n1_; (try clear hb); (try clear hb2); (try clear hk); (try clear hi)))
      go_ret
      exact ⟨by first | rfl | (simp [errW_none, errW_some] <;> rfl) | (simp [*, errW_none, errW_some] <;> rfl), by repeat (first | (with_reducible first | exact HB.out | apply below_alloc | apply pw_below_drewN | apply below_drew1) | exact HB.out)⟩
    · replace c5 := Bool.eq_false_iff.mpr c5
      subst c5
      have H1 : ((glob_Has.f t214).bind fun t219 => (if t219 = true then ((glob_Chars.f k (⟨#[42]⟩ : ByteArray) true).bind fun t220 => ((glob_Has.f t220).bind fun t223 => (some (!t223)))) else (some false))) = some r := by rw [if_neg (show ¬ (false = true) by decide)] at H; exact H
      clear H
      have H := H1
      clear H1
      replace H := Option.bind_eq_some_iff.mp H
      obtain ⟨t219, A100, H⟩ := H
      replace H : (if t219 = true then ((glob_Chars.f k (⟨#[42]⟩ : ByteArray) true).bind fun t220 => ((glob_Has.f t220).bind fun t223 => (some (!t223)))) else (some false)) = some r := H
      have A10 := Aside0.mk A100
      clear A100
      by_cases c11 : t219 = true
      · subst c11
        have H1 : ((glob_Chars.f k (⟨#[42]⟩ : ByteArray) true).bind fun t220 => ((glob_Has.f t220).bind fun t223 => (some (!t223)))) = some r := by rw [if_pos rfl] at H; exact H
        clear H
        have H := H1
        clear H1
        replace H := Option.bind_eq_some_iff.mp H
        obtain ⟨t220, A120, H⟩ := H
        replace H : ((glob_Has.f t220).bind fun t223 => (some (!t223))) = some r := H
        have A12 := Aside0.mk A120
        clear A120
        replace H := Option.bind_eq_some_iff.mp H
        obtain ⟨t223, A130, H⟩ := H
        replace H : (some (!t223)) = some r := H
        have A13 := Aside0.mk A130
        clear A130
        obtain rfl := Option.some.inj H
        go_enter Try.func9, Try.ntmps9
        go_wp2_with (first | ((with_reducible refine gate_callee (f := 7) rfl ?_); refine goesL_ (some 2) rfl rfl Try.func7 (by kernel_rfl) rfl #[.string (⟨#[97, 42, 91, 33, 98, 45, 100, 93]⟩ : ByteArray), .bool false] rfl (by (try simp only [List.map_toArray, List.map_cons, List.map_nil]); first | done | rfl | (simp only [List.length_drop, List.length_take]; rfl)) ?_; (with_reducible refine (glob_Chars.calls k (⟨#[97, 42, 91, 33, 98, 45, 100, 93]⟩ : ByteArray) false t214 _ A1.out).mono ?_); rintro e w14 ⟨v215, rfl, ho0, hb⟩; refine ⟨_, rfl, ?_⟩; have n0_ := Aside0.mk (Kd.R_lower ho0 (below_size (by repeat (first | (with_reducible first | exact HB.out | apply below_alloc | apply pw_below_drewN | apply below_drew1) | exact HB.out)))); have n1_ := Aside0.mk (below_step (by repeat (first | (with_reducible first | exact HB.out | apply below_alloc | apply pw_below_drewN | apply below_drew1) | exact HB.out)) hb); clear HB; have HO216 := n0_; have HB := n1_; clear n0_ n1_; (try clear hb); (try clear hb2); (try clear hk); (try clear hi); (try clear ho0); obtain ⟨Ao15, co15, eo15⟩ := Kd.R_slice HO216.out; subst eo15) | ((with_reducible refine gate_callee (f := 8) rfl ?_); refine goesL_ (some 4) rfl rfl Try.func8 (by kernel_rfl) rfl #[.slice Ao15 t214.length co15, .string (⟨#[97, 120, 101]⟩ : ByteArray)] rfl (by (try simp only [List.map_toArray, List.map_cons, List.map_nil]); first | done | rfl | (simp only [List.length_drop, List.length_take]; rfl)) ?_; (with_reducible refine (glob_Match.calls k _ _ t214 (⟨#[97, 120, 101]⟩ : ByteArray) true _ ?side1 ?side2 A2.out).mono ?_); (case side1 => repeat (first | exact (Kd.R_reads' HO216.out).2.2 | (with_reducible refine Kd.C_alloc ?_ _) | (with_reducible refine Kd.C_drewN ?_ _) | (with_reducible refine Kd.C_drew ?_))); (case side2 => exact (Kd.R_reads' HO216.out).2.1); rintro e w16 ⟨rfl, hb⟩; refine ⟨_, rfl, ?_⟩; have n0_ := Aside0.mk (Kd.R_below (by (with_reducible repeat (first | apply Kd.R_alloc | apply Kd.R_drewN | apply Kd.R_drew)); exact HO216.out) hb); have n1_ := Aside0.mk (below_step (by repeat (first | (with_reducible first | exact HB.out | apply below_alloc | apply pw_below_drewN | apply below_drew1) | exact HB.out)) hb); clear HO216; clear HB; have HO216 := n0_; have HB := n1_; clear n0_ n1_; (try clear hb); (try clear hb2); (try clear hk); (try clear hi)) | (go_at_call 8; (with_reducible refine (glob_Match.calls k _ _ t214 (⟨#[97, 120, 99]⟩ : ByteArray) false _ ?side1 ?side2 A4.out).mono ?_); (case side1 => repeat (first | exact (Kd.R_reads' HO216.out).2.2 | (with_reducible refine Kd.C_alloc ?_ _) | (with_reducible refine Kd.C_drewN ?_ _) | (with_reducible refine Kd.C_drew ?_))); (case side2 => exact (Kd.R_reads' HO216.out).2.1); rintro e w17 ⟨rfl, hb⟩; have n0_ := Aside0.mk (Kd.R_below (by (with_reducible repeat (first | apply Kd.R_alloc | apply Kd.R_drewN | apply Kd.R_drew)); exact HO216.out) hb); have n1_ := Aside0.mk (below_step (by repeat (first | (with_reducible first | exact HB.out | apply below_alloc | apply pw_below_drewN | apply below_drew1) | exact HB.out)) hb); clear HO216; clear HB; have HO216 := n0_; have HB := n1_; clear n0_ n1_; (try clear hb); (try clear hb2); (try clear hk); (try clear hi)) | (go_at_call 20; (with_reducible refine (glob_Has.calls _ _ t214 true _ ?side1 ?side2 A10.out).mono ?_); (case side1 => repeat (first | exact (Kd.R_reads' HO216.out).2.2 | (with_reducible refine Kd.C_alloc ?_ _) | (with_reducible refine Kd.C_drewN ?_ _) | (with_reducible refine Kd.C_drew ?_))); (case side2 => exact (Kd.R_reads' HO216.out).2.1); rintro e w18 ⟨rfl, hb⟩; have n0_ := Aside0.mk (Kd.R_below (by (with_reducible repeat (first | apply Kd.R_alloc | apply Kd.R_drewN | apply Kd.R_drew)); exact HO216.out) hb); have n1_ := Aside0.mk (below_step (by repeat (first | (with_reducible first | exact HB.out | apply below_alloc | apply pw_below_drewN | apply below_drew1) | exact HB.out)) hb); clear HO216; clear HB; have HO216 := n0_; have HB := n1_; clear n0_ n1_; (try clear hb); (try clear hb2); (try clear hk); (try clear hi)) | (go_at_call 7; (with_reducible refine (glob_Chars.calls k (⟨#[42]⟩ : ByteArray) true t220 _ A12.out).mono ?_); rintro e w19 ⟨v221, rfl, ho0, hb⟩; have n0_ := Aside0.mk (Kd.R_elder' (by (with_reducible repeat (first | apply Kd.R_alloc | apply Kd.R_drewN | apply Kd.R_drew)); exact HO216.out) (Kd.R_base ho0) hb); have n1_ := Aside0.mk (Kd.R_lower (Kd.R_new' ho0 (Kd.R_lt (by (with_reducible repeat (first | apply Kd.R_alloc | apply Kd.R_drewN | apply Kd.R_drew)); exact HO216.out))) (below_size (by repeat (first | (with_reducible first | exact HB.out | apply below_alloc | apply pw_below_drewN | apply below_drew1) | exact HB.out)))); have n2_ := Aside0.mk (below_step (by repeat (first | (with_reducible first | exact HB.out | apply below_alloc | apply pw_below_drewN | apply below_drew1) | exact HB.out)) hb); clear HO216; clear HB; have HO216 := n0_; have HO222 := n1_; have HB := n2_; clear n0_ n1_ n2_; (try clear hb); (try clear hb2); (try clear hk); (try clear hi); (try clear ho0); obtain ⟨Ao20, co20, eo20⟩ := Kd.R_slice HO222.out; subst eo20) | (go_at_call 20; (with_reducible refine (glob_Has.calls _ _ t220 t223 _ ?side1 ?side2 A13.out).mono ?_); (case side1 => repeat (first | exact (Kd.R_reads' HO222.out).2.2 | (with_reducible refine Kd.C_alloc ?_ _) | (with_reducible refine Kd.C_drewN ?_ _) | (with_reducible refine Kd.C_drew ?_))); (case side2 => exact (Kd.R_reads' HO222.out).2.1); rintro e w21 ⟨rfl, hb⟩; have n0_ := Aside0.mk (Kd.R_below (by (with_reducible repeat (first | apply Kd.R_alloc | apply Kd.R_drewN | apply Kd.R_drew)); exact HO216.out) hb); have n1_ := Aside0.mk (Kd.R_below (by (with_reducible repeat (first | apply Kd.R_alloc | apply Kd.R_drewN | apply Kd.R_drew)); exact HO222.out) hb); have n2_ := Aside0.mk (below_step (by repeat (first | (with_reducible first | exact HB.out | apply below_alloc | apply pw_below_drewN | apply below_drew1) | exact HB.out)) hb); clear HO216; clear HO222; clear HB; have HO216 := n0_; have HO222 := n1_; have HB := n2_; clear n0_ n1_ n2_; (try clear hb); (try clear hb2); (try clear hk); (try clear hi)))
        go_ret
        exact ⟨by first | rfl | (simp [errW_none, errW_some] <;> rfl) | (simp [*, errW_none, errW_some] <;> rfl), by repeat (first | (with_reducible first | exact HB.out | apply below_alloc | apply pw_below_drewN | apply below_drew1) | exact HB.out)⟩
      · replace c11 := Bool.eq_false_iff.mpr c11
        subst c11
        have H1 : (some false) = some r := by rw [if_neg (show ¬ (false = true) by decide)] at H; exact H
        clear H
        have H := H1
        clear H1
        obtain rfl := Option.some.inj H
        go_enter Try.func9, Try.ntmps9
        go_wp2_with (first | ((with_reducible refine gate_callee (f := 7) rfl ?_); refine goesL_ (some 2) rfl rfl Try.func7 (by kernel_rfl) rfl #[.string (⟨#[97, 42, 91, 33, 98, 45, 100, 93]⟩ : ByteArray), .bool false] rfl (by (try simp only [List.map_toArray, List.map_cons, List.map_nil]); first | done | rfl | (simp only [List.length_drop, List.length_take]; rfl)) ?_; (with_reducible refine (glob_Chars.calls k (⟨#[97, 42, 91, 33, 98, 45, 100, 93]⟩ : ByteArray) false t214 _ A1.out).mono ?_); rintro e w22 ⟨v215, rfl, ho0, hb⟩; refine ⟨_, rfl, ?_⟩; have n0_ := Aside0.mk (Kd.R_lower ho0 (below_size (by repeat (first | (with_reducible first | exact HB.out | apply below_alloc | apply pw_below_drewN | apply below_drew1) | exact HB.out)))); have n1_ := Aside0.mk (below_step (by repeat (first | (with_reducible first | exact HB.out | apply below_alloc | apply pw_below_drewN | apply below_drew1) | exact HB.out)) hb); clear HB; have HO216 := n0_; have HB := n1_; clear n0_ n1_; (try clear hb); (try clear hb2); (try clear hk); (try clear hi); (try clear ho0); obtain ⟨Ao23, co23, eo23⟩ := Kd.R_slice HO216.out; subst eo23) | ((with_reducible refine gate_callee (f := 8) rfl ?_); refine goesL_ (some 4) rfl rfl Try.func8 (by kernel_rfl) rfl #[.slice Ao23 t214.length co23, .string (⟨#[97, 120, 101]⟩ : ByteArray)] rfl (by (try simp only [List.map_toArray, List.map_cons, List.map_nil]); first | done | rfl | (simp only [List.length_drop, List.length_take]; rfl)) ?_; (with_reducible refine (glob_Match.calls k _ _ t214 (⟨#[97, 120, 101]⟩ : ByteArray) true _ ?side1 ?side2 A2.out).mono ?_); (case side1 => repeat (first | exact (Kd.R_reads' HO216.out).2.2 | (with_reducible refine Kd.C_alloc ?_ _) | (with_reducible refine Kd.C_drewN ?_ _) | (with_reducible refine Kd.C_drew ?_))); (case side2 => exact (Kd.R_reads' HO216.out).2.1); rintro e w24 ⟨rfl, hb⟩; refine ⟨_, rfl, ?_⟩; have n0_ := Aside0.mk (Kd.R_below (by (with_reducible repeat (first | apply Kd.R_alloc | apply Kd.R_drewN | apply Kd.R_drew)); exact HO216.out) hb); have n1_ := Aside0.mk (below_step (by repeat (first | (with_reducible first | exact HB.out | apply below_alloc | apply pw_below_drewN | apply below_drew1) | exact HB.out)) hb); clear HO216; clear HB; have HO216 := n0_; have HB := n1_; clear n0_ n1_; (try clear hb); (try clear hb2); (try clear hk); (try clear hi)) | (go_at_call 8; (with_reducible refine (glob_Match.calls k _ _ t214 (⟨#[97, 120, 99]⟩ : ByteArray) false _ ?side1 ?side2 A4.out).mono ?_); (case side1 => repeat (first | exact (Kd.R_reads' HO216.out).2.2 | (with_reducible refine Kd.C_alloc ?_ _) | (with_reducible refine Kd.C_drewN ?_ _) | (with_reducible refine Kd.C_drew ?_))); (case side2 => exact (Kd.R_reads' HO216.out).2.1); rintro e w25 ⟨rfl, hb⟩; have n0_ := Aside0.mk (Kd.R_below (by (with_reducible repeat (first | apply Kd.R_alloc | apply Kd.R_drewN | apply Kd.R_drew)); exact HO216.out) hb); have n1_ := Aside0.mk (below_step (by repeat (first | (with_reducible first | exact HB.out | apply below_alloc | apply pw_below_drewN | apply below_drew1) | exact HB.out)) hb); clear HO216; clear HB; have HO216 := n0_; have HB := n1_; clear n0_ n1_; (try clear hb); (try clear hb2); (try clear hk); (try clear hi)) | (go_at_call 20; (with_reducible refine (glob_Has.calls _ _ t214 false _ ?side1 ?side2 A10.out).mono ?_); (case side1 => repeat (first | exact (Kd.R_reads' HO216.out).2.2 | (with_reducible refine Kd.C_alloc ?_ _) | (with_reducible refine Kd.C_drewN ?_ _) | (with_reducible refine Kd.C_drew ?_))); (case side2 => exact (Kd.R_reads' HO216.out).2.1); rintro e w26 ⟨rfl, hb⟩; have n0_ := Aside0.mk (Kd.R_below (by (with_reducible repeat (first | apply Kd.R_alloc | apply Kd.R_drewN | apply Kd.R_drew)); exact HO216.out) hb); have n1_ := Aside0.mk (below_step (by repeat (first | (with_reducible first | exact HB.out | apply below_alloc | apply pw_below_drewN | apply below_drew1) | exact HB.out)) hb); clear HO216; clear HB; have HO216 := n0_; have HB := n1_; clear n0_ n1_; (try clear hb); (try clear hb2); (try clear hk); (try clear hi)))
        go_ret
        exact ⟨by first | rfl | (simp [errW_none, errW_some] <;> rfl) | (simp [*, errW_none, errW_some] <;> rfl), by repeat (first | (with_reducible first | exact HB.out | apply below_alloc | apply pw_below_drewN | apply below_drew1) | exact HB.out)⟩
  · replace c3 := Bool.eq_false_iff.mpr c3
    subst c3
    have H1 : (some false) = some r := by rw [if_neg (show ¬ (false = true) by decide)] at H; exact H
    clear H
    have H := H1
    clear H1
    obtain rfl := Option.some.inj H
    go_enter Try.func9, Try.ntmps9
    go_wp2_with (first | ((with_reducible refine gate_callee (f := 7) rfl ?_); refine goesL_ (some 2) rfl rfl Try.func7 (by kernel_rfl) rfl #[.string (⟨#[97, 42, 91, 33, 98, 45, 100, 93]⟩ : ByteArray), .bool false] rfl (by (try simp only [List.map_toArray, List.map_cons, List.map_nil]); first | done | rfl | (simp only [List.length_drop, List.length_take]; rfl)) ?_; (with_reducible refine (glob_Chars.calls k (⟨#[97, 42, 91, 33, 98, 45, 100, 93]⟩ : ByteArray) false t214 _ A1.out).mono ?_); rintro e w27 ⟨v215, rfl, ho0, hb⟩; refine ⟨_, rfl, ?_⟩; have n0_ := Aside0.mk (Kd.R_lower ho0 (below_size (by repeat (first | (with_reducible first | exact HB.out | apply below_alloc | apply pw_below_drewN | apply below_drew1) | exact HB.out)))); have n1_ := Aside0.mk (below_step (by repeat (first | (with_reducible first | exact HB.out | apply below_alloc | apply pw_below_drewN | apply below_drew1) | exact HB.out)) hb); clear HB; have HO216 := n0_; have HB := n1_; clear n0_ n1_; (try clear hb); (try clear hb2); (try clear hk); (try clear hi); (try clear ho0); obtain ⟨Ao28, co28, eo28⟩ := Kd.R_slice HO216.out; subst eo28) | ((with_reducible refine gate_callee (f := 8) rfl ?_); refine goesL_ (some 4) rfl rfl Try.func8 (by kernel_rfl) rfl #[.slice Ao28 t214.length co28, .string (⟨#[97, 120, 101]⟩ : ByteArray)] rfl (by (try simp only [List.map_toArray, List.map_cons, List.map_nil]); first | done | rfl | (simp only [List.length_drop, List.length_take]; rfl)) ?_; (with_reducible refine (glob_Match.calls k _ _ t214 (⟨#[97, 120, 101]⟩ : ByteArray) false _ ?side1 ?side2 A2.out).mono ?_); (case side1 => repeat (first | exact (Kd.R_reads' HO216.out).2.2 | (with_reducible refine Kd.C_alloc ?_ _) | (with_reducible refine Kd.C_drewN ?_ _) | (with_reducible refine Kd.C_drew ?_))); (case side2 => exact (Kd.R_reads' HO216.out).2.1); rintro e w29 ⟨rfl, hb⟩; refine ⟨_, rfl, ?_⟩; have n0_ := Aside0.mk (Kd.R_below (by (with_reducible repeat (first | apply Kd.R_alloc | apply Kd.R_drewN | apply Kd.R_drew)); exact HO216.out) hb); have n1_ := Aside0.mk (below_step (by repeat (first | (with_reducible first | exact HB.out | apply below_alloc | apply pw_below_drewN | apply below_drew1) | exact HB.out)) hb); clear HO216; clear HB; have HO216 := n0_; have HB := n1_; clear n0_ n1_; (try clear hb); (try clear hb2); (try clear hk); (try clear hi)))
    go_ret
    exact ⟨by first | rfl | (simp [errW_none, errW_some] <;> rfl) | (simp [*, errW_none, errW_some] <;> rfl), by repeat (first | (with_reducible first | exact HB.out | apply below_alloc | apply pw_below_drewN | apply below_drew1) | exact HB.out)⟩

/-! ### lazaruslaw13_GlobKnown: function 3 -/
def lazaruslaw13_GlobKnown.j0 : Nat → Int → List ByteArray → List ByteArray → List ByteArray → Bool → Option (Bool)
  | 0, _, _, _, _, _ => none
  | k + 1, x0, x3, x4, x5, x17 => if x17 = true then (some true) else (if 0 ≤ x0 then (if x0 < (x3.length : Int) then ((glob_Chars.f k (rdOf ByteArray.empty x3 x0) false).bind fun t234 => (if x0 = 15 then (if x0 < (x5.length : Int) then ((glob_Match.f k t234 (rdOf ByteArray.empty x5 x0)).bind fun t238 => (if t238 = true then (some false) else ((lazaruslaw13_known.f k).bind fun t239 => (some t239)))) else (none)) else (if x0 < (x4.length : Int) then ((glob_Match.f k t234 (rdOf ByteArray.empty x4 x0)).bind fun t241 => (if t241 = true then (if x0 < (x5.length : Int) then ((glob_Match.f k t234 (rdOf ByteArray.empty x5 x0)).bind fun t243 => (if t243 = true then (some false) else ((lazaruslaw13_known.f k).bind fun t244 => (some t244)))) else (none)) else (some false))) else (none)))) else (none)) else (none))
def lazaruslaw13_GlobKnown.f (k : Nat) (a0 : Int) : Option (Bool) := (some (([(⟨#[91, 97, 98, 99, 93]⟩ : ByteArray), (⟨#[91, 33, 97, 98, 99, 93]⟩ : ByteArray), (⟨#[91, 97, 45, 99, 93]⟩ : ByteArray), (⟨#[91, 93, 97, 93]⟩ : ByteArray), (⟨#[91, 33, 93, 97, 93]⟩ : ByteArray), (⟨#[91, 97]⟩ : ByteArray), (⟨#[91, 97, 45, 93]⟩ : ByteArray), (⟨#[91, 45, 97, 93]⟩ : ByteArray), (⟨#[91, 93]⟩ : ByteArray), (⟨#[97, 91, 98, 93, 99]⟩ : ByteArray), (⟨#[42, 91, 48, 45, 57, 93]⟩ : ByteArray), (⟨#[63, 63]⟩ : ByteArray), (⟨#[91, 33, 97, 45, 99, 93, 42]⟩ : ByteArray), (⟨#[91, 195, 169, 45, 195, 188, 93]⟩ : ByteArray), (⟨#[91, 97, 45, 99, 45, 101, 93]⟩ : ByteArray), (⟨#[91, 99, 45, 97, 93]⟩ : ByteArray)] : List ByteArray) : List ByteArray)).bind fun y224 => ((some (([(⟨#[98]⟩ : ByteArray), (⟨#[100]⟩ : ByteArray), (⟨#[99]⟩ : ByteArray), (⟨#[93]⟩ : ByteArray), (⟨#[98]⟩ : ByteArray), (⟨#[91, 97]⟩ : ByteArray), (⟨#[45]⟩ : ByteArray), (⟨#[45]⟩ : ByteArray), (⟨#[91, 93]⟩ : ByteArray), (⟨#[97, 98, 99]⟩ : ByteArray), (⟨#[120, 55]⟩ : ByteArray), (⟨#[195, 169, 97]⟩ : ByteArray), (⟨#[100, 97]⟩ : ByteArray), (⟨#[195, 182]⟩ : ByteArray), (⟨#[101]⟩ : ByteArray), (⟨#[]⟩ : ByteArray)] : List ByteArray) : List ByteArray)).bind fun y227 => ((some (([(⟨#[100]⟩ : ByteArray), (⟨#[98]⟩ : ByteArray), (⟨#[100]⟩ : ByteArray), (⟨#[98]⟩ : ByteArray), (⟨#[93]⟩ : ByteArray), (⟨#[97]⟩ : ByteArray), (⟨#[98]⟩ : ByteArray), (⟨#[98]⟩ : ByteArray), (⟨#[93]⟩ : ByteArray), (⟨#[97, 98, 98, 99]⟩ : ByteArray), (⟨#[55, 120]⟩ : ByteArray), (⟨#[195, 169]⟩ : ByteArray), (⟨#[97, 98]⟩ : ByteArray), (⟨#[97]⟩ : ByteArray), (⟨#[100]⟩ : ByteArray), (⟨#[98]⟩ : ByteArray)] : List ByteArray) : List ByteArray)).bind fun y230 => (if a0 < 0 then (lazaruslaw13_GlobKnown.j0 k a0 y224 y227 y230 true) else (lazaruslaw13_GlobKnown.j0 k a0 y224 y227 y230 (decide (a0 ≥ (y224.length : Int)))))))
theorem lazaruslaw13_GlobKnown.mono_l : ∀ k, (∀ y0 y1 y2 y3 y4, LeO (lazaruslaw13_GlobKnown.j0 k y0 y1 y2 y3 y4) (lazaruslaw13_GlobKnown.j0 (k + 1) y0 y1 y2 y3 y4))
  | 0 => fun _ _ _ _ _ r h => by simp [lazaruslaw13_GlobKnown.j0] at h
  | k + 1 => by
    have ih0 := lazaruslaw13_GlobKnown.mono_l k
    · intro y0 y1 y2 y3 y4
      unfold lazaruslaw13_GlobKnown.j0
      repeat' first
      | (with_reducible exact ih0 _ _ _ _ _)
      | (with_reducible exact glob_Chars.mono _ _ _)
      | (with_reducible exact glob_Match.mono _ _ _)
      | (with_reducible exact lazaruslaw13_known.mono _)
      | (with_reducible exact LeO.refl _)
      | (with_reducible exact LeO.none _)
      | (with_reducible refine LeO.ite ?_ ?_)
      | (with_reducible refine LeO.bind ?_ (fun _ => ?_))
      | exact ih0 _ _ _ _ _
      | exact glob_Chars.mono _ _ _
      | exact glob_Match.mono _ _ _
      | exact lazaruslaw13_known.mono _
      | exact LeO.none _
      | refine LeO.ite ?_ ?_
      | refine LeO.bind ?_ (fun _ => ?_)
theorem lazaruslaw13_GlobKnown.mono : ∀ a0 k, LeO (lazaruslaw13_GlobKnown.f k a0) (lazaruslaw13_GlobKnown.f (k + 1) a0) := by
  intro a0 k
  have ih0 := lazaruslaw13_GlobKnown.mono_l k
  unfold lazaruslaw13_GlobKnown.f
  repeat' first
      | (with_reducible exact ih0 _ _ _ _ _)
      | (with_reducible exact glob_Chars.mono _ _ _)
      | (with_reducible exact glob_Match.mono _ _ _)
      | (with_reducible exact lazaruslaw13_known.mono _)
      | (with_reducible exact LeO.refl _)
      | (with_reducible exact LeO.none _)
      | (with_reducible refine LeO.ite ?_ ?_)
      | (with_reducible refine LeO.bind ?_ (fun _ => ?_))
      | exact ih0 _ _ _ _ _
      | exact glob_Chars.mono _ _ _
      | exact glob_Match.mono _ _ _
      | exact lazaruslaw13_known.mono _
      | exact LeO.none _
      | refine LeO.ite ?_ ?_
      | refine LeO.bind ?_ (fun _ => ?_)
set_option maxHeartbeats 8000000 in
set_option maxRecDepth 100000 in
theorem lazaruslaw13_GlobKnown.calls (k : Nat) (a0 : Int) (r : Bool) (w : World) (h : lazaruslaw13_GlobKnown.f k a0 = some r) :
    Calls Try.prog 3 #[.int .i64 a0] w fun e w' => e = .returned (.bool r) ∧ Below w.heap.size w w' := by
  have HB := Aside0.mk (Below.refl w.heap.size w)
  have H : ((some (([(⟨#[91, 97, 98, 99, 93]⟩ : ByteArray), (⟨#[91, 33, 97, 98, 99, 93]⟩ : ByteArray), (⟨#[91, 97, 45, 99, 93]⟩ : ByteArray), (⟨#[91, 93, 97, 93]⟩ : ByteArray), (⟨#[91, 33, 93, 97, 93]⟩ : ByteArray), (⟨#[91, 97]⟩ : ByteArray), (⟨#[91, 97, 45, 93]⟩ : ByteArray), (⟨#[91, 45, 97, 93]⟩ : ByteArray), (⟨#[91, 93]⟩ : ByteArray), (⟨#[97, 91, 98, 93, 99]⟩ : ByteArray), (⟨#[42, 91, 48, 45, 57, 93]⟩ : ByteArray), (⟨#[63, 63]⟩ : ByteArray), (⟨#[91, 33, 97, 45, 99, 93, 42]⟩ : ByteArray), (⟨#[91, 195, 169, 45, 195, 188, 93]⟩ : ByteArray), (⟨#[91, 97, 45, 99, 45, 101, 93]⟩ : ByteArray), (⟨#[91, 99, 45, 97, 93]⟩ : ByteArray)] : List ByteArray) : List ByteArray)).bind fun y224 => ((some (([(⟨#[98]⟩ : ByteArray), (⟨#[100]⟩ : ByteArray), (⟨#[99]⟩ : ByteArray), (⟨#[93]⟩ : ByteArray), (⟨#[98]⟩ : ByteArray), (⟨#[91, 97]⟩ : ByteArray), (⟨#[45]⟩ : ByteArray), (⟨#[45]⟩ : ByteArray), (⟨#[91, 93]⟩ : ByteArray), (⟨#[97, 98, 99]⟩ : ByteArray), (⟨#[120, 55]⟩ : ByteArray), (⟨#[195, 169, 97]⟩ : ByteArray), (⟨#[100, 97]⟩ : ByteArray), (⟨#[195, 182]⟩ : ByteArray), (⟨#[101]⟩ : ByteArray), (⟨#[]⟩ : ByteArray)] : List ByteArray) : List ByteArray)).bind fun y227 => ((some (([(⟨#[100]⟩ : ByteArray), (⟨#[98]⟩ : ByteArray), (⟨#[100]⟩ : ByteArray), (⟨#[98]⟩ : ByteArray), (⟨#[93]⟩ : ByteArray), (⟨#[97]⟩ : ByteArray), (⟨#[98]⟩ : ByteArray), (⟨#[98]⟩ : ByteArray), (⟨#[93]⟩ : ByteArray), (⟨#[97, 98, 98, 99]⟩ : ByteArray), (⟨#[55, 120]⟩ : ByteArray), (⟨#[195, 169]⟩ : ByteArray), (⟨#[97, 98]⟩ : ByteArray), (⟨#[97]⟩ : ByteArray), (⟨#[100]⟩ : ByteArray), (⟨#[98]⟩ : ByteArray)] : List ByteArray) : List ByteArray)).bind fun y230 => (if a0 < 0 then (lazaruslaw13_GlobKnown.j0 k a0 y224 y227 y230 true) else (lazaruslaw13_GlobKnown.j0 k a0 y224 y227 y230 (decide (a0 ≥ (y224.length : Int)))))))) = some r := h
  clear h
  obtain ⟨y224, hy224⟩ : ∃ y_ : List ByteArray, y_ = (([(⟨#[91, 97, 98, 99, 93]⟩ : ByteArray), (⟨#[91, 33, 97, 98, 99, 93]⟩ : ByteArray), (⟨#[91, 97, 45, 99, 93]⟩ : ByteArray), (⟨#[91, 93, 97, 93]⟩ : ByteArray), (⟨#[91, 33, 93, 97, 93]⟩ : ByteArray), (⟨#[91, 97]⟩ : ByteArray), (⟨#[91, 97, 45, 93]⟩ : ByteArray), (⟨#[91, 45, 97, 93]⟩ : ByteArray), (⟨#[91, 93]⟩ : ByteArray), (⟨#[97, 91, 98, 93, 99]⟩ : ByteArray), (⟨#[42, 91, 48, 45, 57, 93]⟩ : ByteArray), (⟨#[63, 63]⟩ : ByteArray), (⟨#[91, 33, 97, 45, 99, 93, 42]⟩ : ByteArray), (⟨#[91, 195, 169, 45, 195, 188, 93]⟩ : ByteArray), (⟨#[91, 97, 45, 99, 45, 101, 93]⟩ : ByteArray), (⟨#[91, 99, 45, 97, 93]⟩ : ByteArray)] : List ByteArray)) := ⟨_, rfl⟩
  replace H : ((some (([(⟨#[98]⟩ : ByteArray), (⟨#[100]⟩ : ByteArray), (⟨#[99]⟩ : ByteArray), (⟨#[93]⟩ : ByteArray), (⟨#[98]⟩ : ByteArray), (⟨#[91, 97]⟩ : ByteArray), (⟨#[45]⟩ : ByteArray), (⟨#[45]⟩ : ByteArray), (⟨#[91, 93]⟩ : ByteArray), (⟨#[97, 98, 99]⟩ : ByteArray), (⟨#[120, 55]⟩ : ByteArray), (⟨#[195, 169, 97]⟩ : ByteArray), (⟨#[100, 97]⟩ : ByteArray), (⟨#[195, 182]⟩ : ByteArray), (⟨#[101]⟩ : ByteArray), (⟨#[]⟩ : ByteArray)] : List ByteArray) : List ByteArray)).bind fun y227 => ((some (([(⟨#[100]⟩ : ByteArray), (⟨#[98]⟩ : ByteArray), (⟨#[100]⟩ : ByteArray), (⟨#[98]⟩ : ByteArray), (⟨#[93]⟩ : ByteArray), (⟨#[97]⟩ : ByteArray), (⟨#[98]⟩ : ByteArray), (⟨#[98]⟩ : ByteArray), (⟨#[93]⟩ : ByteArray), (⟨#[97, 98, 98, 99]⟩ : ByteArray), (⟨#[55, 120]⟩ : ByteArray), (⟨#[195, 169]⟩ : ByteArray), (⟨#[97, 98]⟩ : ByteArray), (⟨#[97]⟩ : ByteArray), (⟨#[100]⟩ : ByteArray), (⟨#[98]⟩ : ByteArray)] : List ByteArray) : List ByteArray)).bind fun y230 => (if a0 < 0 then (lazaruslaw13_GlobKnown.j0 k a0 y224 y227 y230 true) else (lazaruslaw13_GlobKnown.j0 k a0 y224 y227 y230 (decide (a0 ≥ (y224.length : Int))))))) = some r := by first | (rw [hy224]; with_reducible exact H) | (have H2_ := (Option.bind_some _ _).symm.trans H; rw [hy224]; with_reducible exact H2_) | (have H2_ := (Option.bind_some _ _).symm.trans H; with_reducible exact H2_) | with_reducible exact H | (rw [hy224]; exact H) | exact H
  have Ny224 := Aside0.mk hy224
  clear hy224
  obtain ⟨y227, hy227⟩ : ∃ y_ : List ByteArray, y_ = (([(⟨#[98]⟩ : ByteArray), (⟨#[100]⟩ : ByteArray), (⟨#[99]⟩ : ByteArray), (⟨#[93]⟩ : ByteArray), (⟨#[98]⟩ : ByteArray), (⟨#[91, 97]⟩ : ByteArray), (⟨#[45]⟩ : ByteArray), (⟨#[45]⟩ : ByteArray), (⟨#[91, 93]⟩ : ByteArray), (⟨#[97, 98, 99]⟩ : ByteArray), (⟨#[120, 55]⟩ : ByteArray), (⟨#[195, 169, 97]⟩ : ByteArray), (⟨#[100, 97]⟩ : ByteArray), (⟨#[195, 182]⟩ : ByteArray), (⟨#[101]⟩ : ByteArray), (⟨#[]⟩ : ByteArray)] : List ByteArray)) := ⟨_, rfl⟩
  replace H : ((some (([(⟨#[100]⟩ : ByteArray), (⟨#[98]⟩ : ByteArray), (⟨#[100]⟩ : ByteArray), (⟨#[98]⟩ : ByteArray), (⟨#[93]⟩ : ByteArray), (⟨#[97]⟩ : ByteArray), (⟨#[98]⟩ : ByteArray), (⟨#[98]⟩ : ByteArray), (⟨#[93]⟩ : ByteArray), (⟨#[97, 98, 98, 99]⟩ : ByteArray), (⟨#[55, 120]⟩ : ByteArray), (⟨#[195, 169]⟩ : ByteArray), (⟨#[97, 98]⟩ : ByteArray), (⟨#[97]⟩ : ByteArray), (⟨#[100]⟩ : ByteArray), (⟨#[98]⟩ : ByteArray)] : List ByteArray) : List ByteArray)).bind fun y230 => (if a0 < 0 then (lazaruslaw13_GlobKnown.j0 k a0 y224 y227 y230 true) else (lazaruslaw13_GlobKnown.j0 k a0 y224 y227 y230 (decide (a0 ≥ (y224.length : Int)))))) = some r := by first | (rw [hy227]; with_reducible exact H) | (have H2_ := (Option.bind_some _ _).symm.trans H; rw [hy227]; with_reducible exact H2_) | (have H2_ := (Option.bind_some _ _).symm.trans H; with_reducible exact H2_) | with_reducible exact H | (rw [hy227]; exact H) | exact H
  have Ny227 := Aside0.mk hy227
  clear hy227
  obtain ⟨y230, hy230⟩ : ∃ y_ : List ByteArray, y_ = (([(⟨#[100]⟩ : ByteArray), (⟨#[98]⟩ : ByteArray), (⟨#[100]⟩ : ByteArray), (⟨#[98]⟩ : ByteArray), (⟨#[93]⟩ : ByteArray), (⟨#[97]⟩ : ByteArray), (⟨#[98]⟩ : ByteArray), (⟨#[98]⟩ : ByteArray), (⟨#[93]⟩ : ByteArray), (⟨#[97, 98, 98, 99]⟩ : ByteArray), (⟨#[55, 120]⟩ : ByteArray), (⟨#[195, 169]⟩ : ByteArray), (⟨#[97, 98]⟩ : ByteArray), (⟨#[97]⟩ : ByteArray), (⟨#[100]⟩ : ByteArray), (⟨#[98]⟩ : ByteArray)] : List ByteArray)) := ⟨_, rfl⟩
  replace H : (if a0 < 0 then (lazaruslaw13_GlobKnown.j0 k a0 y224 y227 y230 true) else (lazaruslaw13_GlobKnown.j0 k a0 y224 y227 y230 (decide (a0 ≥ (y224.length : Int))))) = some r := by first | (rw [hy230]; with_reducible exact H) | (have H2_ := (Option.bind_some _ _).symm.trans H; rw [hy230]; with_reducible exact H2_) | (have H2_ := (Option.bind_some _ _).symm.trans H; with_reducible exact H2_) | with_reducible exact H | (rw [hy230]; exact H) | exact H
  have Ny230 := Aside0.mk hy230
  clear hy230
  have HC2 := Aside0.mk H
  clear H
  go_enter Try.func3, Try.ntmps3
  go_upto_region 4 with (first | ((with_reducible refine gate_dst (N := 7) rfl ?_); (try (refine gate_guard (by rfl) ?_; dsimp only)); refine Kd.R_lit Kd.string _ 9 ?hg (N := 7) ?hd (xs := ([(⟨#[91, 97, 98, 99, 93]⟩ : ByteArray), (⟨#[91, 33, 97, 98, 99, 93]⟩ : ByteArray), (⟨#[91, 97, 45, 99, 93]⟩ : ByteArray), (⟨#[91, 93, 97, 93]⟩ : ByteArray), (⟨#[91, 33, 93, 97, 93]⟩ : ByteArray), (⟨#[91, 97]⟩ : ByteArray), (⟨#[91, 97, 45, 93]⟩ : ByteArray), (⟨#[91, 45, 97, 93]⟩ : ByteArray), (⟨#[91, 93]⟩ : ByteArray), (⟨#[97, 91, 98, 93, 99]⟩ : ByteArray), (⟨#[42, 91, 48, 45, 57, 93]⟩ : ByteArray), (⟨#[63, 63]⟩ : ByteArray), (⟨#[91, 33, 97, 45, 99, 93, 42]⟩ : ByteArray), (⟨#[91, 195, 169, 45, 195, 188, 93]⟩ : ByteArray), (⟨#[91, 97, 45, 99, 45, 101, 93]⟩ : ByteArray), (⟨#[91, 99, 45, 97, 93]⟩ : ByteArray)] : List ByteArray)) (inner := [.string (⟨#[91, 97, 98, 99, 93]⟩ : ByteArray), .string (⟨#[91, 33, 97, 98, 99, 93]⟩ : ByteArray), .string (⟨#[91, 97, 45, 99, 93]⟩ : ByteArray), .string (⟨#[91, 93, 97, 93]⟩ : ByteArray), .string (⟨#[91, 33, 93, 97, 93]⟩ : ByteArray), .string (⟨#[91, 97]⟩ : ByteArray), .string (⟨#[91, 97, 45, 93]⟩ : ByteArray), .string (⟨#[91, 45, 97, 93]⟩ : ByteArray), .string (⟨#[91, 93]⟩ : ByteArray), .string (⟨#[97, 91, 98, 93, 99]⟩ : ByteArray), .string (⟨#[42, 91, 48, 45, 57, 93]⟩ : ByteArray), .string (⟨#[63, 63]⟩ : ByteArray), .string (⟨#[91, 33, 97, 45, 99, 93, 42]⟩ : ByteArray), .string (⟨#[91, 195, 169, 45, 195, 188, 93]⟩ : ByteArray), .string (⟨#[91, 97, 45, 99, 45, 101, 93]⟩ : ByteArray), .string (⟨#[91, 99, 45, 97, 93]⟩ : ByteArray)]) (ok := fun _ => True) (okp := fun _ => True) ?hr ?hp (fun _ hk => hk) trivial (Below.refl _ _) (Nat.le_refl _) (by simp) ?_; (case hd => rfl); (case hg => rfl); (case hr => first | (go_simp; done) | (go_simp; rfl)); (case hp => exact (Reps.one (show Kd.M Kd.string _ _ _ (⟨#[91, 97, 98, 99, 93]⟩ : ByteArray) [.string (⟨#[91, 97, 98, 99, 93]⟩ : ByteArray)] from rfl) (Reps.one (show Kd.M Kd.string _ _ _ (⟨#[91, 33, 97, 98, 99, 93]⟩ : ByteArray) [.string (⟨#[91, 33, 97, 98, 99, 93]⟩ : ByteArray)] from rfl) (Reps.one (show Kd.M Kd.string _ _ _ (⟨#[91, 97, 45, 99, 93]⟩ : ByteArray) [.string (⟨#[91, 97, 45, 99, 93]⟩ : ByteArray)] from rfl) (Reps.one (show Kd.M Kd.string _ _ _ (⟨#[91, 93, 97, 93]⟩ : ByteArray) [.string (⟨#[91, 93, 97, 93]⟩ : ByteArray)] from rfl) (Reps.one (show Kd.M Kd.string _ _ _ (⟨#[91, 33, 93, 97, 93]⟩ : ByteArray) [.string (⟨#[91, 33, 93, 97, 93]⟩ : ByteArray)] from rfl) (Reps.one (show Kd.M Kd.string _ _ _ (⟨#[91, 97]⟩ : ByteArray) [.string (⟨#[91, 97]⟩ : ByteArray)] from rfl) (Reps.one (show Kd.M Kd.string _ _ _ (⟨#[91, 97, 45, 93]⟩ : ByteArray) [.string (⟨#[91, 97, 45, 93]⟩ : ByteArray)] from rfl) (Reps.one (show Kd.M Kd.string _ _ _ (⟨#[91, 45, 97, 93]⟩ : ByteArray) [.string (⟨#[91, 45, 97, 93]⟩ : ByteArray)] from rfl) (Reps.one (show Kd.M Kd.string _ _ _ (⟨#[91, 93]⟩ : ByteArray) [.string (⟨#[91, 93]⟩ : ByteArray)] from rfl) (Reps.one (show Kd.M Kd.string _ _ _ (⟨#[97, 91, 98, 93, 99]⟩ : ByteArray) [.string (⟨#[97, 91, 98, 93, 99]⟩ : ByteArray)] from rfl) (Reps.one (show Kd.M Kd.string _ _ _ (⟨#[42, 91, 48, 45, 57, 93]⟩ : ByteArray) [.string (⟨#[42, 91, 48, 45, 57, 93]⟩ : ByteArray)] from rfl) (Reps.one (show Kd.M Kd.string _ _ _ (⟨#[63, 63]⟩ : ByteArray) [.string (⟨#[63, 63]⟩ : ByteArray)] from rfl) (Reps.one (show Kd.M Kd.string _ _ _ (⟨#[91, 33, 97, 45, 99, 93, 42]⟩ : ByteArray) [.string (⟨#[91, 33, 97, 45, 99, 93, 42]⟩ : ByteArray)] from rfl) (Reps.one (show Kd.M Kd.string _ _ _ (⟨#[91, 195, 169, 45, 195, 188, 93]⟩ : ByteArray) [.string (⟨#[91, 195, 169, 45, 195, 188, 93]⟩ : ByteArray)] from rfl) (Reps.one (show Kd.M Kd.string _ _ _ (⟨#[91, 97, 45, 99, 45, 101, 93]⟩ : ByteArray) [.string (⟨#[91, 97, 45, 99, 45, 101, 93]⟩ : ByteArray)] from rfl) (Reps.one (show Kd.M Kd.string _ _ _ (⟨#[91, 99, 45, 97, 93]⟩ : ByteArray) [.string (⟨#[91, 99, 45, 97, 93]⟩ : ByteArray)] from rfl) (Reps.none _ _)))))))))))))))))); intro v225 w3 ho4 hb hg_ hnew_; clear hg_ hnew_; (first | rw [← Ny224.out] at ho4 | (simp only [Int.reduceToNat] at ho4; rw [← Ny224.out] at ho4)); have n0_ := Aside0.mk (Kd.R_lower ho4 (below_size (by repeat (first | (with_reducible first | exact HB.out | apply below_alloc | apply pw_below_drewN | apply below_drew1) | exact HB.out)))); have n1_ := Aside0.mk (below_step (by repeat (first | (with_reducible first | exact HB.out | apply below_alloc | apply pw_below_drewN | apply below_drew1) | exact HB.out)) hb); clear HB; have HO226 := n0_; have HB := n1_; clear n0_ n1_; clear hb ho4) | ((with_reducible refine gate_dst (N := 8) rfl ?_); (try (refine gate_guard (by rfl) ?_; dsimp only)); refine Kd.R_lit Kd.string _ 9 ?hg (N := 8) ?hd (xs := ([(⟨#[98]⟩ : ByteArray), (⟨#[100]⟩ : ByteArray), (⟨#[99]⟩ : ByteArray), (⟨#[93]⟩ : ByteArray), (⟨#[98]⟩ : ByteArray), (⟨#[91, 97]⟩ : ByteArray), (⟨#[45]⟩ : ByteArray), (⟨#[45]⟩ : ByteArray), (⟨#[91, 93]⟩ : ByteArray), (⟨#[97, 98, 99]⟩ : ByteArray), (⟨#[120, 55]⟩ : ByteArray), (⟨#[195, 169, 97]⟩ : ByteArray), (⟨#[100, 97]⟩ : ByteArray), (⟨#[195, 182]⟩ : ByteArray), (⟨#[101]⟩ : ByteArray), (⟨#[]⟩ : ByteArray)] : List ByteArray)) (inner := [.string (⟨#[98]⟩ : ByteArray), .string (⟨#[100]⟩ : ByteArray), .string (⟨#[99]⟩ : ByteArray), .string (⟨#[93]⟩ : ByteArray), .string (⟨#[98]⟩ : ByteArray), .string (⟨#[91, 97]⟩ : ByteArray), .string (⟨#[45]⟩ : ByteArray), .string (⟨#[45]⟩ : ByteArray), .string (⟨#[91, 93]⟩ : ByteArray), .string (⟨#[97, 98, 99]⟩ : ByteArray), .string (⟨#[120, 55]⟩ : ByteArray), .string (⟨#[195, 169, 97]⟩ : ByteArray), .string (⟨#[100, 97]⟩ : ByteArray), .string (⟨#[195, 182]⟩ : ByteArray), .string (⟨#[101]⟩ : ByteArray), .string (⟨#[]⟩ : ByteArray)]) (ok := fun _ => True) (okp := fun _ => True) ?hr ?hp (fun _ hk => hk) trivial (Below.refl _ _) (Nat.le_refl _) (by simp) ?_; (case hd => rfl); (case hg => rfl); (case hr => first | (go_simp; done) | (go_simp; rfl)); (case hp => exact (Reps.one (show Kd.M Kd.string _ _ _ (⟨#[98]⟩ : ByteArray) [.string (⟨#[98]⟩ : ByteArray)] from rfl) (Reps.one (show Kd.M Kd.string _ _ _ (⟨#[100]⟩ : ByteArray) [.string (⟨#[100]⟩ : ByteArray)] from rfl) (Reps.one (show Kd.M Kd.string _ _ _ (⟨#[99]⟩ : ByteArray) [.string (⟨#[99]⟩ : ByteArray)] from rfl) (Reps.one (show Kd.M Kd.string _ _ _ (⟨#[93]⟩ : ByteArray) [.string (⟨#[93]⟩ : ByteArray)] from rfl) (Reps.one (show Kd.M Kd.string _ _ _ (⟨#[98]⟩ : ByteArray) [.string (⟨#[98]⟩ : ByteArray)] from rfl) (Reps.one (show Kd.M Kd.string _ _ _ (⟨#[91, 97]⟩ : ByteArray) [.string (⟨#[91, 97]⟩ : ByteArray)] from rfl) (Reps.one (show Kd.M Kd.string _ _ _ (⟨#[45]⟩ : ByteArray) [.string (⟨#[45]⟩ : ByteArray)] from rfl) (Reps.one (show Kd.M Kd.string _ _ _ (⟨#[45]⟩ : ByteArray) [.string (⟨#[45]⟩ : ByteArray)] from rfl) (Reps.one (show Kd.M Kd.string _ _ _ (⟨#[91, 93]⟩ : ByteArray) [.string (⟨#[91, 93]⟩ : ByteArray)] from rfl) (Reps.one (show Kd.M Kd.string _ _ _ (⟨#[97, 98, 99]⟩ : ByteArray) [.string (⟨#[97, 98, 99]⟩ : ByteArray)] from rfl) (Reps.one (show Kd.M Kd.string _ _ _ (⟨#[120, 55]⟩ : ByteArray) [.string (⟨#[120, 55]⟩ : ByteArray)] from rfl) (Reps.one (show Kd.M Kd.string _ _ _ (⟨#[195, 169, 97]⟩ : ByteArray) [.string (⟨#[195, 169, 97]⟩ : ByteArray)] from rfl) (Reps.one (show Kd.M Kd.string _ _ _ (⟨#[100, 97]⟩ : ByteArray) [.string (⟨#[100, 97]⟩ : ByteArray)] from rfl) (Reps.one (show Kd.M Kd.string _ _ _ (⟨#[195, 182]⟩ : ByteArray) [.string (⟨#[195, 182]⟩ : ByteArray)] from rfl) (Reps.one (show Kd.M Kd.string _ _ _ (⟨#[101]⟩ : ByteArray) [.string (⟨#[101]⟩ : ByteArray)] from rfl) (Reps.one (show Kd.M Kd.string _ _ _ (⟨#[]⟩ : ByteArray) [.string (⟨#[]⟩ : ByteArray)] from rfl) (Reps.none _ _)))))))))))))))))); intro v228 w5 ho6 hb hg_ hnew_; clear hg_ hnew_; (first | rw [← Ny227.out] at ho6 | (simp only [Int.reduceToNat] at ho6; rw [← Ny227.out] at ho6)); have n0_ := Aside0.mk (Kd.R_elder' (by (with_reducible repeat (first | apply Kd.R_alloc | apply Kd.R_drewN | apply Kd.R_drew)); exact HO226.out) (Kd.R_base ho6) hb); have n1_ := Aside0.mk (Kd.R_lower (Kd.R_new' ho6 (Kd.R_lt (by (with_reducible repeat (first | apply Kd.R_alloc | apply Kd.R_drewN | apply Kd.R_drew)); exact HO226.out))) (below_size (by repeat (first | (with_reducible first | exact HB.out | apply below_alloc | apply pw_below_drewN | apply below_drew1) | exact HB.out)))); have n2_ := Aside0.mk (below_step (by repeat (first | (with_reducible first | exact HB.out | apply below_alloc | apply pw_below_drewN | apply below_drew1) | exact HB.out)) hb); clear HO226; clear HB; have HO226 := n0_; have HO229 := n1_; have HB := n2_; clear n0_ n1_ n2_; clear hb ho6) | ((with_reducible refine gate_dst (N := 9) rfl ?_); (try (refine gate_guard (by rfl) ?_; dsimp only)); refine Kd.R_lit Kd.string _ 9 ?hg (N := 9) ?hd (xs := ([(⟨#[100]⟩ : ByteArray), (⟨#[98]⟩ : ByteArray), (⟨#[100]⟩ : ByteArray), (⟨#[98]⟩ : ByteArray), (⟨#[93]⟩ : ByteArray), (⟨#[97]⟩ : ByteArray), (⟨#[98]⟩ : ByteArray), (⟨#[98]⟩ : ByteArray), (⟨#[93]⟩ : ByteArray), (⟨#[97, 98, 98, 99]⟩ : ByteArray), (⟨#[55, 120]⟩ : ByteArray), (⟨#[195, 169]⟩ : ByteArray), (⟨#[97, 98]⟩ : ByteArray), (⟨#[97]⟩ : ByteArray), (⟨#[100]⟩ : ByteArray), (⟨#[98]⟩ : ByteArray)] : List ByteArray)) (inner := [.string (⟨#[100]⟩ : ByteArray), .string (⟨#[98]⟩ : ByteArray), .string (⟨#[100]⟩ : ByteArray), .string (⟨#[98]⟩ : ByteArray), .string (⟨#[93]⟩ : ByteArray), .string (⟨#[97]⟩ : ByteArray), .string (⟨#[98]⟩ : ByteArray), .string (⟨#[98]⟩ : ByteArray), .string (⟨#[93]⟩ : ByteArray), .string (⟨#[97, 98, 98, 99]⟩ : ByteArray), .string (⟨#[55, 120]⟩ : ByteArray), .string (⟨#[195, 169]⟩ : ByteArray), .string (⟨#[97, 98]⟩ : ByteArray), .string (⟨#[97]⟩ : ByteArray), .string (⟨#[100]⟩ : ByteArray), .string (⟨#[98]⟩ : ByteArray)]) (ok := fun _ => True) (okp := fun _ => True) ?hr ?hp (fun _ hk => hk) trivial (Below.refl _ _) (Nat.le_refl _) (by simp) ?_; (case hd => rfl); (case hg => rfl); (case hr => first | (go_simp; done) | (go_simp; rfl)); (case hp => exact (Reps.one (show Kd.M Kd.string _ _ _ (⟨#[100]⟩ : ByteArray) [.string (⟨#[100]⟩ : ByteArray)] from rfl) (Reps.one (show Kd.M Kd.string _ _ _ (⟨#[98]⟩ : ByteArray) [.string (⟨#[98]⟩ : ByteArray)] from rfl) (Reps.one (show Kd.M Kd.string _ _ _ (⟨#[100]⟩ : ByteArray) [.string (⟨#[100]⟩ : ByteArray)] from rfl) (Reps.one (show Kd.M Kd.string _ _ _ (⟨#[98]⟩ : ByteArray) [.string (⟨#[98]⟩ : ByteArray)] from rfl) (Reps.one (show Kd.M Kd.string _ _ _ (⟨#[93]⟩ : ByteArray) [.string (⟨#[93]⟩ : ByteArray)] from rfl) (Reps.one (show Kd.M Kd.string _ _ _ (⟨#[97]⟩ : ByteArray) [.string (⟨#[97]⟩ : ByteArray)] from rfl) (Reps.one (show Kd.M Kd.string _ _ _ (⟨#[98]⟩ : ByteArray) [.string (⟨#[98]⟩ : ByteArray)] from rfl) (Reps.one (show Kd.M Kd.string _ _ _ (⟨#[98]⟩ : ByteArray) [.string (⟨#[98]⟩ : ByteArray)] from rfl) (Reps.one (show Kd.M Kd.string _ _ _ (⟨#[93]⟩ : ByteArray) [.string (⟨#[93]⟩ : ByteArray)] from rfl) (Reps.one (show Kd.M Kd.string _ _ _ (⟨#[97, 98, 98, 99]⟩ : ByteArray) [.string (⟨#[97, 98, 98, 99]⟩ : ByteArray)] from rfl) (Reps.one (show Kd.M Kd.string _ _ _ (⟨#[55, 120]⟩ : ByteArray) [.string (⟨#[55, 120]⟩ : ByteArray)] from rfl) (Reps.one (show Kd.M Kd.string _ _ _ (⟨#[195, 169]⟩ : ByteArray) [.string (⟨#[195, 169]⟩ : ByteArray)] from rfl) (Reps.one (show Kd.M Kd.string _ _ _ (⟨#[97, 98]⟩ : ByteArray) [.string (⟨#[97, 98]⟩ : ByteArray)] from rfl) (Reps.one (show Kd.M Kd.string _ _ _ (⟨#[97]⟩ : ByteArray) [.string (⟨#[97]⟩ : ByteArray)] from rfl) (Reps.one (show Kd.M Kd.string _ _ _ (⟨#[100]⟩ : ByteArray) [.string (⟨#[100]⟩ : ByteArray)] from rfl) (Reps.one (show Kd.M Kd.string _ _ _ (⟨#[98]⟩ : ByteArray) [.string (⟨#[98]⟩ : ByteArray)] from rfl) (Reps.none _ _)))))))))))))))))); intro v231 w7 ho8 hb hg_ hnew_; clear hg_ hnew_; (first | rw [← Ny230.out] at ho8 | (simp only [Int.reduceToNat] at ho8; rw [← Ny230.out] at ho8)); have n0_ := Aside0.mk (Kd.R_elder' (by (with_reducible repeat (first | apply Kd.R_alloc | apply Kd.R_drewN | apply Kd.R_drew)); exact HO226.out) (Kd.R_base ho8) hb); have n1_ := Aside0.mk (Kd.R_elder' (by (with_reducible repeat (first | apply Kd.R_alloc | apply Kd.R_drewN | apply Kd.R_drew)); exact HO229.out) (Kd.R_base ho8) hb); have n2_ := Aside0.mk (Kd.R_lower (Kd.R_new' (Kd.R_new' ho8 (Kd.R_lt (by (with_reducible repeat (first | apply Kd.R_alloc | apply Kd.R_drewN | apply Kd.R_drew)); exact HO226.out))) (Kd.R_lt (by (with_reducible repeat (first | apply Kd.R_alloc | apply Kd.R_drewN | apply Kd.R_drew)); exact HO229.out))) (below_size (by repeat (first | (with_reducible first | exact HB.out | apply below_alloc | apply pw_below_drewN | apply below_drew1) | exact HB.out)))); have n3_ := Aside0.mk (below_step (by repeat (first | (with_reducible first | exact HB.out | apply below_alloc | apply pw_below_drewN | apply below_drew1) | exact HB.out)) hb); clear HO226; clear HO229; clear HB; have HO226 := n0_; have HO229 := n1_; have HO232 := n2_; have HB := n3_; clear n0_ n1_ n2_ n3_; clear hb ho8))
  (try simp only [Act.put, List.setIfInBounds_toArray, List.set_cons_zero, List.set_cons_succ])
  go_cut [17] (fun v17 wc => ∃ (kq : Nat) (x17_1 : Bool), v17 = .bool x17_1 ∧ Aside0 (lazaruslaw13_GlobKnown.j0 kq a0 y224 y227 y230 x17_1 = some r) ∧ Aside0 (kq ≤ k) ∧ Aside0 (Kd.R Kd.string 9 wc w.heap.size (fun k_ => some k_ ≠ (v228 : Value).ownBlock ∧ some k_ ≠ (v231 : Value).ownBlock) v225 y224) ∧ Aside0 (Kd.R Kd.string 9 wc w.heap.size (fun k_ => some k_ ≠ (v225 : Value).ownBlock ∧ some k_ ≠ (v231 : Value).ownBlock) v228 y227) ∧ Aside0 (Kd.R Kd.string 9 wc w.heap.size (fun k_ => some k_ ≠ (v225 : Value).ownBlock ∧ some k_ ≠ (v228 : Value).ownBlock) v231 y230) ∧ Aside0 (Below w.heap.size w wc))
  case first =>
    have H := HC2.out
    clear HC2
    by_cases c9 : a0 < 0
    · rw [if_pos c9] at H
      have c9b0 : decide (a0 < 0) = true := decide_eq_true c9
      clear c9
      (first | rw [c9b0] | (simp only [i64_w, i32_w]; rw [c9b0]) | skip)
      have H' := Aside0.mk H
      clear H
      go_wp2
      go_meet
      case rel => exact ⟨_, (true), (by first | rfl | (simp; done) | (simp [*]; done) | (simp; unfold wrap64; omega)), H', ⟨by first | omega | exact Nat.le_refl _⟩, ⟨by (with_reducible repeat (first | apply Kd.R_alloc | apply Kd.R_drewN | apply Kd.R_drew)); exact Kd.R_mono HO226.out (fun _ hk => ⟨hk.1.2, hk.2⟩)⟩, ⟨by (with_reducible repeat (first | apply Kd.R_alloc | apply Kd.R_drewN | apply Kd.R_drew)); exact Kd.R_mono HO229.out (fun _ hk => ⟨hk.1.2, hk.2⟩)⟩, ⟨by (with_reducible repeat (first | apply Kd.R_alloc | apply Kd.R_drewN | apply Kd.R_drew)); exact Kd.R_mono HO232.out (fun _ hk => ⟨hk.1.2, hk.2⟩)⟩, ⟨by repeat (first | (with_reducible first | exact HB.out | apply below_alloc | apply pw_below_drewN | apply below_drew1) | exact HB.out)⟩⟩
    · rw [if_neg c9] at H
      have c9b0 : decide (a0 < 0) = false := decide_eq_false c9
      clear c9
      (first | rw [c9b0] | (simp only [i64_w, i32_w]; rw [c9b0]) | skip)
      have H' := Aside0.mk H
      clear H
      obtain ⟨Ao10, co10, eo10⟩ := Kd.R_slice HO226.out
      subst eo10
      go_wp2
      go_meet
      case rel => exact ⟨_, (decide (a0 ≥ (y224.length : Int))), (by first | rfl | (simp; done) | (simp [*]; done) | (simp; unfold wrap64; omega)), H', ⟨by first | omega | exact Nat.le_refl _⟩, ⟨by (with_reducible repeat (first | apply Kd.R_alloc | apply Kd.R_drewN | apply Kd.R_drew)); exact Kd.R_mono HO226.out (fun _ hk => ⟨hk.1.2, hk.2⟩)⟩, ⟨by (with_reducible repeat (first | apply Kd.R_alloc | apply Kd.R_drewN | apply Kd.R_drew)); exact Kd.R_mono HO229.out (fun _ hk => ⟨hk.1.2, hk.2⟩)⟩, ⟨by (with_reducible repeat (first | apply Kd.R_alloc | apply Kd.R_drewN | apply Kd.R_drew)); exact Kd.R_mono HO232.out (fun _ hk => ⟨hk.1.2, hk.2⟩)⟩, ⟨by repeat (first | (with_reducible first | exact HB.out | apply below_alloc | apply pw_below_drewN | apply below_drew1) | exact HB.out)⟩⟩
  case rest =>
    clear HC2
    try clear p2
    try clear c3
    try clear p6
    try clear c9
    try clear c9b0
    obtain ⟨kq, x17_1, rfl, HA, HJ1, HO_3, HO_4, HO_5, HB⟩ := hcut
    cases kq with
    | zero => exact absurd HA.out (by simp [lazaruslaw13_GlobKnown.j0])
    | succ kj1 =>
      have H := HA.out
      clear HA
      simp only [lazaruslaw13_GlobKnown.j0] at H
      by_cases c11 : x17_1 = true
      · subst c11
        have H1 : (some true) = some r := by rw [if_pos rfl] at H; exact H
        clear H
        have H := H1
        clear H1
        obtain rfl := Option.some.inj H
        go_wp2
        go_ret
        exact ⟨by first | rfl | (simp [errW_none, errW_some] <;> rfl) | (simp [*, errW_none, errW_some] <;> rfl), by repeat (first | (with_reducible first | exact HB.out | apply below_alloc | apply pw_below_drewN | apply below_drew1) | exact HB.out)⟩
      · replace c11 := Bool.eq_false_iff.mpr c11
        subst c11
        have H1 : (if 0 ≤ a0 then (if a0 < (y224.length : Int) then ((glob_Chars.f kj1 (rdOf ByteArray.empty y224 a0) false).bind fun t234 => (if a0 = 15 then (if a0 < (y230.length : Int) then ((glob_Match.f kj1 t234 (rdOf ByteArray.empty y230 a0)).bind fun t238 => (if t238 = true then (some false) else ((lazaruslaw13_known.f kj1).bind fun t239 => (some t239)))) else (none)) else (if a0 < (y227.length : Int) then ((glob_Match.f kj1 t234 (rdOf ByteArray.empty y227 a0)).bind fun t241 => (if t241 = true then (if a0 < (y230.length : Int) then ((glob_Match.f kj1 t234 (rdOf ByteArray.empty y230 a0)).bind fun t243 => (if t243 = true then (some false) else ((lazaruslaw13_known.f kj1).bind fun t244 => (some t244)))) else (none)) else (some false))) else (none)))) else (none)) else (none)) = some r := by rw [if_neg (show ¬ (false = true) by decide)] at H; exact H
        clear H
        have H := H1
        clear H1
        by_cases c12 : 0 ≤ a0
        · rw [if_pos c12] at H
          have c12b0 : decide (0 ≤ a0) = true := decide_eq_true c12
          clear c12
          by_cases c13 : a0 < (y224.length : Int)
          · rw [if_pos c13] at H
            have c13b0 : decide (a0 < (y224.length : Int)) = true := decide_eq_true c13
            clear c13
            replace H := Option.bind_eq_some_iff.mp H
            obtain ⟨t234, A140, H⟩ := H
            replace H : (if a0 = 15 then (if a0 < (y230.length : Int) then ((glob_Match.f kj1 t234 (rdOf ByteArray.empty y230 a0)).bind fun t238 => (if t238 = true then (some false) else ((lazaruslaw13_known.f kj1).bind fun t239 => (some t239)))) else (none)) else (if a0 < (y227.length : Int) then ((glob_Match.f kj1 t234 (rdOf ByteArray.empty y227 a0)).bind fun t241 => (if t241 = true then (if a0 < (y230.length : Int) then ((glob_Match.f kj1 t234 (rdOf ByteArray.empty y230 a0)).bind fun t243 => (if t243 = true then (some false) else ((lazaruslaw13_known.f kj1).bind fun t244 => (some t244)))) else (none)) else (some false))) else (none))) = some r := H
            have A14 := Aside0.mk A140
            clear A140
            by_cases c15 : a0 = 15
            · rw [if_pos c15] at H
              have c15b0 : (a0 == 15) = true := beq_iff_eq.mpr c15
              have c15b1 : (a0 != 15) = false := bne_eq_false_iff_eq.mpr c15
              clear c15
              by_cases c16 : a0 < (y230.length : Int)
              · rw [if_pos c16] at H
                have c16b0 : decide (a0 < (y230.length : Int)) = true := decide_eq_true c16
                clear c16
                replace H := Option.bind_eq_some_iff.mp H
                obtain ⟨t238, A170, H⟩ := H
                replace H : (if t238 = true then (some false) else ((lazaruslaw13_known.f kj1).bind fun t239 => (some t239))) = some r := H
                have A17 := Aside0.mk A170
                clear A170
                by_cases c18 : t238 = true
                · subst c18
                  have H1 : (some false) = some r := by rw [if_pos rfl] at H; exact H
                  clear H
                  have H := H1
                  clear H1
                  obtain rfl := Option.some.inj H
                  obtain ⟨Ao19, co19, eo19⟩ := Kd.R_slice HO_3.out
                  subst eo19
                  have p233 : 0 ≤ (a0 : Int) := of_decide_eq_true (by first | (with_reducible assumption) | assumption)
                  have q233 : a0 < (y224.length : Int) := of_decide_eq_true (by first | (with_reducible assumption) | assumption)
                  obtain ⟨ad233, e233, hx233_0⟩ := Kd.at_string (Kd.R_reads' HO_3.out).2.2 a0 p233 q233
                  cases e233
                  replace p233 := eq_true p233
                  replace q233 := eq_true q233
                  go_wp2_with (first | ((with_reducible refine gate_callee (f := 7) rfl ?_); refine goesL_ (some 22) rfl rfl Try.func7 (by kernel_rfl) rfl #[.string (rdOf ByteArray.empty y224 a0), .bool false] rfl (by (try simp only [List.map_toArray, List.map_cons, List.map_nil]); first | done | rfl | (simp only [List.length_drop, List.length_take]; rfl)) ?_; (with_reducible refine (glob_Chars.calls kj1 (rdOf ByteArray.empty y224 a0) false t234 _ A14.out).mono ?_); rintro e w20 ⟨v235, rfl, ho0, hb⟩; refine ⟨_, rfl, ?_⟩; have n0_ := Aside0.mk (Kd.R_below (by (with_reducible repeat (first | apply Kd.R_alloc | apply Kd.R_drewN | apply Kd.R_drew)); exact HO_3.out) hb); have n1_ := Aside0.mk (Kd.R_below (by (with_reducible repeat (first | apply Kd.R_alloc | apply Kd.R_drewN | apply Kd.R_drew)); exact HO_4.out) hb); have n2_ := Aside0.mk (Kd.R_below (by (with_reducible repeat (first | apply Kd.R_alloc | apply Kd.R_drewN | apply Kd.R_drew)); exact HO_5.out) hb); have n3_ := Aside0.mk (Kd.R_lower ho0 (below_size (by repeat (first | (with_reducible first | exact HB.out | apply below_alloc | apply pw_below_drewN | apply below_drew1) | exact HB.out)))); have n4_ := Aside0.mk (below_step (by repeat (first | (with_reducible first | exact HB.out | apply below_alloc | apply pw_below_drewN | apply below_drew1) | exact HB.out)) hb); clear HO_3; clear HO_4; clear HO_5; clear HB; have HO_3 := n0_; have HO_4 := n1_; have HO_5 := n2_; have HO236 := n3_; have HB := n4_; clear n0_ n1_ n2_ n3_ n4_; (try clear hb); (try clear hb2); (try clear hk); (try clear hi); (try clear ho0); obtain ⟨Ao21, co21, eo21⟩ := Kd.R_slice HO_5.out; subst eo21; have p237 : 0 ≤ (a0 : Int) := of_decide_eq_true (by first | (with_reducible assumption) | assumption); have q237 : a0 < (y230.length : Int) := of_decide_eq_true (by first | (with_reducible assumption) | assumption); obtain ⟨ad237, e237, hx237_0⟩ := Kd.at_string (Kd.R_reads' HO_5.out).2.2 a0 p237 q237; cases e237; replace p237 := eq_true p237; replace q237 := eq_true q237; obtain ⟨Ao22, co22, eo22⟩ := Kd.R_slice HO236.out; subst eo22) | (go_at_call 8; (with_reducible refine (glob_Match.calls kj1 _ _ t234 (rdOf ByteArray.empty y230 a0) true _ ?side1 ?side2 A17.out).mono ?_); (case side1 => repeat (first | exact (Kd.R_reads' HO236.out).2.2 | (with_reducible refine Kd.C_alloc ?_ _) | (with_reducible refine Kd.C_drewN ?_ _) | (with_reducible refine Kd.C_drew ?_))); (case side2 => exact (Kd.R_reads' HO236.out).2.1); rintro e w23 ⟨rfl, hb⟩; have n0_ := Aside0.mk (Kd.R_below (by (with_reducible repeat (first | apply Kd.R_alloc | apply Kd.R_drewN | apply Kd.R_drew)); exact HO_3.out) hb); have n1_ := Aside0.mk (Kd.R_below (by (with_reducible repeat (first | apply Kd.R_alloc | apply Kd.R_drewN | apply Kd.R_drew)); exact HO_4.out) hb); have n2_ := Aside0.mk (Kd.R_below (by (with_reducible repeat (first | apply Kd.R_alloc | apply Kd.R_drewN | apply Kd.R_drew)); exact HO_5.out) hb); have n3_ := Aside0.mk (Kd.R_below (by (with_reducible repeat (first | apply Kd.R_alloc | apply Kd.R_drewN | apply Kd.R_drew)); exact HO236.out) hb); have n4_ := Aside0.mk (below_step (by repeat (first | (with_reducible first | exact HB.out | apply below_alloc | apply pw_below_drewN | apply below_drew1) | exact HB.out)) hb); clear HO_3; clear HO_4; clear HO_5; clear HO236; clear HB; have HO_3 := n0_; have HO_4 := n1_; have HO_5 := n2_; have HO236 := n3_; have HB := n4_; clear n0_ n1_ n2_ n3_ n4_; (try clear hb); (try clear hb2); (try clear hk); (try clear hi)))
                  go_ret
                  exact ⟨by first | rfl | (simp [errW_none, errW_some] <;> rfl) | (simp [*, errW_none, errW_some] <;> rfl), by repeat (first | (with_reducible first | exact HB.out | apply below_alloc | apply pw_below_drewN | apply below_drew1) | exact HB.out)⟩
                · replace c18 := Bool.eq_false_iff.mpr c18
                  subst c18
                  have H1 : ((lazaruslaw13_known.f kj1).bind fun t239 => (some t239)) = some r := by rw [if_neg (show ¬ (false = true) by decide)] at H; exact H
                  clear H
                  have H := H1
                  clear H1
                  replace H := Option.bind_eq_some_iff.mp H
                  obtain ⟨t239, A240, H⟩ := H
                  replace H : (some t239) = some r := H
                  have A24 := Aside0.mk A240
                  clear A240
                  obtain rfl := Option.some.inj H
                  obtain ⟨Ao25, co25, eo25⟩ := Kd.R_slice HO_3.out
                  subst eo25
                  have p233 : 0 ≤ (a0 : Int) := of_decide_eq_true (by first | (with_reducible assumption) | assumption)
                  have q233 : a0 < (y224.length : Int) := of_decide_eq_true (by first | (with_reducible assumption) | assumption)
                  obtain ⟨ad233, e233, hx233_0⟩ := Kd.at_string (Kd.R_reads' HO_3.out).2.2 a0 p233 q233
                  cases e233
                  replace p233 := eq_true p233
                  replace q233 := eq_true q233
                  go_wp2_with (first | ((with_reducible refine gate_callee (f := 7) rfl ?_); refine goesL_ (some 22) rfl rfl Try.func7 (by kernel_rfl) rfl #[.string (rdOf ByteArray.empty y224 a0), .bool false] rfl (by (try simp only [List.map_toArray, List.map_cons, List.map_nil]); first | done | rfl | (simp only [List.length_drop, List.length_take]; rfl)) ?_; (with_reducible refine (glob_Chars.calls kj1 (rdOf ByteArray.empty y224 a0) false t234 _ A14.out).mono ?_); rintro e w26 ⟨v235, rfl, ho0, hb⟩; refine ⟨_, rfl, ?_⟩; have n0_ := Aside0.mk (Kd.R_below (by (with_reducible repeat (first | apply Kd.R_alloc | apply Kd.R_drewN | apply Kd.R_drew)); exact HO_3.out) hb); have n1_ := Aside0.mk (Kd.R_below (by (with_reducible repeat (first | apply Kd.R_alloc | apply Kd.R_drewN | apply Kd.R_drew)); exact HO_4.out) hb); have n2_ := Aside0.mk (Kd.R_below (by (with_reducible repeat (first | apply Kd.R_alloc | apply Kd.R_drewN | apply Kd.R_drew)); exact HO_5.out) hb); have n3_ := Aside0.mk (Kd.R_lower ho0 (below_size (by repeat (first | (with_reducible first | exact HB.out | apply below_alloc | apply pw_below_drewN | apply below_drew1) | exact HB.out)))); have n4_ := Aside0.mk (below_step (by repeat (first | (with_reducible first | exact HB.out | apply below_alloc | apply pw_below_drewN | apply below_drew1) | exact HB.out)) hb); clear HO_3; clear HO_4; clear HO_5; clear HB; have HO_3 := n0_; have HO_4 := n1_; have HO_5 := n2_; have HO236 := n3_; have HB := n4_; clear n0_ n1_ n2_ n3_ n4_; (try clear hb); (try clear hb2); (try clear hk); (try clear hi); (try clear ho0); obtain ⟨Ao27, co27, eo27⟩ := Kd.R_slice HO_5.out; subst eo27; have p237 : 0 ≤ (a0 : Int) := of_decide_eq_true (by first | (with_reducible assumption) | assumption); have q237 : a0 < (y230.length : Int) := of_decide_eq_true (by first | (with_reducible assumption) | assumption); obtain ⟨ad237, e237, hx237_0⟩ := Kd.at_string (Kd.R_reads' HO_5.out).2.2 a0 p237 q237; cases e237; replace p237 := eq_true p237; replace q237 := eq_true q237; obtain ⟨Ao28, co28, eo28⟩ := Kd.R_slice HO236.out; subst eo28) | (go_at_call 8; (with_reducible refine (glob_Match.calls kj1 _ _ t234 (rdOf ByteArray.empty y230 a0) false _ ?side1 ?side2 A17.out).mono ?_); (case side1 => repeat (first | exact (Kd.R_reads' HO236.out).2.2 | (with_reducible refine Kd.C_alloc ?_ _) | (with_reducible refine Kd.C_drewN ?_ _) | (with_reducible refine Kd.C_drew ?_))); (case side2 => exact (Kd.R_reads' HO236.out).2.1); rintro e w29 ⟨rfl, hb⟩; have n0_ := Aside0.mk (Kd.R_below (by (with_reducible repeat (first | apply Kd.R_alloc | apply Kd.R_drewN | apply Kd.R_drew)); exact HO_3.out) hb); have n1_ := Aside0.mk (Kd.R_below (by (with_reducible repeat (first | apply Kd.R_alloc | apply Kd.R_drewN | apply Kd.R_drew)); exact HO_4.out) hb); have n2_ := Aside0.mk (Kd.R_below (by (with_reducible repeat (first | apply Kd.R_alloc | apply Kd.R_drewN | apply Kd.R_drew)); exact HO_5.out) hb); have n3_ := Aside0.mk (Kd.R_below (by (with_reducible repeat (first | apply Kd.R_alloc | apply Kd.R_drewN | apply Kd.R_drew)); exact HO236.out) hb); have n4_ := Aside0.mk (below_step (by repeat (first | (with_reducible first | exact HB.out | apply below_alloc | apply pw_below_drewN | apply below_drew1) | exact HB.out)) hb); clear HO_3; clear HO_4; clear HO_5; clear HO236; clear HB; have HO_3 := n0_; have HO_4 := n1_; have HO_5 := n2_; have HO236 := n3_; have HB := n4_; clear n0_ n1_ n2_ n3_ n4_; (try clear hb); (try clear hb2); (try clear hk); (try clear hi)) | (go_at_call 9; (with_reducible refine (lazaruslaw13_known.calls kj1  t239 _ A24.out).mono ?_); rintro e w30 ⟨rfl, hb⟩; have n0_ := Aside0.mk (Kd.R_below (by (with_reducible repeat (first | apply Kd.R_alloc | apply Kd.R_drewN | apply Kd.R_drew)); exact HO_3.out) hb); have n1_ := Aside0.mk (Kd.R_below (by (with_reducible repeat (first | apply Kd.R_alloc | apply Kd.R_drewN | apply Kd.R_drew)); exact HO_4.out) hb); have n2_ := Aside0.mk (Kd.R_below (by (with_reducible repeat (first | apply Kd.R_alloc | apply Kd.R_drewN | apply Kd.R_drew)); exact HO_5.out) hb); have n3_ := Aside0.mk (Kd.R_below (by (with_reducible repeat (first | apply Kd.R_alloc | apply Kd.R_drewN | apply Kd.R_drew)); exact HO236.out) hb); have n4_ := Aside0.mk (below_step (by repeat (first | (with_reducible first | exact HB.out | apply below_alloc | apply pw_below_drewN | apply below_drew1) | exact HB.out)) hb); clear HO_3; clear HO_4; clear HO_5; clear HO236; clear HB; have HO_3 := n0_; have HO_4 := n1_; have HO_5 := n2_; have HO236 := n3_; have HB := n4_; clear n0_ n1_ n2_ n3_ n4_; (try clear hb); (try clear hb2); (try clear hk); (try clear hi)))
                  go_ret
                  exact ⟨by first | rfl | (simp [errW_none, errW_some] <;> rfl) | (simp [*, errW_none, errW_some] <;> rfl), by repeat (first | (with_reducible first | exact HB.out | apply below_alloc | apply pw_below_drewN | apply below_drew1) | exact HB.out)⟩
              · rw [if_neg c16] at H
                exact absurd H (by simp)
            · rw [if_neg c15] at H
              have c15b0 : (a0 == 15) = false := beq_eq_false_iff_ne.mpr c15
              have c15b1 : (a0 != 15) = true := bne_iff_ne.mpr c15
              by_cases c31 : a0 < (y227.length : Int)
              · rw [if_pos c31] at H
                have c31b0 : decide (a0 < (y227.length : Int)) = true := decide_eq_true c31
                clear c31
                replace H := Option.bind_eq_some_iff.mp H
                obtain ⟨t241, A320, H⟩ := H
                replace H : (if t241 = true then (if a0 < (y230.length : Int) then ((glob_Match.f kj1 t234 (rdOf ByteArray.empty y230 a0)).bind fun t243 => (if t243 = true then (some false) else ((lazaruslaw13_known.f kj1).bind fun t244 => (some t244)))) else (none)) else (some false)) = some r := H
                have A32 := Aside0.mk A320
                clear A320
                by_cases c33 : t241 = true
                · subst c33
                  have H1 : (if a0 < (y230.length : Int) then ((glob_Match.f kj1 t234 (rdOf ByteArray.empty y230 a0)).bind fun t243 => (if t243 = true then (some false) else ((lazaruslaw13_known.f kj1).bind fun t244 => (some t244)))) else (none)) = some r := by rw [if_pos rfl] at H; exact H
                  clear H
                  have H := H1
                  clear H1
                  by_cases c34 : a0 < (y230.length : Int)
                  · rw [if_pos c34] at H
                    have c34b0 : decide (a0 < (y230.length : Int)) = true := decide_eq_true c34
                    clear c34
                    replace H := Option.bind_eq_some_iff.mp H
                    obtain ⟨t243, A350, H⟩ := H
                    replace H : (if t243 = true then (some false) else ((lazaruslaw13_known.f kj1).bind fun t244 => (some t244))) = some r := H
                    have A35 := Aside0.mk A350
                    clear A350
                    by_cases c36 : t243 = true
                    · subst c36
                      have H1 : (some false) = some r := by rw [if_pos rfl] at H; exact H
                      clear H
                      have H := H1
                      clear H1
                      obtain rfl := Option.some.inj H
                      obtain ⟨Ao37, co37, eo37⟩ := Kd.R_slice HO_3.out
                      subst eo37
                      have p233 : 0 ≤ (a0 : Int) := of_decide_eq_true (by first | (with_reducible assumption) | assumption)
                      have q233 : a0 < (y224.length : Int) := of_decide_eq_true (by first | (with_reducible assumption) | assumption)
                      obtain ⟨ad233, e233, hx233_0⟩ := Kd.at_string (Kd.R_reads' HO_3.out).2.2 a0 p233 q233
                      cases e233
                      replace p233 := eq_true p233
                      replace q233 := eq_true q233
                      go_wp2_with (first | ((with_reducible refine gate_callee (f := 7) rfl ?_); refine goesL_ (some 22) rfl rfl Try.func7 (by kernel_rfl) rfl #[.string (rdOf ByteArray.empty y224 a0), .bool false] rfl (by (try simp only [List.map_toArray, List.map_cons, List.map_nil]); first | done | rfl | (simp only [List.length_drop, List.length_take]; rfl)) ?_; (with_reducible refine (glob_Chars.calls kj1 (rdOf ByteArray.empty y224 a0) false t234 _ A14.out).mono ?_); rintro e w38 ⟨v235, rfl, ho0, hb⟩; refine ⟨_, rfl, ?_⟩; have n0_ := Aside0.mk (Kd.R_below (by (with_reducible repeat (first | apply Kd.R_alloc | apply Kd.R_drewN | apply Kd.R_drew)); exact HO_3.out) hb); have n1_ := Aside0.mk (Kd.R_below (by (with_reducible repeat (first | apply Kd.R_alloc | apply Kd.R_drewN | apply Kd.R_drew)); exact HO_4.out) hb); have n2_ := Aside0.mk (Kd.R_below (by (with_reducible repeat (first | apply Kd.R_alloc | apply Kd.R_drewN | apply Kd.R_drew)); exact HO_5.out) hb); have n3_ := Aside0.mk (Kd.R_lower ho0 (below_size (by repeat (first | (with_reducible first | exact HB.out | apply below_alloc | apply pw_below_drewN | apply below_drew1) | exact HB.out)))); have n4_ := Aside0.mk (below_step (by repeat (first | (with_reducible first | exact HB.out | apply below_alloc | apply pw_below_drewN | apply below_drew1) | exact HB.out)) hb); clear HO_3; clear HO_4; clear HO_5; clear HB; have HO_3 := n0_; have HO_4 := n1_; have HO_5 := n2_; have HO236 := n3_; have HB := n4_; clear n0_ n1_ n2_ n3_ n4_; (try clear hb); (try clear hb2); (try clear hk); (try clear hi); (try clear ho0); obtain ⟨Ao39, co39, eo39⟩ := Kd.R_slice HO_4.out; subst eo39; have p240 : 0 ≤ (a0 : Int) := of_decide_eq_true (by first | (with_reducible assumption) | assumption); have q240 : a0 < (y227.length : Int) := of_decide_eq_true (by first | (with_reducible assumption) | assumption); obtain ⟨ad240, e240, hx240_0⟩ := Kd.at_string (Kd.R_reads' HO_4.out).2.2 a0 p240 q240; cases e240; replace p240 := eq_true p240; replace q240 := eq_true q240; obtain ⟨Ao40, co40, eo40⟩ := Kd.R_slice HO236.out; subst eo40) | (go_at_call 8; (with_reducible refine (glob_Match.calls kj1 _ _ t234 (rdOf ByteArray.empty y227 a0) true _ ?side1 ?side2 A32.out).mono ?_); (case side1 => repeat (first | exact (Kd.R_reads' HO236.out).2.2 | (with_reducible refine Kd.C_alloc ?_ _) | (with_reducible refine Kd.C_drewN ?_ _) | (with_reducible refine Kd.C_drew ?_))); (case side2 => exact (Kd.R_reads' HO236.out).2.1); rintro e w41 ⟨rfl, hb⟩; have n0_ := Aside0.mk (Kd.R_below (by (with_reducible repeat (first | apply Kd.R_alloc | apply Kd.R_drewN | apply Kd.R_drew)); exact HO_3.out) hb); have n1_ := Aside0.mk (Kd.R_below (by (with_reducible repeat (first | apply Kd.R_alloc | apply Kd.R_drewN | apply Kd.R_drew)); exact HO_4.out) hb); have n2_ := Aside0.mk (Kd.R_below (by (with_reducible repeat (first | apply Kd.R_alloc | apply Kd.R_drewN | apply Kd.R_drew)); exact HO_5.out) hb); have n3_ := Aside0.mk (Kd.R_below (by (with_reducible repeat (first | apply Kd.R_alloc | apply Kd.R_drewN | apply Kd.R_drew)); exact HO236.out) hb); have n4_ := Aside0.mk (below_step (by repeat (first | (with_reducible first | exact HB.out | apply below_alloc | apply pw_below_drewN | apply below_drew1) | exact HB.out)) hb); clear HO_3; clear HO_4; clear HO_5; clear HO236; clear HB; have HO_3 := n0_; have HO_4 := n1_; have HO_5 := n2_; have HO236 := n3_; have HB := n4_; clear n0_ n1_ n2_ n3_ n4_; (try clear hb); (try clear hb2); (try clear hk); (try clear hi); obtain ⟨Ao42, co42, eo42⟩ := Kd.R_slice HO_5.out; subst eo42; have p242 : 0 ≤ (a0 : Int) := of_decide_eq_true (by first | (with_reducible assumption) | assumption); have q242 : a0 < (y230.length : Int) := of_decide_eq_true (by first | (with_reducible assumption) | assumption); obtain ⟨ad242, e242, hx242_0⟩ := Kd.at_string (Kd.R_reads' HO_5.out).2.2 a0 p242 q242; cases e242; replace p242 := eq_true p242; replace q242 := eq_true q242) | (go_at_call 8; (with_reducible refine (glob_Match.calls kj1 _ _ t234 (rdOf ByteArray.empty y230 a0) true _ ?side1 ?side2 A35.out).mono ?_); (case side1 => repeat (first | exact (Kd.R_reads' HO236.out).2.2 | (with_reducible refine Kd.C_alloc ?_ _) | (with_reducible refine Kd.C_drewN ?_ _) | (with_reducible refine Kd.C_drew ?_))); (case side2 => exact (Kd.R_reads' HO236.out).2.1); rintro e w43 ⟨rfl, hb⟩; have n0_ := Aside0.mk (Kd.R_below (by (with_reducible repeat (first | apply Kd.R_alloc | apply Kd.R_drewN | apply Kd.R_drew)); exact HO_3.out) hb); have n1_ := Aside0.mk (Kd.R_below (by (with_reducible repeat (first | apply Kd.R_alloc | apply Kd.R_drewN | apply Kd.R_drew)); exact HO_4.out) hb); have n2_ := Aside0.mk (Kd.R_below (by (with_reducible repeat (first | apply Kd.R_alloc | apply Kd.R_drewN | apply Kd.R_drew)); exact HO_5.out) hb); have n3_ := Aside0.mk (Kd.R_below (by (with_reducible repeat (first | apply Kd.R_alloc | apply Kd.R_drewN | apply Kd.R_drew)); exact HO236.out) hb); have n4_ := Aside0.mk (below_step (by repeat (first | (with_reducible first | exact HB.out | apply below_alloc | apply pw_below_drewN | apply below_drew1) | exact HB.out)) hb); clear HO_3; clear HO_4; clear HO_5; clear HO236; clear HB; have HO_3 := n0_; have HO_4 := n1_; have HO_5 := n2_; have HO236 := n3_; have HB := n4_; clear n0_ n1_ n2_ n3_ n4_; (try clear hb); (try clear hb2); (try clear hk); (try clear hi)))
                      go_ret
                      exact ⟨by first | rfl | (simp [errW_none, errW_some] <;> rfl) | (simp [*, errW_none, errW_some] <;> rfl), by repeat (first | (with_reducible first | exact HB.out | apply below_alloc | apply pw_below_drewN | apply below_drew1) | exact HB.out)⟩
                    · replace c36 := Bool.eq_false_iff.mpr c36
                      subst c36
                      have H1 : ((lazaruslaw13_known.f kj1).bind fun t244 => (some t244)) = some r := by rw [if_neg (show ¬ (false = true) by decide)] at H; exact H
                      clear H
                      have H := H1
                      clear H1
                      replace H := Option.bind_eq_some_iff.mp H
                      obtain ⟨t244, A440, H⟩ := H
                      replace H : (some t244) = some r := H
                      have A44 := Aside0.mk A440
                      clear A440
                      obtain rfl := Option.some.inj H
                      obtain ⟨Ao45, co45, eo45⟩ := Kd.R_slice HO_3.out
                      subst eo45
                      have p233 : 0 ≤ (a0 : Int) := of_decide_eq_true (by first | (with_reducible assumption) | assumption)
                      have q233 : a0 < (y224.length : Int) := of_decide_eq_true (by first | (with_reducible assumption) | assumption)
                      obtain ⟨ad233, e233, hx233_0⟩ := Kd.at_string (Kd.R_reads' HO_3.out).2.2 a0 p233 q233
                      cases e233
                      replace p233 := eq_true p233
                      replace q233 := eq_true q233
                      go_wp2_with (first | ((with_reducible refine gate_callee (f := 7) rfl ?_); refine goesL_ (some 22) rfl rfl Try.func7 (by kernel_rfl) rfl #[.string (rdOf ByteArray.empty y224 a0), .bool false] rfl (by (try simp only [List.map_toArray, List.map_cons, List.map_nil]); first | done | rfl | (simp only [List.length_drop, List.length_take]; rfl)) ?_; (with_reducible refine (glob_Chars.calls kj1 (rdOf ByteArray.empty y224 a0) false t234 _ A14.out).mono ?_); rintro e w46 ⟨v235, rfl, ho0, hb⟩; refine ⟨_, rfl, ?_⟩; have n0_ := Aside0.mk (Kd.R_below (by (with_reducible repeat (first | apply Kd.R_alloc | apply Kd.R_drewN | apply Kd.R_drew)); exact HO_3.out) hb); have n1_ := Aside0.mk (Kd.R_below (by (with_reducible repeat (first | apply Kd.R_alloc | apply Kd.R_drewN | apply Kd.R_drew)); exact HO_4.out) hb); have n2_ := Aside0.mk (Kd.R_below (by (with_reducible repeat (first | apply Kd.R_alloc | apply Kd.R_drewN | apply Kd.R_drew)); exact HO_5.out) hb); have n3_ := Aside0.mk (Kd.R_lower ho0 (below_size (by repeat (first | (with_reducible first | exact HB.out | apply below_alloc | apply pw_below_drewN | apply below_drew1) | exact HB.out)))); have n4_ := Aside0.mk (below_step (by repeat (first | (with_reducible first | exact HB.out | apply below_alloc | apply pw_below_drewN | apply below_drew1) | exact HB.out)) hb); clear HO_3; clear HO_4; clear HO_5; clear HB; have HO_3 := n0_; have HO_4 := n1_; have HO_5 := n2_; have HO236 := n3_; have HB := n4_; clear n0_ n1_ n2_ n3_ n4_; (try clear hb); (try clear hb2); (try clear hk); (try clear hi); (try clear ho0); obtain ⟨Ao47, co47, eo47⟩ := Kd.R_slice HO_4.out; subst eo47; have p240 : 0 ≤ (a0 : Int) := of_decide_eq_true (by first | (with_reducible assumption) | assumption); have q240 : a0 < (y227.length : Int) := of_decide_eq_true (by first | (with_reducible assumption) | assumption); obtain ⟨ad240, e240, hx240_0⟩ := Kd.at_string (Kd.R_reads' HO_4.out).2.2 a0 p240 q240; cases e240; replace p240 := eq_true p240; replace q240 := eq_true q240; obtain ⟨Ao48, co48, eo48⟩ := Kd.R_slice HO236.out; subst eo48) | (go_at_call 8; (with_reducible refine (glob_Match.calls kj1 _ _ t234 (rdOf ByteArray.empty y227 a0) true _ ?side1 ?side2 A32.out).mono ?_); (case side1 => repeat (first | exact (Kd.R_reads' HO236.out).2.2 | (with_reducible refine Kd.C_alloc ?_ _) | (with_reducible refine Kd.C_drewN ?_ _) | (with_reducible refine Kd.C_drew ?_))); (case side2 => exact (Kd.R_reads' HO236.out).2.1); rintro e w49 ⟨rfl, hb⟩; have n0_ := Aside0.mk (Kd.R_below (by (with_reducible repeat (first | apply Kd.R_alloc | apply Kd.R_drewN | apply Kd.R_drew)); exact HO_3.out) hb); have n1_ := Aside0.mk (Kd.R_below (by (with_reducible repeat (first | apply Kd.R_alloc | apply Kd.R_drewN | apply Kd.R_drew)); exact HO_4.out) hb); have n2_ := Aside0.mk (Kd.R_below (by (with_reducible repeat (first | apply Kd.R_alloc | apply Kd.R_drewN | apply Kd.R_drew)); exact HO_5.out) hb); have n3_ := Aside0.mk (Kd.R_below (by (with_reducible repeat (first | apply Kd.R_alloc | apply Kd.R_drewN | apply Kd.R_drew)); exact HO236.out) hb); have n4_ := Aside0.mk (below_step (by repeat (first | (with_reducible first | exact HB.out | apply below_alloc | apply pw_below_drewN | apply below_drew1) | exact HB.out)) hb); clear HO_3; clear HO_4; clear HO_5; clear HO236; clear HB; have HO_3 := n0_; have HO_4 := n1_; have HO_5 := n2_; have HO236 := n3_; have HB := n4_; clear n0_ n1_ n2_ n3_ n4_; (try clear hb); (try clear hb2); (try clear hk); (try clear hi); obtain ⟨Ao50, co50, eo50⟩ := Kd.R_slice HO_5.out; subst eo50; have p242 : 0 ≤ (a0 : Int) := of_decide_eq_true (by first | (with_reducible assumption) | assumption); have q242 : a0 < (y230.length : Int) := of_decide_eq_true (by first | (with_reducible assumption) | assumption); obtain ⟨ad242, e242, hx242_0⟩ := Kd.at_string (Kd.R_reads' HO_5.out).2.2 a0 p242 q242; cases e242; replace p242 := eq_true p242; replace q242 := eq_true q242) | (go_at_call 8; (with_reducible refine (glob_Match.calls kj1 _ _ t234 (rdOf ByteArray.empty y230 a0) false _ ?side1 ?side2 A35.out).mono ?_); (case side1 => repeat (first | exact (Kd.R_reads' HO236.out).2.2 | (with_reducible refine Kd.C_alloc ?_ _) | (with_reducible refine Kd.C_drewN ?_ _) | (with_reducible refine Kd.C_drew ?_))); (case side2 => exact (Kd.R_reads' HO236.out).2.1); rintro e w51 ⟨rfl, hb⟩; have n0_ := Aside0.mk (Kd.R_below (by (with_reducible repeat (first | apply Kd.R_alloc | apply Kd.R_drewN | apply Kd.R_drew)); exact HO_3.out) hb); have n1_ := Aside0.mk (Kd.R_below (by (with_reducible repeat (first | apply Kd.R_alloc | apply Kd.R_drewN | apply Kd.R_drew)); exact HO_4.out) hb); have n2_ := Aside0.mk (Kd.R_below (by (with_reducible repeat (first | apply Kd.R_alloc | apply Kd.R_drewN | apply Kd.R_drew)); exact HO_5.out) hb); have n3_ := Aside0.mk (Kd.R_below (by (with_reducible repeat (first | apply Kd.R_alloc | apply Kd.R_drewN | apply Kd.R_drew)); exact HO236.out) hb); have n4_ := Aside0.mk (below_step (by repeat (first | (with_reducible first | exact HB.out | apply below_alloc | apply pw_below_drewN | apply below_drew1) | exact HB.out)) hb); clear HO_3; clear HO_4; clear HO_5; clear HO236; clear HB; have HO_3 := n0_; have HO_4 := n1_; have HO_5 := n2_; have HO236 := n3_; have HB := n4_; clear n0_ n1_ n2_ n3_ n4_; (try clear hb); (try clear hb2); (try clear hk); (try clear hi)) | (go_at_call 9; (with_reducible refine (lazaruslaw13_known.calls kj1  t244 _ A44.out).mono ?_); rintro e w52 ⟨rfl, hb⟩; have n0_ := Aside0.mk (Kd.R_below (by (with_reducible repeat (first | apply Kd.R_alloc | apply Kd.R_drewN | apply Kd.R_drew)); exact HO_3.out) hb); have n1_ := Aside0.mk (Kd.R_below (by (with_reducible repeat (first | apply Kd.R_alloc | apply Kd.R_drewN | apply Kd.R_drew)); exact HO_4.out) hb); have n2_ := Aside0.mk (Kd.R_below (by (with_reducible repeat (first | apply Kd.R_alloc | apply Kd.R_drewN | apply Kd.R_drew)); exact HO_5.out) hb); have n3_ := Aside0.mk (Kd.R_below (by (with_reducible repeat (first | apply Kd.R_alloc | apply Kd.R_drewN | apply Kd.R_drew)); exact HO236.out) hb); have n4_ := Aside0.mk (below_step (by repeat (first | (with_reducible first | exact HB.out | apply below_alloc | apply pw_below_drewN | apply below_drew1) | exact HB.out)) hb); clear HO_3; clear HO_4; clear HO_5; clear HO236; clear HB; have HO_3 := n0_; have HO_4 := n1_; have HO_5 := n2_; have HO236 := n3_; have HB := n4_; clear n0_ n1_ n2_ n3_ n4_; (try clear hb); (try clear hb2); (try clear hk); (try clear hi)))
                      go_ret
                      exact ⟨by first | rfl | (simp [errW_none, errW_some] <;> rfl) | (simp [*, errW_none, errW_some] <;> rfl), by repeat (first | (with_reducible first | exact HB.out | apply below_alloc | apply pw_below_drewN | apply below_drew1) | exact HB.out)⟩
                  · rw [if_neg c34] at H
                    exact absurd H (by simp)
                · replace c33 := Bool.eq_false_iff.mpr c33
                  subst c33
                  have H1 : (some false) = some r := by rw [if_neg (show ¬ (false = true) by decide)] at H; exact H
                  clear H
                  have H := H1
                  clear H1
                  obtain rfl := Option.some.inj H
                  obtain ⟨Ao53, co53, eo53⟩ := Kd.R_slice HO_3.out
                  subst eo53
                  have p233 : 0 ≤ (a0 : Int) := of_decide_eq_true (by first | (with_reducible assumption) | assumption)
                  have q233 : a0 < (y224.length : Int) := of_decide_eq_true (by first | (with_reducible assumption) | assumption)
                  obtain ⟨ad233, e233, hx233_0⟩ := Kd.at_string (Kd.R_reads' HO_3.out).2.2 a0 p233 q233
                  cases e233
                  replace p233 := eq_true p233
                  replace q233 := eq_true q233
                  go_wp2_with (first | ((with_reducible refine gate_callee (f := 7) rfl ?_); refine goesL_ (some 22) rfl rfl Try.func7 (by kernel_rfl) rfl #[.string (rdOf ByteArray.empty y224 a0), .bool false] rfl (by (try simp only [List.map_toArray, List.map_cons, List.map_nil]); first | done | rfl | (simp only [List.length_drop, List.length_take]; rfl)) ?_; (with_reducible refine (glob_Chars.calls kj1 (rdOf ByteArray.empty y224 a0) false t234 _ A14.out).mono ?_); rintro e w54 ⟨v235, rfl, ho0, hb⟩; refine ⟨_, rfl, ?_⟩; have n0_ := Aside0.mk (Kd.R_below (by (with_reducible repeat (first | apply Kd.R_alloc | apply Kd.R_drewN | apply Kd.R_drew)); exact HO_3.out) hb); have n1_ := Aside0.mk (Kd.R_below (by (with_reducible repeat (first | apply Kd.R_alloc | apply Kd.R_drewN | apply Kd.R_drew)); exact HO_4.out) hb); have n2_ := Aside0.mk (Kd.R_below (by (with_reducible repeat (first | apply Kd.R_alloc | apply Kd.R_drewN | apply Kd.R_drew)); exact HO_5.out) hb); have n3_ := Aside0.mk (Kd.R_lower ho0 (below_size (by repeat (first | (with_reducible first | exact HB.out | apply below_alloc | apply pw_below_drewN | apply below_drew1) | exact HB.out)))); have n4_ := Aside0.mk (below_step (by repeat (first | (with_reducible first | exact HB.out | apply below_alloc | apply pw_below_drewN | apply below_drew1) | exact HB.out)) hb); clear HO_3; clear HO_4; clear HO_5; clear HB; have HO_3 := n0_; have HO_4 := n1_; have HO_5 := n2_; have HO236 := n3_; have HB := n4_; clear n0_ n1_ n2_ n3_ n4_; (try clear hb); (try clear hb2); (try clear hk); (try clear hi); (try clear ho0); obtain ⟨Ao55, co55, eo55⟩ := Kd.R_slice HO_4.out; subst eo55; have p240 : 0 ≤ (a0 : Int) := of_decide_eq_true (by first | (with_reducible assumption) | assumption); have q240 : a0 < (y227.length : Int) := of_decide_eq_true (by first | (with_reducible assumption) | assumption); obtain ⟨ad240, e240, hx240_0⟩ := Kd.at_string (Kd.R_reads' HO_4.out).2.2 a0 p240 q240; cases e240; replace p240 := eq_true p240; replace q240 := eq_true q240; obtain ⟨Ao56, co56, eo56⟩ := Kd.R_slice HO236.out; subst eo56) | (go_at_call 8; (with_reducible refine (glob_Match.calls kj1 _ _ t234 (rdOf ByteArray.empty y227 a0) false _ ?side1 ?side2 A32.out).mono ?_); (case side1 => repeat (first | exact (Kd.R_reads' HO236.out).2.2 | (with_reducible refine Kd.C_alloc ?_ _) | (with_reducible refine Kd.C_drewN ?_ _) | (with_reducible refine Kd.C_drew ?_))); (case side2 => exact (Kd.R_reads' HO236.out).2.1); rintro e w57 ⟨rfl, hb⟩; have n0_ := Aside0.mk (Kd.R_below (by (with_reducible repeat (first | apply Kd.R_alloc | apply Kd.R_drewN | apply Kd.R_drew)); exact HO_3.out) hb); have n1_ := Aside0.mk (Kd.R_below (by (with_reducible repeat (first | apply Kd.R_alloc | apply Kd.R_drewN | apply Kd.R_drew)); exact HO_4.out) hb); have n2_ := Aside0.mk (Kd.R_below (by (with_reducible repeat (first | apply Kd.R_alloc | apply Kd.R_drewN | apply Kd.R_drew)); exact HO_5.out) hb); have n3_ := Aside0.mk (Kd.R_below (by (with_reducible repeat (first | apply Kd.R_alloc | apply Kd.R_drewN | apply Kd.R_drew)); exact HO236.out) hb); have n4_ := Aside0.mk (below_step (by repeat (first | (with_reducible first | exact HB.out | apply below_alloc | apply pw_below_drewN | apply below_drew1) | exact HB.out)) hb); clear HO_3; clear HO_4; clear HO_5; clear HO236; clear HB; have HO_3 := n0_; have HO_4 := n1_; have HO_5 := n2_; have HO236 := n3_; have HB := n4_; clear n0_ n1_ n2_ n3_ n4_; (try clear hb); (try clear hb2); (try clear hk); (try clear hi)))
                  go_ret
                  exact ⟨by first | rfl | (simp [errW_none, errW_some] <;> rfl) | (simp [*, errW_none, errW_some] <;> rfl), by repeat (first | (with_reducible first | exact HB.out | apply below_alloc | apply pw_below_drewN | apply below_drew1) | exact HB.out)⟩
              · rw [if_neg c31] at H
                exact absurd H (by simp)
          · rw [if_neg c13] at H
            exact absurd H (by simp)
        · rw [if_neg c12] at H
          exact absurd H (by simp)

end Go.Proofs.Ytnhmfeihnjdcpaa.QGlobKnown
