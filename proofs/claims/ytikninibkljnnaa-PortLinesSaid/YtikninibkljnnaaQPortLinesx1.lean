-- Written by a program of this session (wip/tools), out of the kit's print of the loaded program: functions, and proofs that the calls come to them.
import Derived.Test.YtikninibkljnnaaQPortLinesx0
namespace Go.Proofs.Ytikninibkljnnaa.QPortLines
open Go.RowKit Go.Proofs.YtikninibkljnnaaW.PrintWords Go.Proofs.YtikninibkljnnaaW.PrintLast Go.Proofs.YtikninibkljnnaaW.PrintMore
attribute [local go_sem] max2_int min2_int max_two min_two max_three min_three max_four min_four   -- for this text's walks alone
set_option linter.unusedVariables false
set_option linter.unusedSimpArgs false

-- NOT PRINTED: function 27 (api_File_string)

/-! ### file_find: function 21 -/
theorem file_find.cmp_any (a b : ByteArray) (w : World) : Calls Try.prog 29 #[.string a, .string b] w fun e w' => e = .returned (.int .i64 (Kd.cmpS a b)) ∧ w = w' := by
  by_cases h1 : Op.bytesLess a.toList b.toList = true
  · have e : Kd.cmpS a b = -1 := by unfold Kd.cmpS; rw [if_pos h1]
    rw [e]
    clear e
    go_enter Try.func29, Try.ntmps29
    go_wp2
    go_ret
    exact ⟨rfl, rfl⟩
  · by_cases h2 : a.toList = b.toList
    · have e : Kd.cmpS a b = 0 := by unfold Kd.cmpS; rw [if_neg h1, if_pos h2]
      rw [e]
      clear e
      have h1 := Bool.eq_false_iff.mpr h1
      have h3 : (!a.toList == b.toList) = false := by simpa using h2
      clear h2
      go_enter Try.func29, Try.ntmps29
      go_wp2
      go_ret
      exact ⟨rfl, rfl⟩
    · have e : Kd.cmpS a b = 1 := by unfold Kd.cmpS; rw [if_neg h1, if_neg h2]
      rw [e]
      clear e
      have h1 := Bool.eq_false_iff.mpr h1
      have h3 : (!a.toList == b.toList) = true := by simpa using h2
      clear h2
      go_enter Try.func29, Try.ntmps29
      go_wp2
      go_ret
      exact ⟨rfl, rfl⟩
theorem file_find.cl_any (a b s : ByteArray) (w : World) :
    Calls Try.prog 28 #[.agg #[.string a, .string b], .string s] w fun e w' => e = .returned (.int .i64 (Kd.cmpS a s)) ∧ Below w.heap.size w w' := by
  go_enter Try.func28, Try.ntmps28
  go_wp2_with (go_at_call 29; go_must ((with_reducible refine (file_find.cmp_any a s _).mono ?_); rintro e w' ⟨rfl, rfl⟩))
  go_ret
  exact ⟨rfl, below_alloc (Below.refl _ _) _⟩
def file_find.find_i (l : List S55) (s : ByteArray) : Nat := Kd.bsr (fun m => decide (Kd.cmpS (l.getD m z55).f0 s < 0)) l.length 0 l.length
theorem file_find.find_i_le (l : List S55) (s : ByteArray) : file_find.find_i l s ≤ l.length := Kd.bsr_le _ _ _ _ (Nat.zero_le _)
def file_find.hit (l : List S55) (s : ByteArray) : Bool := decide (file_find.find_i l s < l.length) && (Kd.cmpS (l.getD (file_find.find_i l s) z55).f0 s == 0)
set_option maxHeartbeats 2000000 in
theorem file_find.bs_any (A : Option Addr) (c : Nat) (l : List S55) (s : ByteArray) (w : World) (hr : Kd.C k55 w A l.length l) (hc : l.length ≤ c) (HM : l.length < 140737488355328) :
    Calls Try.prog 27 #[.slice A l.length c, .string s, .func (.func 28) #[] #[]] w fun e w' => e = .returned (.tuple #[.int .i64 (file_find.find_i l s), .bool (file_find.hit l s)]) ∧ Below w.heap.size w w' := by
  have HR := Aside0.mk hr
  have HC := Aside0.mk hc
  clear hr hc
  go_enter Try.func27, Try.ntmps27
  go_wp2
  go_loopw [9, 10] (fun lo hi wr => ∃ a b : Nat, a ≤ b ∧ b ≤ l.length ∧ lo = .int .i64 a ∧ hi = .int .i64 b ∧ Aside0 (Kd.bsr (fun m => decide (Kd.cmpS (l.getD m z55).f0 s < 0)) (b - a) a b = file_find.find_i l s) ∧ Aside0 (Below w.heap.size w wr)) (fun lo hi _ => (intOf hi - intOf lo).toNat)
  case atStart => exact ⟨0, l.length, Nat.zero_le _, Nat.le_refl _, rfl, rfl, ⟨by unfold file_find.find_i; exact Kd.bsr_more _ _ _ _ _ (by omega) (by omega)⟩, ⟨Below.refl _ _⟩⟩
  case round =>
    obtain ⟨a, b, hab, hbl, rfl, rfl, HI, HB⟩ := hrel
    have HR1 := Aside0.mk (Kd.C_below HR.out HB.out)
    by_cases hlt : a < b
    · obtain ⟨m, hm⟩ : ∃ m : Nat, m = (a + b) / 2 := ⟨_, rfl⟩
      obtain ⟨ad, e0, hx0, hx1⟩ := at_T55 HR1.out (m : Int) (by omega) (by omega)
      subst e0
      have e1 : rd_T55 l (m : Int) = l.getD m z55 := rfl
      rw [e1] at hx0 hx1
      simp only [Int.toNat_natCast] at hx0 hx1
      have em : ((a : Int) + (b : Int)) / 2 = (m : Int) := by omega
      have hd : decide ((a : Int) < (b : Int)) = true := by simpa using hlt
      have h1 : a ≤ m := by omega
      have h2 : m < b := by omega
      have HI3 : Aside0 (Kd.bsr (fun m => decide (Kd.cmpS (l.getD m z55).f0 s < 0)) (b - a) a b = if decide (Kd.cmpS (l.getD m z55).f0 s < 0) = true then Kd.bsr (fun m => decide (Kd.cmpS (l.getD m z55).f0 s < 0)) (b - (m + 1)) (m + 1) b else Kd.bsr (fun m => decide (Kd.cmpS (l.getD m z55).f0 s < 0)) (m - a) a m) := ⟨by
        obtain ⟨d, hdd⟩ : ∃ d, b - a = d + 1 := ⟨b - a - 1, by omega⟩
        rw [hdd, Kd.bsr, if_pos hlt, ← hm]
        split
        · exact Kd.bsr_more _ _ _ _ _ (by omega) (by omega)
        · exact Kd.bsr_more _ _ _ _ _ (by omega) (by omega)⟩
      clear hlt e1 hm
      generalize l.getD m z55 = x at hx0 hx1 HI3
      by_cases hc : Kd.cmpS x.f0 s < 0
      · have hcd : decide (Kd.cmpS x.f0 s < 0) = true := decide_eq_true hc
        have HI4 := Aside0.mk ((HI3.out.symm.trans HI.out))
        rw [if_pos hcd] at HI4
        clear hc HI3 HI
        go_wp2_with (go_at_call 28; go_must ((with_reducible refine (file_find.cl_any x.f0 x.f1 s _).mono ?_); rintro e w1 ⟨rfl, hb1⟩))
        exact ⟨⟨m + 1, b, by omega, hbl, by go_num, rfl, HI4, ⟨below_step HB.out hb1⟩⟩, by simp [intOf]; omega⟩
      · have hcd : decide (Kd.cmpS x.f0 s < 0) = false := decide_eq_false hc
        have HI4 := Aside0.mk ((HI3.out.symm.trans HI.out))
        rw [if_neg (by simp [hc])] at HI4
        clear hc HI3 HI
        go_wp2_with (go_at_call 28; go_must ((with_reducible refine (file_find.cl_any x.f0 x.f1 s _).mono ?_); rintro e w1 ⟨rfl, hb1⟩))
        exact ⟨⟨a, m, by omega, by omega, rfl, rfl, HI4, ⟨below_step HB.out hb1⟩⟩, by simp [intOf]; omega⟩
    · obtain rfl : a = b := by omega
      have hi : file_find.find_i l s = a := by
        have h := HI.out
        rw [Nat.sub_self] at h
        exact h.symm
      have hd : decide ((a : Int) < (a : Int)) = false := by simp
      by_cases hal : a < l.length
      · obtain ⟨ad, e0, hx0, hx1⟩ := at_T55 HR1.out (a : Int) (by omega) (by omega)
        subst e0
        have e1 : rd_T55 l (a : Int) = l.getD a z55 := rfl
        rw [e1] at hx0 hx1
        simp only [Int.toNat_natCast] at hx0 hx1
        have hh : file_find.hit l s = (Kd.cmpS (l.getD a z55).f0 s == 0) := by unfold file_find.hit; rw [hi]; simp [hal]
        have HH := Aside0.mk hh
        have HE := Aside0.mk hi
        clear hlt e1 hi hh HI
        generalize l.getD a z55 = x at hx0 hx1 HH
        go_wp2_with (go_at_call 28; go_must ((with_reducible refine (file_find.cl_any x.f0 x.f1 s _).mono ?_); rintro e w1 ⟨rfl, hb1⟩))
        go_ret2
        rw [HE.out, HH.out]
        exact ⟨rfl, below_step HB.out hb1⟩
      · have hh : file_find.hit l s = false := by unfold file_find.hit; rw [hi]; simp [hal]
        have HH := Aside0.mk hh
        have HE := Aside0.mk hi
        clear hlt hi hh HI
        go_wp2
        go_ret2
        rw [HE.out, HH.out]
        exact ⟨rfl, HB.out⟩
def file_find.f (l0 : List S55) (a1 : ByteArray) : Option (Int × Bool) := if l0.length < 140737488355328 then some ((file_find.find_i l0 a1 : Int), file_find.hit l0 a1) else none
theorem file_find.calls (A0 : Option Addr) (c0 : Nat) (l0 : List S55) (a1 : ByteArray) (r1 : Int) (r2 : Bool) (w : World) (hr0 : Kd.C k55 w A0 l0.length l0) (hc0 : l0.length ≤ c0) (h : file_find.f l0 a1 = some (r1, r2)) :
    Calls Try.prog 21 #[.slice A0 l0.length c0, .string a1] w fun e w' => e = .returned (.tuple #[.int .i64 r1, .bool r2]) ∧ Below w.heap.size w w' := by
  unfold file_find.f at h
  by_cases hl : l0.length < 140737488355328
  · rw [if_pos hl] at h
    injection h with h
    injection h with h1 h2
    subst h1 h2
    have HR := Aside0.mk hr0
    have HC := Aside0.mk hc0
    have HM := Aside0.mk hl
    clear hr0 hc0 hl
    go_enter Try.func21, Try.ntmps21
    go_wp2_with (go_at_call 27; go_must ((with_reducible refine (file_find.bs_any A0 c0 l0 a1 _ HR.out HC.out HM.out).mono ?_); rintro e w1 ⟨rfl, hb1⟩))
    go_ret2
    exact ⟨rfl, hb1⟩
  · rw [if_neg hl] at h
    cases h


/-! ### file_Get: function 15 -/
def file_Get.f (l0 : List (S55)) (a1 : ByteArray) : Option (ByteArray × Bool) := (file_find.f l0 a1).bind fun bt101 => (if bt101.2 = true then (if 0 ≤ bt101.1 then (if bt101.1 < (l0.length : Int) then (some ((rd_T55 l0 bt101.1).f1, true)) else (none)) else (none)) else (some ((⟨#[]⟩ : ByteArray), false)))
set_option maxHeartbeats 8000000 in
set_option maxRecDepth 100000 in
theorem file_Get.calls (A0 : Option Addr) (c0 : Nat) (l0 : List (S55)) (a1 : ByteArray) (r1 : ByteArray) (r2 : Bool) (w : World) (hr0 : Kd.C k55 w A0 l0.length l0) (hc0 : l0.length ≤ c0) (h : file_Get.f l0 a1 = some (r1, r2)) :
    Calls Try.prog 15 #[.slice A0 l0.length c0, .string a1] w fun e w' => e = .returned (.tuple #[.string r1, .bool r2]) ∧ Below w.heap.size w w' := by
  have HR0 := Aside0.mk hr0
  have HC0 := Aside0.mk hc0
  clear hr0 hc0
  have HB := Aside0.mk (Below.refl w.heap.size w)
  have H : ((file_find.f l0 a1).bind fun bt101 => (if bt101.2 = true then (if 0 ≤ bt101.1 then (if bt101.1 < (l0.length : Int) then (some ((rd_T55 l0 bt101.1).f1, true)) else (none)) else (none)) else (some ((⟨#[]⟩ : ByteArray), false)))) = some (r1, r2) := h
  clear h
  replace H := Option.bind_eq_some_iff.mp H
  obtain ⟨⟨t101, t102⟩, A30, H⟩ := H
  replace H : (if t102 = true then (if 0 ≤ t101 then (if t101 < (l0.length : Int) then (some ((rd_T55 l0 t101).f1, true)) else (none)) else (none)) else (some ((⟨#[]⟩ : ByteArray), false))) = some (r1, r2) := H
  have A3 := Aside0.mk A30
  clear A30
  by_cases c4 : t102 = true
  · subst c4
    have H1 : (if 0 ≤ t101 then (if t101 < (l0.length : Int) then (some ((rd_T55 l0 t101).f1, true)) else (none)) else (none)) = some (r1, r2) := by rw [if_pos rfl] at H; exact H
    clear H
    have H := H1
    clear H1
    by_cases c5 : 0 ≤ t101
    · rw [if_pos c5] at H
      have c5b0 : decide (0 ≤ t101) = true := decide_eq_true c5
      clear c5
      by_cases c6 : t101 < (l0.length : Int)
      · rw [if_pos c6] at H
        have c6b0 : decide (t101 < (l0.length : Int)) = true := decide_eq_true c6
        clear c6
        simp only [Option.some.injEq, Prod.mk.injEq] at H
        obtain ⟨rfl, rfl⟩ := H
        go_enter Try.func15, Try.ntmps15
        go_wp2_with (first | ((with_reducible refine gate_callee (f := 21) rfl ?_); refine goesL_ (some 11) rfl rfl Try.func21 (by kernel_rfl) rfl #[.slice A0 l0.length c0, .string a1] rfl (by (try simp only [List.map_toArray, List.map_cons, List.map_nil]); first | done | rfl | (simp only [List.length_drop, List.length_take]; rfl)) ?_; (with_reducible refine (file_find.calls _ _ l0 a1 t101 true _ ?side1 ?side2 A3.out).mono ?_); (case side1 => repeat (first | exact HR0.out | (with_reducible refine Kd.C_alloc ?_ _) | (with_reducible refine Kd.C_drewN ?_ _) | (with_reducible refine Kd.C_drew ?_))); (case side2 => exact HC0.out); rintro e w7 ⟨rfl, hb⟩; refine ⟨_, rfl, ?_⟩; have n0_ := Aside0.mk (below_step (by repeat (first | (with_reducible first | exact HB.out | apply below_alloc | apply pw_below_drewN | apply below_drew1) | exact HB.out)) hb); clear HB; have HB := n0_; clear n0_; (try clear hb); (try clear hb2); (try clear hk); (try clear hi); have p103 : 0 ≤ (t101 : Int) := of_decide_eq_true (by first | (with_reducible assumption) | assumption); have q103 : t101 < (l0.length : Int) := of_decide_eq_true (by first | (with_reducible assumption) | assumption); obtain ⟨ad103, e103, hx103_0, hx103_1⟩ := at_T55 HR0.out t101 p103 q103; cases e103; replace hx103_0 := (HB.out.cell (World.block_lt_of_cell? w _ hx103_0)).trans hx103_0; replace hx103_1 := (HB.out.cell (World.block_lt_of_cell? w _ hx103_1)).trans hx103_1; replace p103 := eq_true p103; replace q103 := eq_true q103))
        go_ret2
        exact ⟨by first | rfl | (simp [errW_none, errW_some] <;> rfl) | (simp [*, errW_none, errW_some] <;> rfl), by repeat (first | (with_reducible first | exact HB.out | apply below_alloc | apply pw_below_drewN | apply below_drew1) | exact HB.out)⟩
      · rw [if_neg c6] at H
        exact absurd H (by simp)
    · rw [if_neg c5] at H
      exact absurd H (by simp)
  · replace c4 := Bool.eq_false_iff.mpr c4
    subst c4
    have H1 : (some ((⟨#[]⟩ : ByteArray), false)) = some (r1, r2) := by rw [if_neg (show ¬ (false = true) by decide)] at H; exact H
    clear H
    have H := H1
    clear H1
    simp only [Option.some.injEq, Prod.mk.injEq] at H
    obtain ⟨rfl, rfl⟩ := H
    go_enter Try.func15, Try.ntmps15
    go_wp2_with (first | ((with_reducible refine gate_callee (f := 21) rfl ?_); refine goesL_ (some 11) rfl rfl Try.func21 (by kernel_rfl) rfl #[.slice A0 l0.length c0, .string a1] rfl (by (try simp only [List.map_toArray, List.map_cons, List.map_nil]); first | done | rfl | (simp only [List.length_drop, List.length_take]; rfl)) ?_; (with_reducible refine (file_find.calls _ _ l0 a1 t101 false _ ?side1 ?side2 A3.out).mono ?_); (case side1 => repeat (first | exact HR0.out | (with_reducible refine Kd.C_alloc ?_ _) | (with_reducible refine Kd.C_drewN ?_ _) | (with_reducible refine Kd.C_drew ?_))); (case side2 => exact HC0.out); rintro e w8 ⟨rfl, hb⟩; refine ⟨_, rfl, ?_⟩; have n0_ := Aside0.mk (below_step (by repeat (first | (with_reducible first | exact HB.out | apply below_alloc | apply pw_below_drewN | apply below_drew1) | exact HB.out)) hb); clear HB; have HB := n0_; clear n0_; (try clear hb); (try clear hb2); (try clear hk); (try clear hi)))
    go_ret2
    exact ⟨by first | rfl | (simp [errW_none, errW_some] <;> rfl) | (simp [*, errW_none, errW_some] <;> rfl), by repeat (first | (with_reducible first | exact HB.out | apply below_alloc | apply pw_below_drewN | apply below_drew1) | exact HB.out)⟩

-- NOT PRINTED: function 44 (bytealg_IndexString)

-- NOT PRINTED: function 45 (bytealg_Cutover)

-- NOT PRINTED: function 49 (bytealg_IndexByteString)

/-! ### stringslite_IndexByte: function 43 -/
def stringslite_IndexByte.f (a0 : ByteArray) (a1 : Int) : Option Int := some (Lib.indexByte a0.data.toList a1.toNat.toUInt8)
set_option maxHeartbeats 1000000 in
set_option maxRecDepth 100000 in
theorem stringslite_IndexByte.calls (a0 : ByteArray) (a1 : Int) (r : Int) (w : World) (h : stringslite_IndexByte.f a0 a1 = some r) :
    Calls Try.prog 43 #[.string a0, .int .u8 a1] w fun e w' => e = .returned (.int .i64 r) ∧ ∃ nd, w' = w.drewN nd := by
  injection h with h
  subst h
  go_enter Try.func43, Try.ntmps43
  go_wp2
  rw [run_callFunc_extern Try.func49 (by kernel_rfl) (by kernel_rfl) (by kernel_rfl) (e := Extern.BytealgIndexByte.indexByte) (by kernel_rfl), Lib.run_indexByteString]
  simp only [Result.andThen]
  rw [Oper.upon_value]
  go_wp2
  go_ret
  exact ⟨rfl, 0, rfl⟩


/-! ### strings_IndexByte: function 47 -/
def strings_IndexByte.f (a0 : ByteArray) (a1 : Int) : Option (Int) := (stringslite_IndexByte.f a0 a1).bind fun t104 => (some t104)
set_option maxHeartbeats 8000000 in
set_option maxRecDepth 100000 in
theorem strings_IndexByte.calls (a0 : ByteArray) (a1 : Int) (r : Int) (w : World) (h : strings_IndexByte.f a0 a1 = some r) :
    Calls Try.prog 47 #[.string a0, .int .u8 a1] w fun e w' => e = .returned (.int .i64 r) ∧ Drawn0 w w' := by
  have H : ((stringslite_IndexByte.f a0 a1).bind fun t104 => (some t104)) = some r := h
  clear h
  replace H := Option.bind_eq_some_iff.mp H
  obtain ⟨t104, A30, H⟩ := H
  replace H : (some t104) = some r := H
  have A3 := Aside0.mk A30
  clear A30
  obtain rfl := Option.some.inj H
  go_enter Try.func47, Try.ntmps47
  go_wp2_with (first | ((with_reducible refine gate_callee (f := 43) rfl ?_); refine goesL_ (some 7) rfl rfl Try.func43 (by kernel_rfl) rfl #[.string a0, .int .u8 a1] rfl (by (try simp only [List.map_toArray, List.map_cons, List.map_nil]); first | done | rfl | (simp only [List.length_drop, List.length_take]; rfl)) ?_; (with_reducible refine (stringslite_IndexByte.calls a0 a1 t104 _ A3.out).mono ?_); rintro e w' ⟨rfl, ⟨nd, rfl⟩⟩; refine ⟨_, rfl, ?_⟩))
  go_ret
  exact ⟨by first | rfl | (simp; done) | (simp [*]; done) | (simp; unfold wrap64; omega) | (simp; generalize ByteArray.toList _ = l_; cases l_ <;> simp), by repeat (first | exact Drawn0.refl _ | apply Drawn0.step)⟩

/-! ### utf8_ValidRune: function 48 -/
def utf8_ValidRune.j0 : Nat → Int → Bool → Option (Bool)
  | 0, _, _ => none
  | k + 1, x0, x3 => if x3 = true then (some true) else (if 57343 < x0 then (if x0 ≤ 1114111 then (some true) else (some false)) else (some false))
def utf8_ValidRune.f (k : Nat) (a0 : Int) : Option (Bool) := if 0 ≤ a0 then (utf8_ValidRune.j0 k a0 (decide (a0 < 55296))) else (utf8_ValidRune.j0 k a0 false)
theorem utf8_ValidRune.mono_l : ∀ k, (∀ y0 y1, LeO (utf8_ValidRune.j0 k y0 y1) (utf8_ValidRune.j0 (k + 1) y0 y1))
  | 0 => fun _ _ r h => by simp [utf8_ValidRune.j0] at h
  | k + 1 => by
    have ih0 := utf8_ValidRune.mono_l k
    · intro y0 y1
      unfold utf8_ValidRune.j0
      repeat' first
      | (with_reducible exact ih0 _ _)
      | (with_reducible exact LeO.refl _)
      | (with_reducible exact LeO.none _)
      | (with_reducible refine LeO.ite ?_ ?_)
      | (with_reducible refine LeO.bind ?_ (fun _ => ?_))
      | exact ih0 _ _
      | exact LeO.none _
      | refine LeO.ite ?_ ?_
      | refine LeO.bind ?_ (fun _ => ?_)
theorem utf8_ValidRune.mono : ∀ a0 k, LeO (utf8_ValidRune.f k a0) (utf8_ValidRune.f (k + 1) a0) := by
  intro a0 k
  have ih0 := utf8_ValidRune.mono_l k
  unfold utf8_ValidRune.f
  repeat' first
      | (with_reducible exact ih0 _ _)
      | (with_reducible exact LeO.refl _)
      | (with_reducible exact LeO.none _)
      | (with_reducible refine LeO.ite ?_ ?_)
      | (with_reducible refine LeO.bind ?_ (fun _ => ?_))
      | exact ih0 _ _
      | exact LeO.none _
      | refine LeO.ite ?_ ?_
      | refine LeO.bind ?_ (fun _ => ?_)
set_option maxHeartbeats 8000000 in
set_option maxRecDepth 100000 in
theorem utf8_ValidRune.calls (k : Nat) (a0 : Int) (r : Bool) (w : World) (h : utf8_ValidRune.f k a0 = some r) :
    Calls Try.prog 48 #[.int .i32 a0] w fun e w' => e = .returned (.bool r) ∧ Drawn0 w w' := by
  have H : (if 0 ≤ a0 then (utf8_ValidRune.j0 k a0 (decide (a0 < 55296))) else (utf8_ValidRune.j0 k a0 false)) = some r := h
  clear h
  have HC2 := Aside0.mk H
  clear H
  go_enter Try.func48, Try.ntmps48
  go_upto_region 1 with (fail)
  go_cut [3] (fun v3 wc => ∃ (kq : Nat) (x3_1 : Bool), v3 = .bool x3_1 ∧ Aside0 (utf8_ValidRune.j0 kq a0 x3_1 = some r) ∧ Aside0 (kq ≤ k) ∧ Drawn0 w wc)
  case first =>
    have H := HC2.out
    clear HC2
    by_cases c3 : 0 ≤ a0
    · rw [if_pos c3] at H
      have c3b0 : decide (0 ≤ a0) = true := decide_eq_true c3
      clear c3
      (first | rw [c3b0] | (simp only [i64_w, i32_w]; rw [c3b0]) | skip)
      have H' := Aside0.mk H
      clear H
      go_wp2
      go_meet
      case rel => exact ⟨_, (decide (a0 < 55296)), (by first | rfl | (simp; done) | (simp [*]; done) | (simp; unfold wrap64; omega)), H', ⟨by first | omega | exact Nat.le_refl _⟩, by repeat (first | exact Drawn0.refl _ | apply Drawn0.step)⟩
    · rw [if_neg c3] at H
      have c3b0 : decide (0 ≤ a0) = false := decide_eq_false c3
      clear c3
      (first | rw [c3b0] | (simp only [i64_w, i32_w]; rw [c3b0]) | skip)
      have H' := Aside0.mk H
      clear H
      go_wp2
      go_meet
      case rel => exact ⟨_, (false), (by first | rfl | (simp; done) | (simp [*]; done) | (simp; unfold wrap64; omega)), H', ⟨by first | omega | exact Nat.le_refl _⟩, by repeat (first | exact Drawn0.refl _ | apply Drawn0.step)⟩
  case rest =>
    clear HC2
    try clear p2
    try clear c3
    try clear c3b0
    obtain ⟨kq, x3_1, rfl, HA, HJ1, ⟨mc1, rfl⟩⟩ := hcut
    cases kq with
    | zero => exact absurd HA.out (by simp [utf8_ValidRune.j0])
    | succ kj1 =>
      have H := HA.out
      clear HA
      simp only [utf8_ValidRune.j0] at H
      by_cases c4 : x3_1 = true
      · subst c4
        have H1 : (some true) = some r := by rw [if_pos rfl] at H; exact H
        clear H
        have H := H1
        clear H1
        obtain rfl := Option.some.inj H
        go_wp2
        go_ret
        exact ⟨by first | rfl | (simp; done) | (simp [*]; done) | (simp; unfold wrap64; omega) | (simp; generalize ByteArray.toList _ = l_; cases l_ <;> simp), by repeat (first | exact Drawn0.refl _ | apply Drawn0.step)⟩
      · replace c4 := Bool.eq_false_iff.mpr c4
        subst c4
        have H1 : (if 57343 < a0 then (if a0 ≤ 1114111 then (some true) else (some false)) else (some false)) = some r := by rw [if_neg (show ¬ (false = true) by decide)] at H; exact H
        clear H
        have H := H1
        clear H1
        by_cases c5 : 57343 < a0
        · rw [if_pos c5] at H
          have c5b0 : decide (57343 < a0) = true := decide_eq_true c5
          clear c5
          by_cases c6 : a0 ≤ 1114111
          · rw [if_pos c6] at H
            have c6b0 : decide (a0 ≤ 1114111) = true := decide_eq_true c6
            clear c6
            obtain rfl := Option.some.inj H
            go_wp2
            go_ret
            exact ⟨by first | rfl | (simp; done) | (simp [*]; done) | (simp; unfold wrap64; omega) | (simp; generalize ByteArray.toList _ = l_; cases l_ <;> simp), by repeat (first | exact Drawn0.refl _ | apply Drawn0.step)⟩
          · rw [if_neg c6] at H
            have c6b0 : decide (a0 ≤ 1114111) = false := decide_eq_false c6
            clear c6
            obtain rfl := Option.some.inj H
            go_wp2
            go_ret
            exact ⟨by first | rfl | (simp; done) | (simp [*]; done) | (simp; unfold wrap64; omega) | (simp; generalize ByteArray.toList _ = l_; cases l_ <;> simp), by repeat (first | exact Drawn0.refl _ | apply Drawn0.step)⟩
        · rw [if_neg c5] at H
          have c5b0 : decide (57343 < a0) = false := decide_eq_false c5
          clear c5
          obtain rfl := Option.some.inj H
          go_wp2
          go_ret
          exact ⟨by first | rfl | (simp; done) | (simp [*]; done) | (simp; unfold wrap64; omega) | (simp; generalize ByteArray.toList _ = l_; cases l_ <;> simp), by repeat (first | exact Drawn0.refl _ | apply Drawn0.step)⟩

-- NOT PRINTED: function 38 (strings_IndexRune)

/-! ### strings_shouldUseASCIISet: function 39 -/
def strings_shouldUseASCIISet.f (a0 : Int) : Option (Bool) := some (decide (a0 > 8))
set_option maxHeartbeats 8000000 in
set_option maxRecDepth 100000 in
theorem strings_shouldUseASCIISet.calls (a0 : Int) (r : Bool) (w : World) (h : strings_shouldUseASCIISet.f a0 = some r) :
    Calls Try.prog 39 #[.int .i64 a0] w fun e w' => e = .returned (.bool r) ∧ Drawn0 w w' := by
  have H : (some (decide (a0 > 8))) = some r := h
  clear h
  obtain rfl := Option.some.inj H
  go_enter Try.func39, Try.ntmps39
  go_wp2
  go_ret
  exact ⟨by first | rfl | (simp; done) | (simp [*]; done) | (simp; unfold wrap64; omega) | (simp; generalize ByteArray.toList _ = l_; cases l_ <;> simp), by repeat (first | exact Drawn0.refl _ | apply Drawn0.step)⟩

-- NOT PRINTED: function 40 (strings_makeASCIISet)

-- NOT PRINTED: function 41 (strings_asciiSet_contains)

-- NOT PRINTED: function 35 (strings_IndexAny)

-- NOT PRINTED: function 30 (strings_ContainsAny)

/-! ### file_isName: function 22 -/
def file_isName.ren : Go.Shelf.Ren := ⟨fun | 119 => 48 | 137 => 47 | 150 => 30 | 152 => 38 | 153 => 35 | 217 => 43 | 224 => 45 | 225 => 44 | 226 => 39 | 227 => 40 | 228 => 41 | 266 => 49 | n => n, fun | 0 => 0 | 3 => 3 | 4 => 4 | 5 => 5 | 9 => 9 | 21 => 21 | 46 => 75 | 116 => 79 | 117 => 80 | 124 => 87 | n => n, fun n => n⟩
theorem file_isName.lays : Go.Proofs.Lays.n150 Try.prog file_isName.ren := {
  mixed := by kernel_rfl
  f119 := Try.func48.trans (congrArg some (by kernel_rfl))
  f137 := Try.func47.trans (congrArg some (by kernel_rfl))
  f150 := Try.func30.trans (congrArg some (by kernel_rfl))
  f152 := Try.func38.trans (congrArg some (by kernel_rfl))
  f153 := Try.func35.trans (congrArg some (by kernel_rfl))
  f217 := Try.func43.trans (congrArg some (by kernel_rfl))
  f224 := Try.func45.trans (congrArg some (by kernel_rfl))
  f225 := Try.func44.trans (congrArg some (by kernel_rfl))
  f226 := Try.func39.trans (congrArg some (by kernel_rfl))
  f227 := Try.func40.trans (congrArg some (by kernel_rfl))
  f228 := Try.func41.trans (congrArg some (by kernel_rfl))
  f266 := Try.func49.trans (congrArg some (by kernel_rfl))
  t0 := Try.underlying0
  a0 := Try.isAgg0
  z0 := Try.sizeOf0
  v0 := Try.zeroValue0
  t3 := Try.underlying3
  a3 := Try.isAgg3
  z3 := Try.sizeOf3
  v3 := Try.zeroValue3
  t4 := Try.underlying4
  a4 := Try.isAgg4
  z4 := Try.sizeOf4
  v4 := Try.zeroValue4
  t5 := Try.underlying5
  a5 := Try.isAgg5
  z5 := Try.sizeOf5
  v5 := Try.zeroValue5
  t9 := Try.underlying9
  a9 := Try.isAgg9
  z9 := Try.sizeOf9
  v9 := Try.zeroValue9
  t21 := Try.underlying21
  a21 := Try.isAgg21
  z21 := Try.sizeOf21
  v21 := Try.zeroValue21
  t46 := Try.underlying75
  a46 := Try.isAgg75
  z46 := Try.sizeOf75
  v46 := Try.zeroValue75
  t116 := Try.underlying79
  a116 := Try.isAgg79
  z116 := Try.sizeOf79
  t117 := Try.underlying80
  a117 := Try.isAgg80
  z117 := Try.sizeOf80
  v117 := Try.zeroValue80
  t124 := Try.underlying87
  a124 := Try.isAgg87
  z124 := Try.sizeOf87
  v124 := Try.zeroValue87 }
theorem file_isName.set116 : (Try.prog.info? (file_isName.ren.t 116)).map (fun i => (i.zero, i.size)) = some (some (.agg (Array.replicate 256 (.bool false))), 256) := by kernel_rfl
/-! strings.IndexRune in the two letters that no name has. -/
def file_isName.at2 (n : Nat) : Int := if n = 47 then 0 else if n = 0 then 1 else -1
theorem file_isName.two (n : Nat) (h : n < 128) : Lib.indexByte [47, 0] n.toUInt8 = if n = 47 then 0 else if n = 0 then 1 else -1 := by
  revert n
  decide
theorem file_isName.vr (n : Nat) (hv : n < 55296 ∨ (57343 < n ∧ n ≤ 1114111)) (w : World) : Calls Try.prog 48 #[.int .i32 (n : Int)] w fun e w' => e = .returned (.bool true) ∧ w' = w := by
  have h0 : (0 : Int) ≤ (n : Int) := by omega
  by_cases h : n < 55296
  · have h1 : (n : Int) < 55296 := by omega
    clear hv
    go_enter Try.func48, Try.ntmps48
    go_wp2
    go_ret
    exact ⟨rfl, rfl⟩
  · have h1 : ¬ ((n : Int) < 55296) := by omega
    have h2 : (57343 : Int) < (n : Int) := by omega
    have h3 : (n : Int) ≤ 1114111 := by omega
    clear hv h
    go_enter Try.func48, Try.ntmps48
    go_wp2
    go_ret
    exact ⟨rfl, rfl⟩
set_option maxHeartbeats 2000000 in
set_option maxRecDepth 1000000 in
theorem file_isName.rune_bad (w : World) : Calls Try.prog 38 #[.string ⟨#[47, 0]⟩, .int .i32 65533] w fun e w' => e = .returned (.int .i64 (-1)) ∧ Below w.heap.size w w' := by
  go_enter Try.func38, Try.ntmps38
  go_wp2
  go_loopg [5, 6] 2 (fun g _ _ wx => ∃ i : Nat, i + g = 2 ∧ wx = w.iter ⟨#[47, 0]⟩ i)
  case atStart => exact ⟨0, by omega, rfl⟩
  case round =>
    obtain ⟨i, hig, rfl⟩ := hrel
    match gk, hig with
    | 0, hig =>
      obtain rfl : i = 2 := by omega
      have hnx := run_next_end (P := Try.prog) w ⟨#[47, 0]⟩ 2
      go_wp2
      go_ret
      exact ⟨rfl, (Below.refl _ _).alloc (Nat.le_refl _) _⟩
    | 1, hig =>
      obtain rfl : i = 1 := by omega
      have hnx := fun ty => run_next_ascii (P := Try.prog) w ⟨#[47, 0]⟩ 1 ty (by decide) (by decide)
      go_wp2
      go_roundg 0
      case measure => omega
      case rel => exact ⟨2, by omega, rfl⟩
    | 2, hig =>
      obtain rfl : i = 0 := by omega
      have hnx := fun ty => run_next_ascii (P := Try.prog) w ⟨#[47, 0]⟩ 0 ty (by decide) (by decide)
      go_wp2
      go_roundg 1
      case measure => omega
      case rel => exact ⟨1, by omega, rfl⟩
    | g + 3, hig => exact absurd hig (by omega)
theorem file_isName.enc (n : Nat) (h : 128 ≤ n) (hv : n < 55296 ∨ (57343 < n ∧ n ≤ 1114111)) :
    (∃ a b : UInt8, Utf8.encode (n : Int) = ⟨#[a, b]⟩ ∧ b ≠ 0) ∨ (∃ a b c : UInt8, Utf8.encode (n : Int) = ⟨#[a, b, c]⟩) ∨ (∃ a b c d : UInt8, Utf8.encode (n : Int) = ⟨#[a, b, c, d]⟩) := by
  have hval : Utf8.valid (n : Int) = true := by
    unfold Utf8.valid
    simp
    omega
  unfold Utf8.encode
  simp only [hval, if_true, Int.toNat_natCast]
  rw [if_neg (by omega)]
  by_cases h1 : n < 2048
  · rw [if_pos h1]
    refine .inl ⟨_, _, rfl, fun e => ?_⟩
    have := congrArg UInt8.toNat e
    rw [UInt8.toNat_ofNat'] at this
    simp at this
    omega
  · rw [if_neg h1]
    by_cases h2 : n < 65536
    · rw [if_pos h2]; exact .inr (.inl ⟨_, _, _, rfl⟩)
    · rw [if_neg h2]; exact .inr (.inr ⟨_, _, _, _, rfl⟩)
set_option maxRecDepth 1000000 in
theorem file_isName.ib0 (a : ByteArray) (c : Int) (w : World) : Calls Try.prog 43 #[.string a, .int .u8 c] w fun e w' => e = .returned (.int .i64 (Lib.indexByte a.data.toList c.toNat.toUInt8)) ∧ w' = w := by
  go_enter Try.func43, Try.ntmps43
  go_wp2
  rw [run_callFunc_extern Try.func49 (by kernel_rfl) (by kernel_rfl) (by kernel_rfl) (e := Extern.BytealgIndexByte.indexByte) (by kernel_rfl), Lib.run_indexByteString]
  simp only [Result.andThen]
  rw [Oper.upon_value]
  go_wp2
  go_ret
  exact ⟨rfl, rfl⟩
set_option maxRecDepth 1000000 in
theorem file_isName.ib (a : ByteArray) (c : Int) (w : World) : Calls Try.prog 47 #[.string a, .int .u8 c] w fun e w' => e = .returned (.int .i64 (Lib.indexByte a.data.toList c.toNat.toUInt8)) ∧ w' = w := by
  go_enter Try.func47, Try.ntmps47
  go_wp2_with (go_at_call 43; go_must ((with_reducible refine (file_isName.ib0 a c _).mono ?_); rintro e w1 ⟨rfl, hw⟩; subst hw))
  go_ret
  exact ⟨rfl, rfl⟩
set_option maxHeartbeats 4000000 in
set_option maxRecDepth 1000000 in
theorem file_isName.rune_wide (n : Nat) (h : 128 ≤ n) (hv : n < 55296 ∨ (57343 < n ∧ n ≤ 1114111)) (hn : n ≠ 65533) (w : World) : Calls Try.prog 38 #[.string ⟨#[47, 0]⟩, .int .i32 (n : Int)] w fun e w' => e = .returned (.int .i64 (-1)) ∧ Below w.heap.size w w' := by
  have h0 : (0 : Int) ≤ (n : Int) := by omega
  have h1 : ¬ ((n : Int) < 128) := by omega
  have h2 : ¬ ((n : Int) = 65533) := by omega
  have HV := Aside0.mk hv
  have hcv : ∀ (W : World), (convert 21 9 (.int .i32 (n : Int))).run Try.prog W = .ok (.string (Utf8.encode (n : Int))) W := fun W => run_convert_int_string W _ _ _ _ (by kernel_rfl) Try.underlying9
  have hbb : ∀ b : UInt8, b ≠ 0 → ((0 : Int) != (b.toNat : Int)) = true := fun b hb => bne_iff_ne.2 (fun e => hb (UInt8.toNat_inj.1 (show b.toNat = 0 by omega)))
  have hw2 : IntKind.i64.wrap 2 = 2 := by decide
  have hs2 : (⟨#[47, 0]⟩ : ByteArray).size = 2 := rfl
  have hi2 : ((2 : Int) ≤ ((⟨#[47, 0]⟩ : ByteArray).size : Int)) = True := eq_true (by decide)
  rcases file_isName.enc n h hv with ⟨a, b, hE, hb⟩ | ⟨a, b, c, hE⟩ | ⟨a, b, c, d, hE⟩
  · rw [hE] at hcv
    have hbb : ((((⟨#[47, 0]⟩ : ByteArray)[1]'(by decide)).toNat : Int) != (((⟨#[a, b]⟩ : ByteArray)[1]'(by show 1 < 2; decide)).toNat : Int)) = true := hbb b hb
    clear hE hv h
    go_enter Try.func38, Try.ntmps38
    go_wp2_with (go_at_call 48; go_must ((with_reducible refine (file_isName.vr n HV.out _).mono ?_); rintro e w1 ⟨rfl, hw⟩; subst hw))
    apply wp_scope_straight
    go_wp2
    go_loopg [9] 0 (fun g s9 wx => s9 = .int .i64 1 ∧ wx = w1)
    case atStart => exact ⟨rfl, rfl⟩
    case round =>
      obtain ⟨rfl, rfl⟩ := hrel
      go_wp2
      apply wp_scope_straight
      go_wp2
      go_quiet (fail)
      go_wp2
      obtain ⟨W2, hW2⟩ : ∃ W2, Aside0 (W2 = wr.drewN nq) := ⟨_, ⟨rfl⟩⟩
      rw [← hW2.out]
      go_quiet ((go_at_call 47; exact Calls.quiet_of_same (file_isName.ib _ _ _)))
      go_wp2
      simp only [Exit.noGoto_ret]
      go_simp
      go_ret
      exact ⟨rfl, by rw [hW2.out]; exact pw_below_drewN (pw_below_drewN (Below.refl _ _) _) _⟩
  · rw [hE] at hcv
    clear hE hv h hbb
    go_enter Try.func38, Try.ntmps38
    go_wp2_with (go_at_call 48; go_must ((with_reducible refine (file_isName.vr n HV.out _).mono ?_); rintro e w1 ⟨rfl, hw⟩; subst hw))
    apply wp_scope_straight
    go_wp2
    go_loopg [9] 0 (fun g s9 wx => s9 = .int .i64 2 ∧ wx = w1)
    case atStart => exact ⟨rfl, rfl⟩
    case round =>
      obtain ⟨rfl, rfl⟩ := hrel
      go_wp2
      simp only [Exit.noGoto_ret]
      go_ret
      exact ⟨rfl, Below.refl _ _⟩
  · rw [hE] at hcv
    clear hE hv h hbb
    go_enter Try.func38, Try.ntmps38
    go_wp2_with (go_at_call 48; go_must ((with_reducible refine (file_isName.vr n HV.out _).mono ?_); rintro e w1 ⟨rfl, hw⟩; subst hw))
    apply wp_scope_straight
    go_wp2
    go_loopg [9] 0 (fun g s9 wx => s9 = .int .i64 3 ∧ wx = w1)
    case atStart => exact ⟨rfl, rfl⟩
    case round =>
      obtain ⟨rfl, rfl⟩ := hrel
      go_wp2
      simp only [Exit.noGoto_ret]
      go_ret
      exact ⟨rfl, Below.refl _ _⟩
theorem file_isName.rune (n : Nat) (hv : n < 55296 ∨ (57343 < n ∧ n ≤ 1114111)) (w : World) : Calls Try.prog 38 #[.string ⟨#[47, 0]⟩, .int .i32 (n : Int)] w fun e w' => e = .returned (.int .i64 (file_isName.at2 n)) ∧ Below w.heap.size w w' := by
  by_cases h : n < 128
  · refine (Any.strings_IndexRune_ascii { file_isName.lays with } ⟨#[47, 0]⟩ (n : Int) w (by omega) (by omega)).mono ?_
    rintro e w' ⟨rfl, hw⟩
    refine ⟨?_, by rw [hw]; exact Below.refl _ _⟩
    rw [file_isName.at2, ← file_isName.two n h]
    rfl
  · have ha : file_isName.at2 n = -1 := by rw [file_isName.at2, if_neg (by omega), if_neg (by omega)]
    rw [ha]
    by_cases hn : n = 65533
    · subst hn
      exact file_isName.rune_bad w
    · exact file_isName.rune_wide n (by omega) hv hn w
theorem file_isName.get_lt (s : ByteArray) (k : Nat) (h : k < s.size) : s.get! k = s[k]'h := by
  obtain ⟨a⟩ := s
  show a[k]! = a[k]'h
  exact getElem!_pos a k h
theorem file_isName.dec (s : ByteArray) (pos : Nat) (h : pos < s.size) (hb : 128 ≤ (s.get! pos).toNat) : ∀ j, pos ≤ j → j < pos + (Utf8.decode s pos).2 → 128 ≤ (s.get! j).toNat := by
  rw [Lib.decode_at]
  intro j h1 h2
  obtain ⟨d, rfl⟩ : ∃ d, j = pos + d := ⟨j - pos, by omega⟩
  unfold Lib.decodeN at h2
  have key : d = 0 ∨ (d = 1 ∧ (s.get! (pos + 1)).toNat / 64 = 2) ∨ (d = 2 ∧ (s.get! (pos + 2)).toNat / 64 = 2) ∨ (d = 3 ∧ (s.get! (pos + 3)).toNat / 64 = 2) := by
    repeat' split at h2
    all_goals (simp only at h2; omega)
  rcases key with rfl | ⟨rfl, hk⟩ | ⟨rfl, hk⟩ | ⟨rfl, hk⟩
  · exact hb
  · omega
  · omega
  · omega
theorem file_isName.skip (s : ByteArray) (pos : Nat) (h : pos < s.size) (hno : Lib.NoAny s.data.toList [47, 0] pos) (ha : file_isName.at2 (Utf8.decode s pos).1 = -1) : Lib.NoAny s.data.toList [47, 0] (pos + (Utf8.decode s pos).2) := by
  intro j b hj hjb
  by_cases hjp : j < pos
  · exact hno j b hjp hjb
  have hjl : j < s.data.toList.length := (List.getElem?_eq_some_iff.1 hjb).1
  have hjs : j < s.size := by rw [Lib.size_eq]; exact hjl
  have hbj : b = s.get! j := by
    rw [file_isName.get_lt s j hjs]
    have := Lib.data_getElem? s j hjs
    rw [this] at hjb
    exact (Option.some.inj hjb).symm
  have hne : b.toNat ≠ 47 ∧ b.toNat ≠ 0 := by
    by_cases h128 : (s.get! pos).toNat < 128
    · have hd := decode_ascii s pos h (by rw [← file_isName.get_lt s pos h]; exact h128)
      rw [hd] at hj ha
      simp only at hj ha
      obtain rfl : j = pos := by omega
      rw [hbj, file_isName.get_lt s j h]
      unfold file_isName.at2 at ha
      constructor
      · intro e; rw [if_pos e] at ha; cases ha
      · intro e; rw [if_neg (by omega), if_pos e] at ha; cases ha
    · have := file_isName.dec s pos h (by omega) j (by omega) hj
      rw [← hbj] at this
      omega
  have h47 : (b == 47) = false := beq_eq_false_iff_ne.2 (fun e => hne.1 (by rw [e]; rfl))
  have h0 : (b == 0) = false := beq_eq_false_iff_ne.2 (fun e => hne.2 (by rw [e]; rfl))
  simp [List.contains, List.elem, h47, h0]
theorem file_isName.hit (s : ByteArray) (pos : Nat) (h : pos < s.size) (hno : Lib.NoAny s.data.toList [47, 0] pos) (ha : 0 ≤ file_isName.at2 (Utf8.decode s pos).1) : Lib.indexAny s.data.toList [47, 0] = pos := by
  have hc : (Utf8.decode s pos).1 = 47 ∨ (Utf8.decode s pos).1 = 0 := by
    unfold file_isName.at2 at ha
    split at ha
    · exact .inl (by assumption)
    · split at ha
      · exact .inr (by assumption)
      · omega
  have h128 : (s.get! pos).toNat < 128 := by
    by_cases h1 : (s.get! pos).toNat < 128
    · exact h1
    · have := (decode_high s pos h (by rw [← file_isName.get_lt s pos h]; omega)).1
      omega
  have hd := decode_ascii s pos h (by rw [← file_isName.get_lt s pos h]; exact h128)
  rw [hd] at hc
  simp only at hc
  refine Lib.indexAny_hit hno (Lib.data_getElem? s pos h) ?_
  rcases hc with hc | hc
  · rw [show s[pos]'h = 47 from UInt8.toNat_inj.1 hc]; rfl
  · rw [show s[pos]'h = 0 from UInt8.toNat_inj.1 hc]; rfl
set_option maxHeartbeats 4000000 in
set_option maxRecDepth 1000000 in
theorem file_isName.short (s : ByteArray) (w : World) (h8 : s.size ≤ 8) : Calls Try.prog 35 #[.string s, .string ⟨#[47, 0]⟩] w fun e w' => e = .returned (.int .i64 (Lib.indexAny s.data.toList [47, 0])) ∧ Below w.heap.size w w' := by
  have hn1 : decide ((s.size : Int) > 8) = false := decide_eq_false (by omega)
  have hsu : ∀ W, Calls Try.prog 39 #[.int .i64 (s.size : Int)] W fun e w' => e = .returned (.bool false) ∧ Drawn0 W w' := fun W => strings_shouldUseASCIISet.calls (s.size : Int) false W (by rw [strings_shouldUseASCIISet.f, hn1])
  go_enter Try.func35, Try.ntmps35
  go_wp2_with (go_at_call 39; go_must ((with_reducible refine (hsu _).mono ?_); rintro e w1 ⟨rfl, hw⟩; have HD := Aside0.mk hw; clear hw))
  go_loopw [9, 10] (fun _ _ wr => ∃ (pos : Nat), wr.heap[w1.heap.size]? = some (.stringIter s pos) ∧ Aside0 (Below w1.heap.size w1 wr) ∧ Aside0 (Lib.NoAny s.data.toList [47, 0] pos) ∧ pos ≤ s.size) (fun _ _ wr => s.size - wr.iterPos w1.heap.size)
  case atStart => exact ⟨0, World.iter_heap w1 s 0, ⟨(Below.refl _ _).alloc (Nat.le_refl _) _⟩, ⟨Lib.NoAny.zero _ _⟩, Nat.zero_le _⟩
  case round =>
    obtain ⟨pos, hit, HB, HN, hle⟩ := hrel
    have hpos0 := Kd.iterPos_is hit
    have HLE := Aside0.mk hle
    clear hle
    by_cases hp : pos < s.size
    · have hnx : ∀ ty, (Instr.next (.pointer (some ⟨w1.heap.size, 0, none⟩)) true ty).run Try.prog wr = _ := fun ty => Lib.run_next_any_at wr w1.heap.size s pos ty hit hp
      have hvc := Lib.decodeN_valid (s.size - pos) (s.get! pos).toNat (s.get! (pos + 1)).toNat (s.get! (pos + 2)).toNat (s.get! (pos + 3)).toNat (s.get! pos).toNat_lt
      rw [← Lib.decode_at] at hvc
      have hwd := Kd.width_pos s pos hp
      have hit2 := Lib.iterAt_heap wr w1.heap.size s pos (pos + (Utf8.decode s pos).2) hit
      have HB2 := Aside0.mk (Lib.below_iterAt HB.out (k := w1.heap.size) (Nat.le_refl _) s (pos + (Utf8.decode s pos).2))
      obtain ⟨W1, hW1⟩ : ∃ W1, W1 = wr.iterAt w1.heap.size s (pos + (Utf8.decode s pos).2) := ⟨_, rfl⟩
      rw [← hW1] at hnx hit2 HB2
      have HS : Aside0 (file_isName.at2 (Utf8.decode s pos).1 = -1 → Lib.NoAny s.data.toList [47, 0] (pos + (Utf8.decode s pos).2)) := ⟨file_isName.skip s pos hp HN.out⟩
      have HH : Aside0 (0 ≤ file_isName.at2 (Utf8.decode s pos).1 → Lib.indexAny s.data.toList [47, 0] = pos) := ⟨file_isName.hit s pos hp HN.out⟩
      have HIT := Aside0.mk hit2
      have HVC := Aside0.mk hvc
      have HP2 : Aside0 (pos < pos + (Utf8.decode s pos).2 ∧ pos + (Utf8.decode s pos).2 ≤ s.size) := ⟨by omega, by
        have := hwd
        rw [Lib.decode_at]
        unfold Lib.decodeN
        repeat' split
        all_goals (simp only; omega)⟩
      clear hW1 hit HB HN hit2 hwd hvc
      generalize (Utf8.decode s pos).1 = ch at hnx HS HH HVC
      generalize pos + (Utf8.decode s pos).2 = p2 at *
      by_cases ha : 0 ≤ file_isName.at2 ch
      · have had : decide (file_isName.at2 ch ≥ 0) = true := decide_eq_true ha
        have had2 : decide (0 ≤ file_isName.at2 ch) = true := decide_eq_true ha
        have HR := Aside0.mk (HH.out ha)
        clear HS HH ha
        go_wp2_with (go_at_call 38; go_must ((with_reducible refine (file_isName.rune ch HVC.out _).mono ?_); rintro e w2 ⟨rfl, hb⟩; have HB3 := Aside0.mk (below_step HB2.out hb)))
        go_ret
        exact ⟨by rw [HR.out]; rfl, by obtain ⟨nd, hnd⟩ := HD.out; exact Below.trans (hnd ▸ pw_below_drewN (Below.refl w.heap.size w) nd) (HB3.out.mono (Nat.le_of_eq (by rw [hnd]; rfl)))⟩
      · have had : decide (file_isName.at2 ch ≥ 0) = false := decide_eq_false ha
        have had2 : decide (0 ≤ file_isName.at2 ch) = false := decide_eq_false ha
        have HR := Aside0.mk (HS.out (by unfold file_isName.at2 at ha ⊢; split at ha <;> (try split at ha) <;> simp_all))
        clear HS HH ha
        go_wp2_with (go_at_call 38; go_must ((with_reducible refine (file_isName.rune ch HVC.out _).mono ?_); rintro e w2 ⟨rfl, hb⟩; have HB3 := Aside0.mk (below_step HB2.out hb); have HI3 := Aside0.mk ((hb.block _ (Array.getElem?_eq_some_iff.1 HIT.out).1).trans HIT.out)))
        go_roundw
        case rel => exact ⟨p2, HI3.out, HB3, HR, HP2.out.2⟩
        case measure => rw [Kd.iterPos_is HI3.out, hpos0]; have := HP2.out; omega
    · have hnx : ∀ ty, (Instr.next (.pointer (some ⟨w1.heap.size, 0, none⟩)) true ty).run Try.prog wr = _ := fun ty => Lib.run_next_end_at wr w1.heap.size s pos ty hit hp
      have HR : Aside0 (Lib.indexAny s.data.toList [47, 0] = -1) := ⟨Lib.indexAny_none (by have := HLE.out; rw [← Lib.size_eq, show s.size = pos by omega]; exact HN.out)⟩
      clear HN
      go_wp2
      go_ret
      exact ⟨by rw [HR.out]; rfl, by obtain ⟨nd, hnd⟩ := HD.out; exact Below.trans (hnd ▸ pw_below_drewN (Below.refl w.heap.size w) nd) (HB.out.mono (Nat.le_of_eq (by rw [hnd]; rfl)))⟩
theorem file_isName.idx (s : ByteArray) (w : World) (hs : s.size < 4294967281) : Calls Try.prog 35 #[.string s, .string ⟨#[47, 0]⟩] w fun e w' => e = .returned (.int .i64 (Lib.indexAny s.data.toList [47, 0])) ∧ Below w.heap.size w w' := by
  by_cases h8 : s.size ≤ 8
  · exact file_isName.short s w h8
  · have hz := zero_of_info file_isName.set116
    refine (Any.strings_IndexAny_long { file_isName.lays with } hz.1 hz.2 s ⟨#[47, 0]⟩ w (by decide) (by omega) hs (by decide) (by
      intro j b hj
      have : b ∈ ([47, 0] : List UInt8) := List.mem_of_getElem? hj
      simp only [List.mem_cons, List.not_mem_nil, or_false] at this
      rcases this with rfl | rfl <;> decide)).mono ?_
    rintro e w' ⟨h1, h2⟩
    refine ⟨h1, ?_⟩
    rw [h2]
    exact ((Below.refl _ _).alloc (Nat.le_refl _) _).alloc (by simp) _
/-- Is one of the two letters that no name has in a text? -/
def file_isName.bad (s : ByteArray) : Bool := decide (0 ≤ Lib.indexAny s.data.toList [47, 0])
theorem file_isName.any (s : ByteArray) (w : World) (hs : s.size < 4294967281) : Calls Try.prog 30 #[.string s, .string ⟨#[47, 0]⟩] w fun e w' => e = .returned (.bool (file_isName.bad s)) ∧ Below w.heap.size w w' := by
  go_enter Try.func30, Try.ntmps30
  go_wp2_with (go_at_call 35; go_must ((with_reducible refine (file_isName.idx s _ hs).mono ?_); rintro e w1 ⟨rfl, hb⟩; have HB := Aside0.mk hb; clear hb))
  go_ret
  exact ⟨rfl, HB.out⟩
def file_isName.f (a0 : ByteArray) : Option Bool := some (!(a0.size == 0) && decide ((a0.size : Int) ≤ 4000) && !file_isName.bad a0)
theorem file_isName.calls (a0 : ByteArray) (r : Bool) (w : World) (h : file_isName.f a0 = some r) : Calls Try.prog 22 #[.string a0] w fun e w' => e = .returned (.bool r) ∧ Below w.heap.size w w' := by
  injection h with h
  subst h
  by_cases h0 : a0.size = 0
  · have hz : a0.toList = ([] : List UInt8) := by
      rw [Lib.toList_data]
      exact List.eq_nil_of_length_eq_zero (by rw [← Lib.size_eq]; exact h0)
    have hze : a0.toList.isEmpty = true := by rw [hz]; rfl
    have hs : (a0.size == 0) = true := beq_iff_eq.2 h0
    rw [hs]
    clear h0 hs
    go_enter Try.func22, Try.ntmps22
    go_wp2
    go_ret
    exact ⟨rfl, Below.refl _ _⟩
  · have hz : ¬ (a0.toList = ([] : List UInt8)) := by
      rw [Lib.toList_data]
      intro e
      have := Lib.size_eq a0
      rw [e] at this
      exact h0 this
    have hze : a0.toList.isEmpty = false := by simpa using hz
    have hs : (a0.size == 0) = false := beq_eq_false_iff_ne.2 h0
    rw [hs]
    clear h0 hs
    by_cases h4 : (a0.size : Int) ≤ 4000
    · have hd : decide ((a0.size : Int) ≤ 4000) = true := decide_eq_true h4
      have HS : Aside0 (a0.size < 4294967281) := ⟨by omega⟩
      rw [hd]
      clear h4
      go_enter Try.func22, Try.ntmps22
      go_wp2_with (go_at_call 30; go_must ((with_reducible refine (file_isName.any a0 _ HS.out).mono ?_); rintro e w1 ⟨rfl, hb⟩; have HB := Aside0.mk hb; clear hb))
      go_ret
      exact ⟨by simp, HB.out⟩
    · have hd : decide ((a0.size : Int) ≤ 4000) = false := decide_eq_false h4
      rw [hd]
      clear h4
      go_enter Try.func22, Try.ntmps22
      go_wp2
      go_ret
      exact ⟨by simp, Below.refl _ _⟩


/-! ### api_File_23: function 23 -/
def api_File_23.f (l0 : List (S55)) : Option ((List (S55))) := (some (([] : List (S55)) : List (S55))).bind fun y106 => (if y106.length + l0.length < 4398046511104 then (some (y106 ++ l0)) else (none))
set_option maxHeartbeats 8000000 in
set_option maxRecDepth 100000 in
theorem api_File_23.calls (A0 : Option Addr) (c0 : Nat) (l0 : List (S55)) (r : List (S55)) (w : World) (hr0 : Kd.C k55 w A0 l0.length l0) (hc0 : l0.length ≤ c0) (h : api_File_23.f l0 = some r) :
    Calls Try.prog 23 #[.slice A0 l0.length c0] w fun e w' => ∃ v0_ : Value, e = .returned (v0_) ∧ Kd.R k55 55 w' w.heap.size (fun _ => True) v0_ r ∧ Below w.heap.size w w' := by
  have HR0 := Aside0.mk hr0
  have HC0 := Aside0.mk hc0
  clear hr0 hc0
  have hnq := fun (W_ : World) (a_ : Option Addr) (n_ c_ : Nat) => Lib.run_eql_slice_nil (P := Try.prog) W_ 23 55 a_ n_ c_ 0 0 Try.underlying23
  rcases Bool.eq_false_or_eq_true A0.isNone with hA0n | hA0n
  · obtain rfl : A0 = none := by simpa using hA0n
    obtain rfl : l0 = [] := Kd.C_none HR0.out
    obtain rfl : r = [] := by simpa [api_File_23.f] using h.symm
    clear h
    go_enter Try.func23, Try.ntmps23
    go_wp2
    go_ret
    exact ⟨_, rfl, Kd.R_nil _ _ _ _ _, Below.refl _ _⟩
  have HB := Aside0.mk (Below.refl w.heap.size w)
  have H : ((some (([] : List (S55)) : List (S55))).bind fun y106 => (if y106.length + l0.length < 4398046511104 then (some (y106 ++ l0)) else (none))) = some r := h
  clear h
  obtain ⟨y106, hy106⟩ : ∃ y_ : List (S55), y_ = (([] : List (S55))) := ⟨_, rfl⟩
  replace H : (if y106.length + l0.length < 4398046511104 then (some (y106 ++ l0)) else (none)) = some r := by first | (rw [hy106]; with_reducible exact H) | (have H2_ := (Option.bind_some _ _).symm.trans H; rw [hy106]; with_reducible exact H2_) | (have H2_ := (Option.bind_some _ _).symm.trans H; with_reducible exact H2_) | with_reducible exact H | (rw [hy106]; exact H) | exact H
  have Ny106 := Aside0.mk hy106
  clear hy106
  by_cases c2 : y106.length + l0.length < 4398046511104
  · rw [if_pos c2] at H
    have LMc2 := Aside0.mk c2
    clear c2
    obtain ⟨y109, hy109⟩ : ∃ y_ : List (S55), y_ = (y106 ++ l0) := ⟨_, rfl⟩
    replace H : (some y109) = some r := by first | (rw [hy109]; with_reducible exact H) | (have H2_ := (Option.bind_some _ _).symm.trans H; rw [hy109]; with_reducible exact H2_) | (have H2_ := (Option.bind_some _ _).symm.trans H; with_reducible exact H2_) | with_reducible exact H | (rw [hy109]; exact H) | exact H
    have Ny109 := Aside0.mk hy109
    clear hy109
    obtain rfl := Option.some.inj H
    go_enter Try.func23, Try.ntmps23
    go_wp2_with (first | ((with_reducible refine gate_dst (N := 5) rfl ?_); refine Kd.R_lit k55 _ 55 ?hg (N := 5) ?hd (xs := ([] : List (S55))) (inner := []) (ok := fun _ => True) (okp := fun _ => True) ?hr ?hp (fun _ hk => hk) trivial (Below.refl _ _) (Nat.le_refl _) (by simp) ?_; (case hd => rfl); (case hg => rfl); (case hr => first | (go_simp; done) | (go_simp; rfl)); (case hp => exact (Reps.none _ _)); intro v107 w3 ho4 hb hg_ hnew_; clear hg_ hnew_; (first | rw [← Ny106.out] at ho4 | (simp only [Int.reduceToNat] at ho4; rw [← Ny106.out] at ho4)); have n0_ := Aside0.mk (Kd.R_lower ho4 (below_size (by repeat (first | (with_reducible first | exact HB.out | apply below_alloc | apply pw_below_drewN | apply below_drew1) | exact HB.out)))); have n1_ := Aside0.mk (below_step (by repeat (first | (with_reducible first | exact HB.out | apply below_alloc | apply pw_below_drewN | apply below_drew1) | exact HB.out)) hb); clear HB; have HO108 := n0_; have HB := n1_; clear n0_ n1_; clear hb ho4) | ((with_reducible refine gate_builtin (b := .append) (xs := #[.tmp 5, .tmp 6]) rfl ?_); at_builtin; refine Kd.R_append_rows k55 (w0 := w) w.heap.size rfl (.tmp 5) (.tmp 6) 23 55 (.agg #[(.string ⟨#[]⟩), (.string ⟨#[]⟩)]) 32 rfl Try.underlying23 info55 rfl (by decide) (by omega) v107 y106 l0 _ _ _ (fun _ => True) (fun _ => False) rfl rfl ?aO ?aR (fun _ _ h => h) (fun _ h => h.elim) ?aF ?aB ?aS ?aL ?_; (case aR => repeat (first | (with_reducible exact HR0.out) | exact (Kd.C_below HR0.out HB.out) | (with_reducible refine Kd.C_alloc ?_ _) | (with_reducible refine Kd.C_drewN ?_ _) | (with_reducible refine Kd.C_drew ?_))); (case aB => exact (by repeat (first | (with_reducible first | exact HB.out | apply below_alloc | apply pw_below_drewN | apply below_drew1) | exact HB.out))); (case aF => exact (fun _ _ => trivial)); (case aO => exact (by (with_reducible repeat (first | apply Kd.R_alloc | apply Kd.R_drewN | apply Kd.R_drew)); exact HO108.out)); (case aS => exact (below_size (by repeat (first | (with_reducible first | exact HB.out | apply below_alloc | apply pw_below_drewN | apply below_drew1) | exact HB.out)))); (case aL => have := LMc2.out; omega); intro v110 w5 ho hb hg hat; rw [← Ny109.out] at ho; have n0_ := Aside0.mk (hb); have n1_ := Aside0.mk (ho); clear HB; clear HO108; have HB := n0_; have HO111 := n1_; clear n0_ n1_; clear ho hb hg hat))
    go_ret
    exact ⟨_, by first | rfl | (simp [errW_none, errW_some] <;> rfl) | (simp [*, errW_none, errW_some] <;> rfl), by (with_reducible repeat (first | apply Kd.R_alloc | apply Kd.R_drewN | apply Kd.R_drew)); exact HO111.out, by repeat (first | (with_reducible first | exact HB.out | apply below_alloc | apply pw_below_drewN | apply below_drew1) | exact HB.out)⟩
  · rw [if_neg c2] at H
    exact absurd H (by simp)

-- NOT PRINTED: function 31 (api_File_31)

-- NOT PRINTED: function 42 (api_File_42)

-- NOT PRINTED: function 36 (api_File_36)

-- NOT PRINTED: function 32 (api_File_32)

end Go.Proofs.Ytikninibkljnnaa.QPortLines
