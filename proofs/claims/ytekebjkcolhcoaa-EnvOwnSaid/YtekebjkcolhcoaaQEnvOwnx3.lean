-- Written by a program of this session (wip/tools), out of the kit's print of the loaded program: functions, and proofs that the calls come to them.
import Derived.Test.YtekebjkcolhcoaaQEnvOwnx0
namespace Go.Proofs.Ytekebjkcolhcoaa.QEnvOwn
open Go.RowKit Go.Proofs.YtekebjkcolhcoaaW.PrintWords Go.Proofs.YtekebjkcolhcoaaW.PrintLast Go.Proofs.YtekebjkcolhcoaaW.PrintMore
attribute [local go_sem] max2_int min2_int max_two min_two max_three min_three max_four min_four   -- for this text's walks alone
set_option linter.unusedVariables false
set_option linter.unusedSimpArgs false

/-! ### api_Binding_53: function 53 -/
def api_Binding_53.f (l0 : List (S71)) : Option ((List (S71))) := (some (([] : List (S71)) : List (S71))).bind fun y101 => (if y101.length + l0.length < 4398046511104 then (some (y101 ++ l0)) else (none))
set_option maxHeartbeats 8000000 in
set_option maxRecDepth 100000 in
theorem api_Binding_53.calls (A0 : Option Addr) (c0 : Nat) (l0 : List (S71)) (r : List (S71)) (w : World) (hr0 : Kd.C k71 w A0 l0.length l0) (hc0 : l0.length ≤ c0) (h : api_Binding_53.f l0 = some r) :
    Calls Try.prog 53 #[.slice A0 l0.length c0] w fun e w' => ∃ v0_ : Value, e = .returned (v0_) ∧ Kd.R k71 71 w' w.heap.size (fun _ => True) v0_ r ∧ Below w.heap.size w w' := by
  have HR0 := Aside0.mk hr0
  have HC0 := Aside0.mk hc0
  clear hr0 hc0
  have hnq := fun (W_ : World) (a_ : Option Addr) (n_ c_ : Nat) => Lib.run_eql_slice_nil (P := Try.prog) W_ 22 71 a_ n_ c_ 0 0 Try.underlying22
  rcases Bool.eq_false_or_eq_true A0.isNone with hA0n | hA0n
  · obtain rfl : A0 = none := by simpa using hA0n
    obtain rfl : l0 = [] := Kd.C_none HR0.out
    obtain rfl : r = [] := by simpa [api_Binding_53.f] using h.symm
    clear h
    go_enter Try.func53, Try.ntmps53
    go_wp2
    go_ret
    exact ⟨_, rfl, Kd.R_nil _ _ _ _ _, Below.refl _ _⟩
  have HB := Aside0.mk (Below.refl w.heap.size w)
  have H : ((some (([] : List (S71)) : List (S71))).bind fun y101 => (if y101.length + l0.length < 4398046511104 then (some (y101 ++ l0)) else (none))) = some r := h
  clear h
  obtain ⟨y101, hy101⟩ : ∃ y_ : List (S71), y_ = (([] : List (S71))) := ⟨_, rfl⟩
  replace H : (if y101.length + l0.length < 4398046511104 then (some (y101 ++ l0)) else (none)) = some r := by first | (rw [hy101]; with_reducible exact H) | (have H2_ := (Option.bind_some _ _).symm.trans H; rw [hy101]; with_reducible exact H2_) | (have H2_ := (Option.bind_some _ _).symm.trans H; with_reducible exact H2_) | with_reducible exact H | (rw [hy101]; exact H) | exact H
  have Ny101 := Aside0.mk hy101
  clear hy101
  by_cases c2 : y101.length + l0.length < 4398046511104
  · rw [if_pos c2] at H
    have LMc2 := Aside0.mk c2
    clear c2
    obtain ⟨y104, hy104⟩ : ∃ y_ : List (S71), y_ = (y101 ++ l0) := ⟨_, rfl⟩
    replace H : (some y104) = some r := by first | (rw [hy104]; with_reducible exact H) | (have H2_ := (Option.bind_some _ _).symm.trans H; rw [hy104]; with_reducible exact H2_) | (have H2_ := (Option.bind_some _ _).symm.trans H; with_reducible exact H2_) | with_reducible exact H | (rw [hy104]; exact H) | exact H
    have Ny104 := Aside0.mk hy104
    clear hy104
    obtain rfl := Option.some.inj H
    go_enter Try.func53, Try.ntmps53
    go_wp2_with (first | ((with_reducible refine gate_dst (N := 5) rfl ?_); refine Kd.R_lit k71 _ 71 ?hg (N := 5) ?hd (xs := ([] : List (S71))) (inner := []) (ok := fun _ => True) (okp := fun _ => True) ?hr ?hp (fun _ hk => hk) trivial (Below.refl _ _) (Nat.le_refl _) (by simp) ?_; (case hd => rfl); (case hg => rfl); (case hr => first | (go_simp; done) | (go_simp; rfl)); (case hp => exact (Reps.none _ _)); intro v102 w3 ho4 hb hg_ hnew_; clear hg_ hnew_; (first | rw [← Ny101.out] at ho4 | (simp only [Int.reduceToNat] at ho4; rw [← Ny101.out] at ho4)); have n0_ := Aside0.mk (Kd.R_lower ho4 (below_size (by repeat (first | (with_reducible first | exact HB.out | apply below_alloc | apply pw_below_drewN | apply below_drew1) | exact HB.out)))); have n1_ := Aside0.mk (below_step (by repeat (first | (with_reducible first | exact HB.out | apply below_alloc | apply pw_below_drewN | apply below_drew1) | exact HB.out)) hb); clear HB; have HO103 := n0_; have HB := n1_; clear n0_ n1_; clear hb ho4) | ((with_reducible refine gate_builtin (b := .append) (xs := #[.tmp 5, .tmp 6]) rfl ?_); at_builtin; refine Kd.R_append_rows k71 (w0 := w) w.heap.size rfl (.tmp 5) (.tmp 6) 22 71 (.agg #[(.string ⟨#[]⟩), (.string ⟨#[]⟩)]) 32 rfl Try.underlying22 info71 rfl (by decide) (by omega) v102 y101 l0 _ _ _ (fun _ => True) (fun _ => False) rfl rfl ?aO ?aR (fun _ _ h => h) (fun _ h => h.elim) ?aF ?aB ?aS ?aL ?_; (case aR => repeat (first | (with_reducible exact HR0.out) | exact (Kd.C_below HR0.out HB.out) | (with_reducible refine Kd.C_alloc ?_ _) | (with_reducible refine Kd.C_drewN ?_ _) | (with_reducible refine Kd.C_drew ?_))); (case aB => exact (by repeat (first | (with_reducible first | exact HB.out | apply below_alloc | apply pw_below_drewN | apply below_drew1) | exact HB.out))); (case aF => exact (fun _ _ => trivial)); (case aO => exact (by (with_reducible repeat (first | apply Kd.R_alloc | apply Kd.R_drewN | apply Kd.R_drew)); exact HO103.out)); (case aS => exact (below_size (by repeat (first | (with_reducible first | exact HB.out | apply below_alloc | apply pw_below_drewN | apply below_drew1) | exact HB.out)))); (case aL => have := LMc2.out; omega); intro v105 w5 ho hb hg hat; rw [← Ny104.out] at ho; have n0_ := Aside0.mk (hb); have n1_ := Aside0.mk (ho); clear HB; clear HO103; have HB := n0_; have HO106 := n1_; clear n0_ n1_; clear ho hb hg hat))
    go_ret
    exact ⟨_, by first | rfl | (simp [errW_none, errW_some] <;> rfl) | (simp [*, errW_none, errW_some] <;> rfl), by (with_reducible repeat (first | apply Kd.R_alloc | apply Kd.R_drewN | apply Kd.R_drew)); exact HO106.out, by repeat (first | (with_reducible first | exact HB.out | apply below_alloc | apply pw_below_drewN | apply below_drew1) | exact HB.out)⟩
  · rw [if_neg c2] at H
    exact absurd H (by simp)

/-! ### slices_Clone_string_string: function 54 -/
def slices_Clone_string_string.f (l0 : List ByteArray) : Option (List ByteArray) := (some (([] : List ByteArray) : List ByteArray)).bind fun y107 => (if y107.length + l0.length < 8796093022208 then (some (y107 ++ l0)) else (none))
set_option maxHeartbeats 8000000 in
set_option maxRecDepth 100000 in
theorem slices_Clone_string_string.calls (A0 : Option Addr) (c0 : Nat) (l0 : List ByteArray) (r : List ByteArray) (w : World) (hr0 : Kd.C Kd.string w A0 l0.length l0) (hc0 : l0.length ≤ c0) (h : slices_Clone_string_string.f l0 = some r) :
    Calls Try.prog 54 #[.slice A0 l0.length c0] w fun e w' => ∃ v0_ : Value, e = .returned (v0_) ∧ Kd.R Kd.string 9 w' w.heap.size (fun _ => True) v0_ r ∧ Below w.heap.size w w' := by
  have HR0 := Aside0.mk hr0
  have HC0 := Aside0.mk hc0
  clear hr0 hc0
  have hnq := fun (W_ : World) (a_ : Option Addr) (n_ c_ : Nat) => Lib.run_eql_slice_nil (P := Try.prog) W_ 23 9 a_ n_ c_ 0 0 Try.underlying23
  rcases Bool.eq_false_or_eq_true A0.isNone with hA0n | hA0n
  · obtain rfl : A0 = none := by simpa using hA0n
    obtain rfl : l0 = [] := Kd.C_none HR0.out
    obtain rfl : r = [] := by simpa [slices_Clone_string_string.f] using h.symm
    clear h
    go_enter Try.func54, Try.ntmps54
    go_wp2
    go_ret
    exact ⟨_, rfl, Kd.R_nil _ _ _ _ _, Below.refl _ _⟩
  have HB := Aside0.mk (Below.refl w.heap.size w)
  have H : ((some (([] : List ByteArray) : List ByteArray)).bind fun y107 => (if y107.length + l0.length < 8796093022208 then (some (y107 ++ l0)) else (none))) = some r := h
  clear h
  obtain ⟨y107, hy107⟩ : ∃ y_ : List ByteArray, y_ = (([] : List ByteArray)) := ⟨_, rfl⟩
  replace H : (if y107.length + l0.length < 8796093022208 then (some (y107 ++ l0)) else (none)) = some r := by first | (rw [hy107]; with_reducible exact H) | (have H2_ := (Option.bind_some _ _).symm.trans H; rw [hy107]; with_reducible exact H2_) | (have H2_ := (Option.bind_some _ _).symm.trans H; with_reducible exact H2_) | with_reducible exact H | (rw [hy107]; exact H) | exact H
  have Ny107 := Aside0.mk hy107
  clear hy107
  by_cases c2 : y107.length + l0.length < 8796093022208
  · rw [if_pos c2] at H
    have LMc2 := Aside0.mk c2
    clear c2
    obtain ⟨y110, hy110⟩ : ∃ y_ : List ByteArray, y_ = (y107 ++ l0) := ⟨_, rfl⟩
    replace H : (some y110) = some r := by first | (rw [hy110]; with_reducible exact H) | (have H2_ := (Option.bind_some _ _).symm.trans H; rw [hy110]; with_reducible exact H2_) | (have H2_ := (Option.bind_some _ _).symm.trans H; with_reducible exact H2_) | with_reducible exact H | (rw [hy110]; exact H) | exact H
    have Ny110 := Aside0.mk hy110
    clear hy110
    obtain rfl := Option.some.inj H
    go_enter Try.func54, Try.ntmps54
    go_wp2_with (first | ((with_reducible refine gate_dst (N := 5) rfl ?_); refine Kd.R_lit Kd.string _ 9 ?hg (N := 5) ?hd (xs := ([] : List ByteArray)) (inner := []) (ok := fun _ => True) (okp := fun _ => True) ?hr ?hp (fun _ hk => hk) trivial (Below.refl _ _) (Nat.le_refl _) (by simp) ?_; (case hd => rfl); (case hg => rfl); (case hr => first | (go_simp; done) | (go_simp; rfl)); (case hp => exact (Reps.none _ _)); intro v108 w3 ho4 hb hg_ hnew_; clear hg_ hnew_; (first | rw [← Ny107.out] at ho4 | (simp only [Int.reduceToNat] at ho4; rw [← Ny107.out] at ho4)); have n0_ := Aside0.mk (Kd.R_lower ho4 (below_size (by repeat (first | (with_reducible first | exact HB.out | apply below_alloc | apply pw_below_drewN | apply below_drew1) | exact HB.out)))); have n1_ := Aside0.mk (below_step (by repeat (first | (with_reducible first | exact HB.out | apply below_alloc | apply pw_below_drewN | apply below_drew1) | exact HB.out)) hb); clear HB; have HO109 := n0_; have HB := n1_; clear n0_ n1_; clear hb ho4) | ((with_reducible refine gate_builtin (b := .append) (xs := #[.tmp 5, .tmp 6]) rfl ?_); at_builtin; refine Kd.R_append_rows Kd.string (w0 := w) w.heap.size rfl (.tmp 5) (.tmp 6) 23 9 (.string ⟨#[]⟩) 16 rfl Try.underlying23 info9 rfl (by decide) (by omega) v108 y107 l0 _ _ _ (fun _ => True) (fun _ => False) rfl rfl ?aO ?aR (fun _ _ h => h) (fun _ h => h.elim) ?aF ?aB ?aS ?aL ?_; (case aR => repeat (first | (with_reducible exact HR0.out) | exact (Kd.C_below HR0.out HB.out) | (with_reducible refine Kd.C_alloc ?_ _) | (with_reducible refine Kd.C_drewN ?_ _) | (with_reducible refine Kd.C_drew ?_))); (case aB => exact (by repeat (first | (with_reducible first | exact HB.out | apply below_alloc | apply pw_below_drewN | apply below_drew1) | exact HB.out))); (case aF => exact (fun _ _ => trivial)); (case aO => exact (by (with_reducible repeat (first | apply Kd.R_alloc | apply Kd.R_drewN | apply Kd.R_drew)); exact HO109.out)); (case aS => exact (below_size (by repeat (first | (with_reducible first | exact HB.out | apply below_alloc | apply pw_below_drewN | apply below_drew1) | exact HB.out)))); (case aL => have := LMc2.out; omega); intro v111 w5 ho hb hg hat; rw [← Ny110.out] at ho; have n0_ := Aside0.mk (hb); have n1_ := Aside0.mk (ho); clear HB; clear HO109; have HB := n0_; have HO112 := n1_; clear n0_ n1_; clear ho hb hg hat))
    go_ret
    exact ⟨_, by first | rfl | (simp [errW_none, errW_some] <;> rfl) | (simp [*, errW_none, errW_some] <;> rfl), by (with_reducible repeat (first | apply Kd.R_alloc | apply Kd.R_drewN | apply Kd.R_drew)); exact HO112.out, by repeat (first | (with_reducible first | exact HB.out | apply below_alloc | apply pw_below_drewN | apply below_drew1) | exact HB.out)⟩
  · rw [if_neg c2] at H
    exact absurd H (by simp)

/-! ### api_Fun_55: function 55 -/
def api_Fun_55.f (l0 : List (S67)) : Option ((List (S67))) := (some (([] : List (S67)) : List (S67))).bind fun y113 => (if y113.length + l0.length < 5864062014805 then (some (y113 ++ l0)) else (none))
set_option maxHeartbeats 8000000 in
set_option maxRecDepth 100000 in
theorem api_Fun_55.calls (A0 : Option Addr) (c0 : Nat) (l0 : List (S67)) (r : List (S67)) (w : World) (hr0 : Kd.C k67 w A0 l0.length l0) (hc0 : l0.length ≤ c0) (h : api_Fun_55.f l0 = some r) :
    Calls Try.prog 55 #[.slice A0 l0.length c0] w fun e w' => ∃ v0_ : Value, e = .returned (v0_) ∧ Kd.R k67 67 w' w.heap.size (fun _ => True) v0_ r ∧ Below w.heap.size w w' := by
  have HR0 := Aside0.mk hr0
  have HC0 := Aside0.mk hc0
  clear hr0 hc0
  have hnq := fun (W_ : World) (a_ : Option Addr) (n_ c_ : Nat) => Lib.run_eql_slice_nil (P := Try.prog) W_ 24 67 a_ n_ c_ 0 0 Try.underlying24
  rcases Bool.eq_false_or_eq_true A0.isNone with hA0n | hA0n
  · obtain rfl : A0 = none := by simpa using hA0n
    obtain rfl : l0 = [] := Kd.C_none HR0.out
    obtain rfl : r = [] := by simpa [api_Fun_55.f] using h.symm
    clear h
    go_enter Try.func55, Try.ntmps55
    go_wp2
    go_ret
    exact ⟨_, rfl, Kd.R_nil _ _ _ _ _, Below.refl _ _⟩
  have HB := Aside0.mk (Below.refl w.heap.size w)
  have H : ((some (([] : List (S67)) : List (S67))).bind fun y113 => (if y113.length + l0.length < 5864062014805 then (some (y113 ++ l0)) else (none))) = some r := h
  clear h
  obtain ⟨y113, hy113⟩ : ∃ y_ : List (S67), y_ = (([] : List (S67))) := ⟨_, rfl⟩
  replace H : (if y113.length + l0.length < 5864062014805 then (some (y113 ++ l0)) else (none)) = some r := by first | (rw [hy113]; with_reducible exact H) | (have H2_ := (Option.bind_some _ _).symm.trans H; rw [hy113]; with_reducible exact H2_) | (have H2_ := (Option.bind_some _ _).symm.trans H; with_reducible exact H2_) | with_reducible exact H | (rw [hy113]; exact H) | exact H
  have Ny113 := Aside0.mk hy113
  clear hy113
  by_cases c2 : y113.length + l0.length < 5864062014805
  · rw [if_pos c2] at H
    have LMc2 := Aside0.mk c2
    clear c2
    obtain ⟨y116, hy116⟩ : ∃ y_ : List (S67), y_ = (y113 ++ l0) := ⟨_, rfl⟩
    replace H : (some y116) = some r := by first | (rw [hy116]; with_reducible exact H) | (have H2_ := (Option.bind_some _ _).symm.trans H; rw [hy116]; with_reducible exact H2_) | (have H2_ := (Option.bind_some _ _).symm.trans H; with_reducible exact H2_) | with_reducible exact H | (rw [hy116]; exact H) | exact H
    have Ny116 := Aside0.mk hy116
    clear hy116
    obtain rfl := Option.some.inj H
    go_enter Try.func55, Try.ntmps55
    go_wp2_with (first | ((with_reducible refine gate_dst (N := 5) rfl ?_); refine Kd.R_lit k67 _ 67 ?hg (N := 5) ?hd (xs := ([] : List (S67))) (inner := []) (ok := fun _ => True) (okp := fun _ => True) ?hr ?hp (fun _ hk => hk) trivial (Below.refl _ _) (Nat.le_refl _) (by simp) ?_; (case hd => rfl); (case hg => rfl); (case hr => first | (go_simp; done) | (go_simp; rfl)); (case hp => exact (Reps.none _ _)); intro v114 w3 ho4 hb hg_ hnew_; clear hg_ hnew_; (first | rw [← Ny113.out] at ho4 | (simp only [Int.reduceToNat] at ho4; rw [← Ny113.out] at ho4)); have n0_ := Aside0.mk (Kd.R_lower ho4 (below_size (by repeat (first | (with_reducible first | exact HB.out | apply below_alloc | apply pw_below_drewN | apply below_drew1) | exact HB.out)))); have n1_ := Aside0.mk (below_step (by repeat (first | (with_reducible first | exact HB.out | apply below_alloc | apply pw_below_drewN | apply below_drew1) | exact HB.out)) hb); clear HB; have HO115 := n0_; have HB := n1_; clear n0_ n1_; clear hb ho4) | ((with_reducible refine gate_builtin (b := .append) (xs := #[.tmp 5, .tmp 6]) rfl ?_); at_builtin; refine Kd.R_append_rows k67 (w0 := w) w.heap.size rfl (.tmp 5) (.tmp 6) 24 67 (.agg #[(.string ⟨#[]⟩), (.int .i64 0)]) 24 rfl Try.underlying24 info67 rfl (by decide) (by omega) v114 y113 l0 _ _ _ (fun _ => True) (fun _ => False) rfl rfl ?aO ?aR (fun _ _ h => h) (fun _ h => h.elim) ?aF ?aB ?aS ?aL ?_; (case aR => repeat (first | (with_reducible exact HR0.out) | exact (Kd.C_below HR0.out HB.out) | (with_reducible refine Kd.C_alloc ?_ _) | (with_reducible refine Kd.C_drewN ?_ _) | (with_reducible refine Kd.C_drew ?_))); (case aB => exact (by repeat (first | (with_reducible first | exact HB.out | apply below_alloc | apply pw_below_drewN | apply below_drew1) | exact HB.out))); (case aF => exact (fun _ _ => trivial)); (case aO => exact (by (with_reducible repeat (first | apply Kd.R_alloc | apply Kd.R_drewN | apply Kd.R_drew)); exact HO115.out)); (case aS => exact (below_size (by repeat (first | (with_reducible first | exact HB.out | apply below_alloc | apply pw_below_drewN | apply below_drew1) | exact HB.out)))); (case aL => have := LMc2.out; omega); intro v117 w5 ho hb hg hat; rw [← Ny116.out] at ho; have n0_ := Aside0.mk (hb); have n1_ := Aside0.mk (ho); clear HB; clear HO115; have HB := n0_; have HO118 := n1_; clear n0_ n1_; clear ho hb hg hat))
    go_ret
    exact ⟨_, by first | rfl | (simp [errW_none, errW_some] <;> rfl) | (simp [*, errW_none, errW_some] <;> rfl), by (with_reducible repeat (first | apply Kd.R_alloc | apply Kd.R_drewN | apply Kd.R_drew)); exact HO118.out, by repeat (first | (with_reducible first | exact HB.out | apply below_alloc | apply pw_below_drewN | apply below_drew1) | exact HB.out)⟩
  · rw [if_neg c2] at H
    exact absurd H (by simp)

/-! ### env_copied: function 35 -/
def env_copied.f (l0_0 : List (S71)) (l0_1 : List ByteArray) (l0_2 : List (S67)) : Option ((List (S71)) × List ByteArray × (List (S67))) := (api_Binding_53.f l0_0).bind fun t121 => ((slices_Clone_string_string.f l0_1).bind fun t124 => ((api_Fun_55.f l0_2).bind fun t127 => (some (t121, t124, t127))))
def env_copied.T1 : Bool × List (List Nat × List Nat) := (true, [([], []), ([0], [0]), ([1], [1]), ([], []), ([3], [3]), ([4, 2], [4]), ([], []), ([6], [6]), ([7, 5], [7]), ([2, 5, 8], [2, 5, 8]), ([9, 8, 0, 1, 2, 3, 4, 5, 6, 7, 8, 9], [9])])
def env_copied.B1 : List Nat := [0, 1, 3, 0, 8, 31, 0, 64, 255, 511, 1023]
theorem env_copied.tab1 : rtab .any (opsOf Try.f35 1) = env_copied.T1 := by kernel_rfl
theorem env_copied.bits1 : waitsOk env_copied.T1.2 env_copied.B1 = true := by kernel_rfl
set_option maxHeartbeats 8000000 in
set_option maxRecDepth 100000 in
theorem env_copied.calls (A0_0 : Option Addr) (c0_0 : Nat) (l0_0 : List (S71)) (A0_1 : Option Addr) (c0_1 : Nat) (l0_1 : List ByteArray) (A0_2 : Option Addr) (c0_2 : Nat) (l0_2 : List (S67)) (r1 : List (S71)) (r2 : List ByteArray) (r3 : List (S67)) (w : World) (hr0_0 : Kd.C k71 w A0_0 l0_0.length l0_0) (hc0_0 : l0_0.length ≤ c0_0) (hr0_1 : Kd.C Kd.string w A0_1 l0_1.length l0_1) (hc0_1 : l0_1.length ≤ c0_1) (hr0_2 : Kd.C k67 w A0_2 l0_2.length l0_2) (hc0_2 : l0_2.length ≤ c0_2) (h : env_copied.f l0_0 l0_1 l0_2 = some (r1, r2, r3)) :
    Calls Try.prog 35 #[.agg #[.slice A0_0 l0_0.length c0_0, .slice A0_1 l0_1.length c0_1, .slice A0_2 l0_2.length c0_2]] w fun e w' => ∃ v0_ v1_ v2_ : Value, e = .returned (.agg #[v0_, v1_, v2_]) ∧ Kd.R k71 71 w' w.heap.size (fun _ => True) v0_ r1 ∧ Kd.R Kd.string 9 w' w.heap.size (fun _ => True) v1_ r2 ∧ Kd.R k67 67 w' w.heap.size (fun _ => True) v2_ r3 ∧ Below w.heap.size w w' := by
  have hu26 := Try.underlying26
  have HR0_0 := Aside0.mk hr0_0
  have HC0_0 := Aside0.mk hc0_0
  clear hr0_0 hc0_0
  have HR0_1 := Aside0.mk hr0_1
  have HC0_1 := Aside0.mk hc0_1
  clear hr0_1 hc0_1
  have HR0_2 := Aside0.mk hr0_2
  have HC0_2 := Aside0.mk hc0_2
  clear hr0_2 hc0_2
  have HB := Aside0.mk (Below.refl w.heap.size w)
  have H : ((api_Binding_53.f l0_0).bind fun t121 => ((slices_Clone_string_string.f l0_1).bind fun t124 => ((api_Fun_55.f l0_2).bind fun t127 => (some (t121, t124, t127))))) = some (r1, r2, r3) := h
  clear h
  replace H := Option.bind_eq_some_iff.mp H
  obtain ⟨t121, A20, H⟩ := H
  replace H : ((slices_Clone_string_string.f l0_1).bind fun t124 => ((api_Fun_55.f l0_2).bind fun t127 => (some (t121, t124, t127)))) = some (r1, r2, r3) := H
  have A2 := Aside0.mk A20
  clear A20
  replace H := Option.bind_eq_some_iff.mp H
  obtain ⟨t124, A30, H⟩ := H
  replace H : ((api_Fun_55.f l0_2).bind fun t127 => (some (t121, t124, t127))) = some (r1, r2, r3) := H
  have A3 := Aside0.mk A30
  clear A30
  replace H := Option.bind_eq_some_iff.mp H
  obtain ⟨t127, A40, H⟩ := H
  replace H : (some (t121, t124, t127)) = some (r1, r2, r3) := H
  have A4 := Aside0.mk A40
  clear A40
  simp only [Option.some.injEq, Prod.mk.injEq] at H
  obtain ⟨rfl, rfl, rfl⟩ := H
  go_enter Try.func35, Try.ntmps35
  try go_wp2_with (first | ((with_reducible refine gate_dst (N := 1) rfl ?_); refine box_event ?hg (N := 1) ?hd (cs := #[.slice A0_0 l0_0.length c0_0, .slice A0_1 l0_1.length c0_1, .slice A0_2 l0_2.length c0_2]) (t := 26) ?hr ?_; (case hd => rfl); (case hg => rfl); (case hr => first | (go_simp; done) | (go_simp; rfl)); intro gb119 hg w5 hbox hb; have n0_ := Aside0.mk (below_step (by repeat (first | (with_reducible first | exact HB.out | apply below_alloc | apply pw_below_drewN | apply below_drew1) | exact HB.out)) hb); have n1_ := Aside0.mk (hbox); have n2_ := Aside0.mk ((by rw [hg]; exact (below_size (by repeat (first | (with_reducible first | exact HB.out | apply below_alloc | apply pw_below_drewN | apply below_drew1) | exact HB.out))) : w.heap.size ≤ gb119)); have n3_ := Aside0.mk ((by rw [hg]; exact (below_size (by repeat (first | (with_reducible first | exact HB.out | apply below_alloc | apply pw_below_drewN | apply below_drew1) | exact HB.out))) : w.heap.size ≤ gb119)); clear HB; have HB := n0_; have BK119 := n1_; have GW119 := n2_; have GE119 := n3_; clear n0_ n1_ n2_ n3_; clear hb hbox hg) | ((with_reducible refine gate_dst (N := 2) rfl ?_); refine box_event ?hg (N := 2) ?hd (cs := #[.slice none 0 0, .slice none 0 0, .slice none 0 0]) (t := 26) ?hr ?_; (case hd => rfl); (case hg => rfl); (case hr => first | (go_simp; done) | (go_simp; rfl)); intro gb120 hg w6 hbox hb; have n0_ := Aside0.mk (blk_below (g := gb119) (o := .cells #[.slice A0_0 l0_0.length c0_0, .slice A0_1 l0_1.length c0_1, .slice A0_2 l0_2.length c0_2] 26 (0, 0)) (by (with_reducible repeat (first | refine blk_drewN ?_ _ | refine blk_drew ?_ | refine blk_alloc ?_ _)); exact BK119.out) hb); have n1_ := Aside0.mk (below_step (by repeat (first | (with_reducible first | exact HB.out | apply below_alloc | apply pw_below_drewN | apply below_drew1 | refine below_set ?_ GE119.out) | exact HB.out)) hb); have n2_ := Aside0.mk (hbox); have n3_ := Aside0.mk ((by rw [hg]; exact (below_size (by repeat (first | (with_reducible first | exact HB.out | apply below_alloc | apply pw_below_drewN | apply below_drew1 | refine below_set ?_ GE119.out) | exact HB.out))) : w.heap.size ≤ gb120)); have n4_ := Aside0.mk ((by rw [hg]; exact (below_size (by repeat (first | (with_reducible first | exact HB.out | apply below_alloc | apply pw_below_drewN | apply below_drew1 | refine below_set ?_ GE119.out) | exact HB.out))) : w.heap.size ≤ gb120)); have n5_ := Aside0.mk ((by rw [hg]; exact Nat.ne_of_lt (blk_lt (g := gb119) (o := .cells #[.slice A0_0 l0_0.length c0_0, .slice A0_1 l0_1.length c0_1, .slice A0_2 l0_2.length c0_2] 26 (0, 0)) (by (with_reducible repeat (first | refine blk_drewN ?_ _ | refine blk_drew ?_ | refine blk_alloc ?_ _)); exact BK119.out)) : gb119 ≠ gb120)); have n6_ := Aside0.mk ((by rw [hg]; exact Nat.ne_of_gt (blk_lt (g := gb119) (o := .cells #[.slice A0_0 l0_0.length c0_0, .slice A0_1 l0_1.length c0_1, .slice A0_2 l0_2.length c0_2] 26 (0, 0)) (by (with_reducible repeat (first | refine blk_drewN ?_ _ | refine blk_drew ?_ | refine blk_alloc ?_ _)); exact BK119.out)) : gb120 ≠ gb119)); clear BK119; clear HB; have BK119 := n0_; have HB := n1_; have BK120 := n2_; have GW120 := n3_; have GE120 := n4_; have NB119_120 := n5_; have NB120_119 := n6_; clear n0_ n1_ n2_ n3_ n4_ n5_ n6_; clear hb hbox hg))
  have n0_ := Aside0.mk (blk_drew BK119.out)
  have n1_ := Aside0.mk (blk_drew BK120.out)
  have n2_ := Aside0.mk (below_drew1 HB.out)
  clear BK119
  clear BK120
  clear HB
  have BK119 := n0_
  have BK120 := n1_
  have HB := n2_
  clear n0_ n1_ n2_
  refine start_ (n := 11) (S := fun w' => w'.cell? ⟨gb119, 0, none⟩ = some (.slice A0_0 l0_0.length c0_0) ∧ w'.cell? ⟨gb119, 1, none⟩ = some (.slice A0_1 l0_1.length c0_1) ∧ w'.cell? ⟨gb119, 2, none⟩ = some (.slice A0_2 l0_2.length c0_2)) (ds := []) #[false, false, false, false, false, false, false, false, false, false, false] (by kernel_rfl) rfl rfl ⟨(blk_cell BK119.out 0).trans rfl, (blk_cell BK119.out 1).trans rfl, (blk_cell BK119.out 2).trans rfl⟩ (fun hHeld => ?_); refine with_tabW env_copied.tab1 env_copied.bits1 (fun HT_ HW_ => ?_)
  generalize w6.drew = w7 at BK119 BK120 HB hHeld ⊢
  refine pure_ (i := 0) (N := some 3) (v := ?_) (a' := ?_) #[true, false, false, false, false, false, false, false, false, false, false] rfl rfl (any_of HT_.out (by kernel_rfl)) (fun _ _ _ h => h) (Or.inl ⟨by rfl, ?_⟩) ?_ ?_
  rotate_left
  · intro w'
    go_simp
    with_reducible rfl
  rotate_left
  · simp only [Act.put, List.setIfInBounds_toArray, List.set_cons_zero, List.set_cons_succ, i64_w, i32_w]
    rfl
  refine pure_ (i := 3) (N := some 6) (v := ?_) (a' := ?_) #[true, false, false, true, false, false, false, false, false, false, false] rfl rfl (any_of HT_.out (by kernel_rfl)) (fun _ _ _ h => h) (Or.inl ⟨by rfl, ?_⟩) ?_ ?_
  rotate_left
  · intro w'
    go_simp
    with_reducible rfl
  rotate_left
  · simp only [Act.put, List.setIfInBounds_toArray, List.set_cons_zero, List.set_cons_succ, i64_w, i32_w]
    rfl
  refine pure_ (i := 6) (N := some 9) (v := ?_) (a' := ?_) #[true, false, false, true, false, false, true, false, false, false, false] rfl rfl (any_of HT_.out (by kernel_rfl)) (fun _ _ _ h => h) (Or.inl ⟨by rfl, ?_⟩) ?_ ?_
  rotate_left
  · intro w'
    go_simp
    with_reducible rfl
  rotate_left
  · simp only [Act.put, List.setIfInBounds_toArray, List.set_cons_zero, List.set_cons_succ, i64_w, i32_w]
    rfl
  refine take_ (i := 1) (N := some 4) (v := ?_) (a' := ?_) #[true, true, false, true, false, false, true, false, false, false, false] rfl rfl (take_ofW HT_.out HW_.out (by kernel_rfl)) (fun _ _ _ h => h) (Or.inl ⟨by rfl, ?_⟩) hHeld ?_ ?_
  rotate_left
  · rintro w' ⟨s0, s1, s2⟩
    go_simp
    with_reducible rfl
  rotate_left
  · simp only [Act.put, List.setIfInBounds_toArray, List.set_cons_zero, List.set_cons_succ, i64_w, i32_w]
    rfl
  refine take_ (i := 4) (N := some 7) (v := ?_) (a' := ?_) #[true, true, false, true, true, false, true, false, false, false, false] rfl rfl (take_ofW HT_.out HW_.out (by kernel_rfl)) (fun _ _ _ h => h) (Or.inl ⟨by rfl, ?_⟩) hHeld ?_ ?_
  rotate_left
  · rintro w' ⟨s0, s1, s2⟩
    go_simp
    with_reducible rfl
  rotate_left
  · simp only [Act.put, List.setIfInBounds_toArray, List.set_cons_zero, List.set_cons_succ, i64_w, i32_w]
    rfl
  refine take_ (i := 7) (N := some 10) (v := ?_) (a' := ?_) #[true, true, false, true, true, false, true, true, false, false, false] rfl rfl (take_ofW HT_.out HW_.out (by kernel_rfl)) (fun _ _ _ h => h) (Or.inl ⟨by rfl, ?_⟩) hHeld ?_ ?_
  rotate_left
  · rintro w' ⟨s0, s1, s2⟩
    go_simp
    with_reducible rfl
  rotate_left
  · simp only [Act.put, List.setIfInBounds_toArray, List.set_cons_zero, List.set_cons_succ, i64_w, i32_w]
    rfl
  refine one_ (i := 2) (N := some 5) #[true, true, true, true, true, false, true, true, false, false, false] rfl rfl (one_of HT_.out (by kernel_rfl)) (by decide) (fun K hK => ?_)
  refine goes_ Try.func53 (by kernel_rfl) rfl #[.slice A0_0 l0_0.length c0_0] (by rfl) rfl rfl (by (try simp only [List.map_toArray, List.map_cons, List.map_nil]); first | done | rfl | (simp only [List.length_drop, List.length_take]; rfl) | (simp [*]; done)) ?_
  with_reducible refine (api_Binding_53.calls _ _ l0_0 t121 _ ?side1 ?side2 A2.out).mono ?_
  (case side1 => repeat (first | (with_reducible exact HR0_0.out) | exact (Kd.C_below HR0_0.out HB.out) | (with_reducible refine Kd.C_alloc ?_ _) | (with_reducible refine Kd.C_drewN ?_ _) | (with_reducible refine Kd.C_drew ?_)))
  (case side2 => exact HC0_0.out)
  rintro e w8 ⟨v122, rfl, ho0, hb⟩
  refine ⟨_, rfl, ?_⟩
  have n0_ := Aside0.mk (Kd.R_lower ho0 (below_size (by repeat (first | (with_reducible first | exact HB.out | apply below_alloc | apply pw_below_drewN | apply below_drew1 | refine below_set ?_ GE119.out | refine below_set ?_ GE120.out) | exact HB.out))))
  have n1_ := Aside0.mk (blk_below (g := gb119) (o := .cells #[.slice A0_0 l0_0.length c0_0, .slice A0_1 l0_1.length c0_1, .slice A0_2 l0_2.length c0_2] 26 (0, 0)) (by (with_reducible repeat (first | refine blk_drewN ?_ _ | refine blk_drew ?_ | refine blk_alloc ?_ _)); exact BK119.out) hb)
  have n2_ := Aside0.mk (blk_below (g := gb120) (o := .cells #[.slice none 0 0, .slice none 0 0, .slice none 0 0] 26 (0, 0)) (by (with_reducible repeat (first | refine blk_drewN ?_ _ | refine blk_drew ?_ | refine blk_alloc ?_ _)); exact BK120.out) hb)
  have n3_ := Aside0.mk (below_step (by repeat (first | (with_reducible first | exact HB.out | apply below_alloc | apply pw_below_drewN | apply below_drew1 | refine below_set ?_ GE119.out | refine below_set ?_ GE120.out) | exact HB.out)) hb)
  clear BK119
  clear BK120
  clear HB
  have HO123 := n0_
  have BK119 := n1_
  have BK120 := n2_
  have HB := n3_
  clear n0_ n1_ n2_ n3_
  (try clear hb)
  (try clear hb2)
  (try clear hk)
  (try clear hi)
  (try clear ho0)
  refine hK.out _ _ ⟨(blk_cell BK119.out 0).trans rfl, (blk_cell BK119.out 1).trans rfl, (blk_cell BK119.out 2).trans rfl⟩ (fun hHeld => ?_)
  clear hK K
  refine norm_ (a' := ?_) ?_ ?_
  rotate_left
  · show Act.put _ (some 5) _ = _
    simp only [Act.put, List.setIfInBounds_toArray, List.set_cons_zero, List.set_cons_succ, i64_w, i32_w]
    rfl
  refine one_ (i := 5) (N := some 8) #[true, true, true, true, true, true, true, true, false, false, false] rfl rfl (one_of HT_.out (by kernel_rfl)) (by decide) (fun K hK => ?_)
  refine goes_ Try.func54 (by kernel_rfl) rfl #[.slice A0_1 l0_1.length c0_1] (by rfl) rfl rfl (by (try simp only [List.map_toArray, List.map_cons, List.map_nil]); first | done | rfl | (simp only [List.length_drop, List.length_take]; rfl) | (simp [*]; done)) ?_
  with_reducible refine (slices_Clone_string_string.calls _ _ l0_1 t124 _ ?side1 ?side2 A3.out).mono ?_
  (case side1 => repeat (first | (with_reducible exact HR0_1.out) | exact (Kd.C_below HR0_1.out HB.out) | (with_reducible refine Kd.C_alloc ?_ _) | (with_reducible refine Kd.C_drewN ?_ _) | (with_reducible refine Kd.C_drew ?_)))
  (case side2 => exact HC0_1.out)
  rintro e w9 ⟨v125, rfl, ho0, hb⟩
  refine ⟨_, rfl, ?_⟩
  have n0_ := Aside0.mk (Kd.R_below (by (with_reducible repeat (first | apply Kd.R_alloc | apply Kd.R_drewN | apply Kd.R_drew)); exact HO123.out) hb)
  have n1_ := Aside0.mk (Kd.R_lower ho0 (below_size (by repeat (first | (with_reducible first | exact HB.out | apply below_alloc | apply pw_below_drewN | apply below_drew1 | refine below_set ?_ GE119.out | refine below_set ?_ GE120.out) | exact HB.out))))
  have n2_ := Aside0.mk (blk_below (g := gb119) (o := .cells #[.slice A0_0 l0_0.length c0_0, .slice A0_1 l0_1.length c0_1, .slice A0_2 l0_2.length c0_2] 26 (0, 0)) (by (with_reducible repeat (first | refine blk_drewN ?_ _ | refine blk_drew ?_ | refine blk_alloc ?_ _)); exact BK119.out) hb)
  have n3_ := Aside0.mk (blk_below (g := gb120) (o := .cells #[.slice none 0 0, .slice none 0 0, .slice none 0 0] 26 (0, 0)) (by (with_reducible repeat (first | refine blk_drewN ?_ _ | refine blk_drew ?_ | refine blk_alloc ?_ _)); exact BK120.out) hb)
  have n4_ := Aside0.mk (below_step (by repeat (first | (with_reducible first | exact HB.out | apply below_alloc | apply pw_below_drewN | apply below_drew1 | refine below_set ?_ GE119.out | refine below_set ?_ GE120.out) | exact HB.out)) hb)
  clear HO123
  clear BK119
  clear BK120
  clear HB
  have HO123 := n0_
  have HO126 := n1_
  have BK119 := n2_
  have BK120 := n3_
  have HB := n4_
  clear n0_ n1_ n2_ n3_ n4_
  (try clear hb)
  (try clear hb2)
  (try clear hk)
  (try clear hi)
  (try clear ho0)
  refine hK.out _ _ ⟨(blk_cell BK119.out 0).trans rfl, (blk_cell BK119.out 1).trans rfl, (blk_cell BK119.out 2).trans rfl⟩ (fun hHeld => ?_)
  clear hK K
  refine norm_ (a' := ?_) ?_ ?_
  rotate_left
  · show Act.put _ (some 8) _ = _
    simp only [Act.put, List.setIfInBounds_toArray, List.set_cons_zero, List.set_cons_succ, i64_w, i32_w]
    rfl
  refine one_ (i := 8) (N := some 11) #[true, true, true, true, true, true, true, true, true, false, false] rfl rfl (one_of HT_.out (by kernel_rfl)) (by decide) (fun K hK => ?_)
  refine goes_ Try.func55 (by kernel_rfl) rfl #[.slice A0_2 l0_2.length c0_2] (by rfl) rfl rfl (by (try simp only [List.map_toArray, List.map_cons, List.map_nil]); first | done | rfl | (simp only [List.length_drop, List.length_take]; rfl) | (simp [*]; done)) ?_
  with_reducible refine (api_Fun_55.calls _ _ l0_2 t127 _ ?side1 ?side2 A4.out).mono ?_
  (case side1 => repeat (first | (with_reducible exact HR0_2.out) | exact (Kd.C_below HR0_2.out HB.out) | (with_reducible refine Kd.C_alloc ?_ _) | (with_reducible refine Kd.C_drewN ?_ _) | (with_reducible refine Kd.C_drew ?_)))
  (case side2 => exact HC0_2.out)
  rintro e w10 ⟨v128, rfl, ho0, hb⟩
  refine ⟨_, rfl, ?_⟩
  have n0_ := Aside0.mk (Kd.R_below (by (with_reducible repeat (first | apply Kd.R_alloc | apply Kd.R_drewN | apply Kd.R_drew)); exact HO123.out) hb)
  have n1_ := Aside0.mk (Kd.R_below (by (with_reducible repeat (first | apply Kd.R_alloc | apply Kd.R_drewN | apply Kd.R_drew)); exact HO126.out) hb)
  have n2_ := Aside0.mk (Kd.R_lower ho0 (below_size (by repeat (first | (with_reducible first | exact HB.out | apply below_alloc | apply pw_below_drewN | apply below_drew1 | refine below_set ?_ GE119.out | refine below_set ?_ GE120.out) | exact HB.out))))
  have n3_ := Aside0.mk (blk_below (g := gb119) (o := .cells #[.slice A0_0 l0_0.length c0_0, .slice A0_1 l0_1.length c0_1, .slice A0_2 l0_2.length c0_2] 26 (0, 0)) (by (with_reducible repeat (first | refine blk_drewN ?_ _ | refine blk_drew ?_ | refine blk_alloc ?_ _)); exact BK119.out) hb)
  have n4_ := Aside0.mk (blk_below (g := gb120) (o := .cells #[.slice none 0 0, .slice none 0 0, .slice none 0 0] 26 (0, 0)) (by (with_reducible repeat (first | refine blk_drewN ?_ _ | refine blk_drew ?_ | refine blk_alloc ?_ _)); exact BK120.out) hb)
  have n5_ := Aside0.mk (below_step (by repeat (first | (with_reducible first | exact HB.out | apply below_alloc | apply pw_below_drewN | apply below_drew1 | refine below_set ?_ GE119.out | refine below_set ?_ GE120.out) | exact HB.out)) hb)
  clear HO123
  clear HO126
  clear BK119
  clear BK120
  clear HB
  have HO123 := n0_
  have HO126 := n1_
  have HO129 := n2_
  have BK119 := n3_
  have BK120 := n4_
  have HB := n5_
  clear n0_ n1_ n2_ n3_ n4_ n5_
  (try clear hb)
  (try clear hb2)
  (try clear hk)
  (try clear hi)
  (try clear ho0)
  obtain ⟨Ao11, co11, eo11⟩ := Kd.R_slice HO129.out
  (first | subst eo11 | (injection eo11 with f1_ f2_ f3_; have f4_ := f1_.symm; have f5_ := f3_.symm; clear f1_ f2_ f3_; subst f4_; subst f5_))
  obtain ⟨Ao12, co12, eo12⟩ := Kd.R_slice HO126.out
  (first | subst eo12 | (injection eo12 with f1_ f2_ f3_; have f4_ := f1_.symm; have f5_ := f3_.symm; clear f1_ f2_ f3_; subst f4_; subst f5_))
  obtain ⟨Ao13, co13, eo13⟩ := Kd.R_slice HO123.out
  (first | subst eo13 | (injection eo13 with f1_ f2_ f3_; have f4_ := f1_.symm; have f5_ := f3_.symm; clear f1_ f2_ f3_; subst f4_; subst f5_))
  refine hK.out _ _ ⟨(blk_cell BK119.out 0).trans rfl, (blk_cell BK119.out 1).trans rfl, (blk_cell BK119.out 2).trans rfl⟩ (fun hHeld => ?_)
  clear hK K
  refine norm_ (a' := ?_) ?_ ?_
  rotate_left
  · show Act.put _ (some 11) _ = _
    simp only [Act.put, List.setIfInBounds_toArray, List.set_cons_zero, List.set_cons_succ, i64_w, i32_w]
    rfl
  refine pure_ (i := 9) (N := some 12) (v := ?_) (a' := ?_) #[true, true, true, true, true, true, true, true, true, true, false] rfl rfl (any_of HT_.out (by kernel_rfl)) (fun _ _ _ h => h) (Or.inl ⟨by rfl, ?_⟩) ?_ ?_
  rotate_left
  · intro w'
    go_simp
    with_reducible rfl
  rotate_left
  · simp only [Act.put, List.setIfInBounds_toArray, List.set_cons_zero, List.set_cons_succ, i64_w, i32_w]
    rfl
  refine one_ (i := 10) (N := none) #[true, true, true, true, true, true, true, true, true, true, true] rfl rfl (one_of HT_.out (by kernel_rfl)) (by decide) (fun K hK => ?_)
  have hs14 : w10.cell? ⟨gb120, 0, none⟩ = some (.slice none 0 0) := (blk_cell BK120.out 0).trans rfl
  have hfs14 := blk_frozen BK120.out 0
  have hns14_0 := NB119_120.out
  have hms14_0 := NB120_119.out
  have hs15 : w10.cell? ⟨gb120, 1, none⟩ = some (.slice none 0 0) := (blk_cell BK120.out 1).trans rfl
  have hfs15 := blk_frozen BK120.out 1
  have hns15_0 := NB119_120.out
  have hms15_0 := NB120_119.out
  have hs16 : w10.cell? ⟨gb120, 2, none⟩ = some (.slice none 0 0) := (blk_cell BK120.out 2).trans rfl
  have hfs16 := blk_frozen BK120.out 2
  have hns16_0 := NB119_120.out
  have hms16_0 := NB120_119.out
  refine skip_ (w1 := ?_) (by rfl) rfl ?_ ?_
  rotate_left
  · go_simp
    rfl
  refine hK.out _ _ ⟨((cell_far (p := ⟨gb120, _, none⟩) NB119_120.out _).trans (((cell_far (p := ⟨gb120, _, none⟩) NB119_120.out _).trans (((cell_far (p := ⟨gb120, _, none⟩) NB119_120.out _).trans (hHeld.1)))))), ((cell_far (p := ⟨gb120, _, none⟩) NB119_120.out _).trans (((cell_far (p := ⟨gb120, _, none⟩) NB119_120.out _).trans (((cell_far (p := ⟨gb120, _, none⟩) NB119_120.out _).trans (hHeld.2.1)))))), ((cell_far (p := ⟨gb120, _, none⟩) NB119_120.out _).trans (((cell_far (p := ⟨gb120, _, none⟩) NB119_120.out _).trans (((cell_far (p := ⟨gb120, _, none⟩) NB119_120.out _).trans (hHeld.2.2))))))⟩ (fun hHeld => ?_)
  clear hK K
  refine done_ (done_of HT_.out (by kernel_rfl)) ?_
  try go_wp2
  refine bodyPost_ret (results_cell_row rfl _ _ gb120 26 #[.slice Ao13 t121.length co13, .slice Ao12 t124.length co12, .slice Ao11 t127.length co11] (0, 0) _ rfl (by (with_reducible repeat (first | refine blk_drewN ?_ _ | refine blk_drew ?_ | refine blk_alloc ?_ _)); refine blk_put (cs := #[.slice Ao13 t121.length co13, .slice Ao12 t124.length co12, .slice none 0 0]) ?_ 2 _ rfl; (with_reducible repeat (first | refine blk_drewN ?_ _ | refine blk_drew ?_ | refine blk_alloc ?_ _)); refine blk_put (cs := #[.slice Ao13 t121.length co13, .slice none 0 0, .slice none 0 0]) ?_ 1 _ rfl; (with_reducible repeat (first | refine blk_drewN ?_ _ | refine blk_drew ?_ | refine blk_alloc ?_ _)); refine blk_put (cs := #[.slice none 0 0, .slice none 0 0, .slice none 0 0]) ?_ 0 _ rfl; (with_reducible repeat (first | refine blk_drewN ?_ _ | refine blk_drew ?_ | refine blk_alloc ?_ _)); exact BK120.out) Try.underlying26 rfl (by kernel_rfl)) rfl ?_
  exact ⟨_, _, _, by first | rfl | (simp [errW_none, errW_some] <;> rfl) | (simp [*, errW_none, errW_some] <;> rfl), by (with_reducible repeat (first | apply Kd.R_alloc | apply Kd.R_drewN | apply Kd.R_drew)); exact Kd.R_mono (Kd.R_far (p := ⟨gb120, 2, none⟩) (Kd.R_far (p := ⟨gb120, 1, none⟩) (Kd.R_far (p := ⟨gb120, 0, none⟩) (Kd.R_types HO123.out BK120.out (by decide)) (fun _ hk => hk.2) (.slice Ao13 t121.length co13)) (fun _ hk => hk.2) (.slice Ao12 t124.length co12)) (fun _ hk => hk.2) (.slice Ao11 t127.length co11)) (fun _ hk => trivial), by (with_reducible repeat (first | apply Kd.R_alloc | apply Kd.R_drewN | apply Kd.R_drew)); exact Kd.R_mono (Kd.R_far (p := ⟨gb120, 2, none⟩) (Kd.R_far (p := ⟨gb120, 1, none⟩) (Kd.R_far (p := ⟨gb120, 0, none⟩) (Kd.R_types HO126.out BK120.out (by decide)) (fun _ hk => hk.2) (.slice Ao13 t121.length co13)) (fun _ hk => hk.2) (.slice Ao12 t124.length co12)) (fun _ hk => hk.2) (.slice Ao11 t127.length co11)) (fun _ hk => trivial), by (with_reducible repeat (first | apply Kd.R_alloc | apply Kd.R_drewN | apply Kd.R_drew)); exact Kd.R_mono (Kd.R_far (p := ⟨gb120, 2, none⟩) (Kd.R_far (p := ⟨gb120, 1, none⟩) (Kd.R_far (p := ⟨gb120, 0, none⟩) (Kd.R_types HO129.out BK120.out (by decide)) (fun _ hk => hk.2) (.slice Ao13 t121.length co13)) (fun _ hk => hk.2) (.slice Ao12 t124.length co12)) (fun _ hk => hk.2) (.slice Ao11 t127.length co11)) (fun _ hk => trivial), by repeat (first | (with_reducible first | exact HB.out | apply below_alloc | apply pw_below_drewN | apply below_drew1 | refine below_set ?_ GE119.out | refine below_set ?_ GE120.out) | exact HB.out)⟩

-- NOT PRINTED: function 61 (api_Fun_string)

/-! ### api_Fun_46: function 46 -/
theorem api_Fun_46.cmp_any (a b : ByteArray) (w : World) : Calls Try.prog 60 #[.string a, .string b] w fun e w' => e = .returned (.int .i64 (Kd.cmpS a b)) ∧ w = w' := by
  by_cases h1 : Op.bytesLess a.toList b.toList = true
  · have e : Kd.cmpS a b = -1 := by unfold Kd.cmpS; rw [if_pos h1]
    rw [e]
    clear e
    go_enter Try.func60, Try.ntmps60
    go_wp2
    go_ret
    exact ⟨rfl, rfl⟩
  · by_cases h2 : a.toList = b.toList
    · have e : Kd.cmpS a b = 0 := by unfold Kd.cmpS; rw [if_neg h1, if_pos h2]
      rw [e]
      clear e
      have h1 := Bool.eq_false_iff.mpr h1
      have h3 : (!a.toList == b.toList) = false := by simpa using h2
      clear h2
      go_enter Try.func60, Try.ntmps60
      go_wp2
      go_ret
      exact ⟨rfl, rfl⟩
    · have e : Kd.cmpS a b = 1 := by unfold Kd.cmpS; rw [if_neg h1, if_neg h2]
      rw [e]
      clear e
      have h1 := Bool.eq_false_iff.mpr h1
      have h3 : (!a.toList == b.toList) = true := by simpa using h2
      clear h2
      go_enter Try.func60, Try.ntmps60
      go_wp2
      go_ret
      exact ⟨rfl, rfl⟩
theorem api_Fun_46.key_any (a : ByteArray) (b : Int) (w : World) : Calls Try.prog 37 #[.agg #[.string a, .int .i64 b]] w fun e w' => e = .returned (.string a) ∧ Below w.heap.size w w' := by
  go_enter Try.func37, Try.ntmps37
  go_wp2
  go_ret
  exact ⟨rfl, below_alloc (Below.refl _ _) _⟩
theorem api_Fun_46.cl_any (a : ByteArray) (b : Int) (s : ByteArray) (p : Nat) (w : World) (hp : w.cell? ⟨p, 0, none⟩ = some (.func (.func 37) #[] #[])) (hlt : p < w.heap.size) :
    Calls Try.prog 62 #[.agg #[.string a, .int .i64 b], .string s, .pointer (some ⟨p, 0, none⟩)] w fun e w' => e = .returned (.int .i64 (Kd.cmpS a s)) ∧ Below w.heap.size w w' := by
  go_enter Try.func62, Try.ntmps62
  go_wp2_with (first | (go_at_call 37; go_must ((with_reducible refine (api_Fun_46.key_any a b _).mono ?_); rintro e w1 ⟨rfl, hb1⟩)) | (go_at_call 60; go_must ((with_reducible refine (api_Fun_46.cmp_any a s _).mono ?_); rintro e w' ⟨rfl, rfl⟩)))
  go_ret
  exact ⟨rfl, below_then (below_alloc (Below.refl _ _) _) (by simp) hb1⟩
def api_Fun_46.find_i (l : List S67) (s : ByteArray) : Nat := Kd.bsr (fun m => decide (Kd.cmpS (l.getD m z67).f0 s < 0)) l.length 0 l.length
theorem api_Fun_46.find_i_le (l : List S67) (s : ByteArray) : api_Fun_46.find_i l s ≤ l.length := Kd.bsr_le _ _ _ _ (Nat.zero_le _)
def api_Fun_46.hit (l : List S67) (s : ByteArray) : Bool := decide (api_Fun_46.find_i l s < l.length) && (Kd.cmpS (l.getD (api_Fun_46.find_i l s) z67).f0 s == 0)
set_option maxHeartbeats 2000000 in
theorem api_Fun_46.bs_any (A : Option Addr) (c : Nat) (l : List S67) (s : ByteArray) (p : Nat) (w : World) (hr : Kd.C k67 w A l.length l) (hc : l.length ≤ c) (HM : l.length < 140737488355328) (hp : w.cell? ⟨p, 0, none⟩ = some (.func (.func 37) #[] #[])) (hlt : p < w.heap.size) :
    Calls Try.prog 61 #[.slice A l.length c, .string s, .func (.func 62) #[] #[.pointer (some ⟨p, 0, none⟩)]] w fun e w' => e = .returned (.tuple #[.int .i64 (api_Fun_46.find_i l s), .bool (api_Fun_46.hit l s)]) ∧ Below w.heap.size w w' := by
  have HR := Aside0.mk hr
  have HC := Aside0.mk hc
  have HP := Aside0.mk hp
  have HL := Aside0.mk hlt
  clear hr hc hp hlt
  go_enter Try.func61, Try.ntmps61
  go_wp2
  go_loopw [9, 10] (fun lo hi wr => ∃ a b : Nat, a ≤ b ∧ b ≤ l.length ∧ lo = .int .i64 a ∧ hi = .int .i64 b ∧ Aside0 (Kd.bsr (fun m => decide (Kd.cmpS (l.getD m z67).f0 s < 0)) (b - a) a b = api_Fun_46.find_i l s) ∧ Aside0 (Below w.heap.size w wr)) (fun lo hi _ => (intOf hi - intOf lo).toNat)
  case atStart => exact ⟨0, l.length, Nat.zero_le _, Nat.le_refl _, rfl, rfl, ⟨by unfold api_Fun_46.find_i; exact Kd.bsr_more _ _ _ _ _ (by omega) (by omega)⟩, ⟨Below.refl _ _⟩⟩
  case round =>
    obtain ⟨a, b, hab, hbl, rfl, rfl, HI, HB⟩ := hrel
    have HR1 := Aside0.mk (Kd.C_below HR.out HB.out)
    have HP1 := (pw_cell_below HB.out HP.out)
    have HL1 := Nat.lt_of_lt_of_le HL.out HB.out.size
    by_cases hlt : a < b
    · obtain ⟨m, hm⟩ : ∃ m : Nat, m = (a + b) / 2 := ⟨_, rfl⟩
      obtain ⟨ad, e0, hx0, hx1⟩ := at_T67 HR1.out (m : Int) (by omega) (by omega)
      subst e0
      have e1 : rd_T67 l (m : Int) = l.getD m z67 := rfl
      rw [e1] at hx0 hx1
      simp only [Int.toNat_natCast] at hx0 hx1
      have em : ((a : Int) + (b : Int)) / 2 = (m : Int) := by omega
      have hd : decide ((a : Int) < (b : Int)) = true := by simpa using hlt
      have h1 : a ≤ m := by omega
      have h2 : m < b := by omega
      have HI3 : Aside0 (Kd.bsr (fun m => decide (Kd.cmpS (l.getD m z67).f0 s < 0)) (b - a) a b = if decide (Kd.cmpS (l.getD m z67).f0 s < 0) = true then Kd.bsr (fun m => decide (Kd.cmpS (l.getD m z67).f0 s < 0)) (b - (m + 1)) (m + 1) b else Kd.bsr (fun m => decide (Kd.cmpS (l.getD m z67).f0 s < 0)) (m - a) a m) := ⟨by
        obtain ⟨d, hdd⟩ : ∃ d, b - a = d + 1 := ⟨b - a - 1, by omega⟩
        rw [hdd, Kd.bsr, if_pos hlt, ← hm]
        split
        · exact Kd.bsr_more _ _ _ _ _ (by omega) (by omega)
        · exact Kd.bsr_more _ _ _ _ _ (by omega) (by omega)⟩
      clear hlt e1 hm
      generalize l.getD m z67 = x at hx0 hx1 HI3
      by_cases hc : Kd.cmpS x.f0 s < 0
      · have hcd : decide (Kd.cmpS x.f0 s < 0) = true := decide_eq_true hc
        have HI4 := Aside0.mk ((HI3.out.symm.trans HI.out))
        rw [if_pos hcd] at HI4
        clear hc HI3 HI
        go_wp2_with (go_at_call 62; go_must ((with_reducible refine (api_Fun_46.cl_any x.f0 x.f1 s p _ HP1 HL1).mono ?_); rintro e w1 ⟨rfl, hb1⟩))
        exact ⟨⟨m + 1, b, by omega, hbl, by go_num, rfl, HI4, ⟨below_step HB.out hb1⟩⟩, by simp [intOf]; omega⟩
      · have hcd : decide (Kd.cmpS x.f0 s < 0) = false := decide_eq_false hc
        have HI4 := Aside0.mk ((HI3.out.symm.trans HI.out))
        rw [if_neg (by simp [hc])] at HI4
        clear hc HI3 HI
        go_wp2_with (go_at_call 62; go_must ((with_reducible refine (api_Fun_46.cl_any x.f0 x.f1 s p _ HP1 HL1).mono ?_); rintro e w1 ⟨rfl, hb1⟩))
        exact ⟨⟨a, m, by omega, by omega, rfl, rfl, HI4, ⟨below_step HB.out hb1⟩⟩, by simp [intOf]; omega⟩
    · obtain rfl : a = b := by omega
      have hi : api_Fun_46.find_i l s = a := by
        have h := HI.out
        rw [Nat.sub_self] at h
        exact h.symm
      have hd : decide ((a : Int) < (a : Int)) = false := by simp
      by_cases hal : a < l.length
      · obtain ⟨ad, e0, hx0, hx1⟩ := at_T67 HR1.out (a : Int) (by omega) (by omega)
        subst e0
        have e1 : rd_T67 l (a : Int) = l.getD a z67 := rfl
        rw [e1] at hx0 hx1
        simp only [Int.toNat_natCast] at hx0 hx1
        have hh : api_Fun_46.hit l s = (Kd.cmpS (l.getD a z67).f0 s == 0) := by unfold api_Fun_46.hit; rw [hi]; simp [hal]
        have HH := Aside0.mk hh
        have HE := Aside0.mk hi
        clear hlt e1 hi hh HI
        generalize l.getD a z67 = x at hx0 hx1 HH
        go_wp2_with (go_at_call 62; go_must ((with_reducible refine (api_Fun_46.cl_any x.f0 x.f1 s p _ HP1 HL1).mono ?_); rintro e w1 ⟨rfl, hb1⟩))
        go_ret2
        rw [HE.out, HH.out]
        exact ⟨rfl, below_step HB.out hb1⟩
      · have hh : api_Fun_46.hit l s = false := by unfold api_Fun_46.hit; rw [hi]; simp [hal]
        have HH := Aside0.mk hh
        have HE := Aside0.mk hi
        clear hlt hi hh HI
        go_wp2
        go_ret2
        rw [HE.out, HH.out]
        exact ⟨rfl, HB.out⟩
def api_Fun_46.f (l0 : List S67) (a1 : ByteArray) : Option (Int × Bool) := if l0.length < 140737488355328 then some ((api_Fun_46.find_i l0 a1 : Int), api_Fun_46.hit l0 a1) else none
theorem api_Fun_46.calls (A0 : Option Addr) (c0 : Nat) (l0 : List S67) (a1 : ByteArray) (r1 : Int) (r2 : Bool) (w : World) (hr0 : Kd.C k67 w A0 l0.length l0) (hc0 : l0.length ≤ c0) (h : api_Fun_46.f l0 a1 = some (r1, r2)) :
    Calls Try.prog 46 #[.slice A0 l0.length c0, .string a1, .func (.func 37) #[] #[]] w fun e w' => e = .returned (.tuple #[.int .i64 r1, .bool r2]) ∧ Below w.heap.size w w' := by
  unfold api_Fun_46.f at h
  by_cases hl : l0.length < 140737488355328
  · rw [if_pos hl] at h
    injection h with h
    injection h with h1 h2
    subst h1 h2
    have hmf : ∀ (fn : Fn) (first cap : Array Value) (w : World), (Instr.makeFunc fn first cap).run Try.prog w = .ok (.func fn first cap) w := fun _ _ _ _ => rfl
    have HR := Aside0.mk hr0
    have HC := Aside0.mk hc0
    have HM := Aside0.mk hl
    clear hr0 hc0 hl
    go_enter Try.func46, Try.ntmps46
    go_wp2_with (go_at_call 61; go_must ((with_reducible refine (api_Fun_46.bs_any A0 c0 l0 a1 w.heap.size _ ?s1 HC.out HM.out ?s2 ?s3).mono ?_); (case s1 => exact Kd.C_below HR.out (below_alloc (Below.refl _ _) _)); (case s2 => exact (Kd.heap_cell (heap_alloc_new _ _) 0)); (case s3 => simp); rintro e w1 ⟨rfl, hb1⟩))
    go_ret2
    exact ⟨rfl, below_then (below_alloc (Below.refl _ _) _) (by simp) hb1⟩
  · rw [if_neg hl] at h
    cases h


-- NOT PRINTED: function 63 (api_Fun_63)

-- NOT PRINTED: function 70 (api_Fun_70)

-- NOT PRINTED: function 68 (api_Fun_68)

-- NOT PRINTED: function 64 (api_Fun_64)

/-! ### api_Fun_56: function 56 -/
theorem api_Fun_56.ins_flat : Kd.Flat k67 := fun w w' base ok ok' x cs h => by
  obtain rfl := k67_openM h
  exact k67_mkM _ _ _ _
theorem api_Fun_56.ins_info : (Try.prog.info? 67).map (fun i => (i.zero, i.size, i.bytes)) = some (some (.agg #[.string ⟨#[]⟩, .int .i64 0]), 2, 24) := by kernel_rfl
def api_Fun_56.ins_cells (x : S67) : List Value := [.string x.f0, .int .i64 x.f1]
theorem api_Fun_56.ins_lit {W : World} {g : Nat} {x : S67} (h : W.heap[g]? = some (.cells (api_Fun_56.ins_cells x).toArray 67 (0, 0))) : Kd.C k67 W (some ⟨g, 0, none⟩) 1 [x] :=
  ⟨rfl, by omega, fun _ => ⟨_, rfl, fun j p hj => by
    have hj0 : j = 0 := by have := (List.getElem?_eq_some_iff.1 hj).1; simpa using this
    subst hj0
    obtain rfl : x = p := by simpa using hj
    refine ⟨_, rfl, k67_mk _ _, fun i u hu => ?_⟩
    have e : k67.sz = 2 := rfl
    have ha : (⟨g, 0, none⟩ : Addr).add (0 * k67.sz + i) = ⟨g, i, none⟩ := by rw [Nat.zero_mul, Nat.zero_add]; exact add_plain _ _
    rw [ha, blk_cell h]
    simpa [api_Fun_56.ins_cells] using hu⟩⟩
set_option maxHeartbeats 4000000 in
set_option maxRecDepth 100000 in
/-- slices.Insert behind the last element: an append. -/
theorem api_Fun_56.ins_end (B gv : Nat) (v : Value) (xs : List S67) (x : S67) (W : World) (hgv : W.heap[gv]? = some (.cells (api_Fun_56.ins_cells x).toArray 67 (0, 0))) (HO : Kd.R k67 67 W B (fun z => z ≠ gv) v xs) (hB : B ≤ W.heap.size) (hbig : (xs.length + 1) * 24 ≤ 140737488355328) :
    Calls Try.prog 56 #[v, .int .i64 (xs.length : Int), .slice (some ⟨gv, 0, none⟩) 1 1] W fun e w' => ∃ v', e = .returned v' ∧ Kd.R k67 67 w' B (fun _ => True) v' (xs ++ [x]) ∧ Below B W w' := by
  have HRx : Aside0 (ReadsRow (k67.K W) k67.sz W (some ⟨gv, 0, none⟩) 1 [x]) := ⟨api_Fun_56.ins_lit hgv⟩
  have hlt : gv < W.heap.size := (Array.getElem?_eq_some_iff.1 hgv).1
  have HOx := Aside0.mk HO
  obtain ⟨hok, inner, hown, hr⟩ := HO
  rcases hown.2 with ⟨rfl, hn0⟩ | ⟨g, cap, cur, rfl, hgB, hh, hnc, hcm, hcs, htake⟩
  · obtain rfl : xs = [] := List.eq_nil_of_length_eq_zero hn0
    clear hgv hok hown hr hn0
    simp only [List.length_nil] at hbig ⊢
    go_enter Try.func56, Try.ntmps56
    go_wp2_with ((with_reducible refine gate_builtin (b := .append) (xs := #[.tmp 23, .tmp 24]) rfl ?_); at_builtin; go_must (refine Kd.R_append_rows k67 (w0 := W) B rfl (.tmp 23) (.tmp 24) 24 67 (.agg #[.string ⟨#[]⟩, .int .i64 0]) 24 rfl Try.underlying24 api_Fun_56.ins_info rfl (by decide) (by decide) _ ([] : List S67) [x] (some ⟨gv, 0, none⟩) 1 1 (fun z => z ≠ gv) (fun _ => False) rfl rfl ?aO ?aR (fun _ _ h => h) ?aP ?aF ?aB ?aS ?aL ?_; (case aO => exact HOx.out); (case aR => exact HRx.out); (case aP => exact fun _ hk => hk.elim); (case aF => exact fun k hk => by omega); (case aB => exact Below.refl _ _); (case aS => exact hB); (case aL => exact hbig)); intro v1 w1 ho hb hg hat; have HO1 := Aside0.mk ho; have HB1 := Aside0.mk hb; clear ho hb hg hat)
    go_ret
    exact ⟨_, rfl, Kd.R_mono HO1.out (fun _ _ => trivial), HB1.out⟩
  · have h1 : ((xs.length : Int) ≤ (xs.length : Int)) = True := eq_true (by omega)
    have h2 : ((0 : Int) ≤ (xs.length : Int)) = True := eq_true (by omega)
    have hc0 : Aside0 (xs.length ≤ cap) := ⟨hnc⟩
    clear hgv hok hown hr hh hcs htake hgB hcm inner cur
    by_cases hce : cap = xs.length
    · subst hce
      clear hnc
      go_enter Try.func56, Try.ntmps56
      go_wp2_with ((with_reducible refine gate_builtin (b := .append) (xs := #[.tmp 23, .tmp 24]) rfl ?_); at_builtin; go_must (refine Kd.R_append_rows k67 (w0 := W) B rfl (.tmp 23) (.tmp 24) 24 67 (.agg #[.string ⟨#[]⟩, .int .i64 0]) 24 rfl Try.underlying24 api_Fun_56.ins_info rfl (by decide) (by decide) _ xs [x] (some ⟨gv, 0, none⟩) 1 1 (fun z => z ≠ gv) (fun _ => False) rfl rfl ?aO ?aR (fun _ _ h => h) ?aP ?aF ?aB ?aS ?aL ?_; (case aO => exact HOx.out); (case aR => exact HRx.out); (case aP => exact fun _ hk => hk.elim); (case aF => exact fun k hk => by omega); (case aB => exact Below.refl _ _); (case aS => exact hB); (case aL => exact hbig)); intro v1 w1 ho hb hg hat; have HO1 := Aside0.mk ho; have HB1 := Aside0.mk hb; clear ho hb hg hat)
      go_ret
      exact ⟨_, rfl, Kd.R_mono HO1.out (fun _ _ => trivial), HB1.out⟩
    · go_enter Try.func56, Try.ntmps56
      go_wp2_with ((with_reducible refine gate_builtin (b := .append) (xs := #[.tmp 23, .tmp 24]) rfl ?_); at_builtin; go_must (refine Kd.R_append_rows k67 (w0 := W) B rfl (.tmp 23) (.tmp 24) 24 67 (.agg #[.string ⟨#[]⟩, .int .i64 0]) 24 rfl Try.underlying24 api_Fun_56.ins_info rfl (by decide) (by decide) _ xs [x] (some ⟨gv, 0, none⟩) 1 1 (fun z => z ≠ gv) (fun _ => False) rfl rfl ?aO ?aR (fun _ _ h => h) ?aP ?aF ?aB ?aS ?aL ?_; (case aO => exact HOx.out); (case aR => exact HRx.out); (case aP => exact fun _ hk => hk.elim); (case aF => exact fun k hk => by omega); (case aB => exact Below.refl _ _); (case aS => exact hB); (case aL => exact hbig)); intro v1 w1 ho hb hg hat; have HO1 := Aside0.mk ho; have HB1 := Aside0.mk hb; clear ho hb hg hat)
      go_ret
      exact ⟨_, rfl, Kd.R_mono HO1.out (fun _ _ => trivial), HB1.out⟩
set_option maxHeartbeats 4000000 in
set_option maxRecDepth 100000 in
/-- slices.Insert, room for one more: in place. -/
theorem api_Fun_56.ins_room (g n c i gv : Nat) (cs cx : List Value) (cur : Array Value) (w : World) (hi : i < n) (hroom : n + 1 ≤ c) (hc63 : c ≤ 9223372036854775807) (hne : gv ≠ g) (hh : w.heap[g]? = some (.cells cur 67 (0, 0))) (hcur : cur.size = c * 2)
    (htake : cur.toList.take (n * 2) = cs) (hgv : w.heap[gv]? = some (.cells cx.toArray 67 (0, 0))) (hvl : cx.length = 2) (h1c : ∀ v ∈ cs, v.oneCell' = true) (h1v : ∀ v ∈ cx, v.oneCell' = true) :
    Calls Try.prog 56 #[.slice (some ⟨g, 0, none⟩) n c, .int .i64 (i : Int), .slice (some ⟨gv, 0, none⟩) 1 1] w fun e w' => e = .returned (.slice (some ⟨g, 0, none⟩) (n + 1) c) ∧ w' = (w.drew.setCells g ((i + 1) * 2) (cs.drop (i * 2))).setCells g (i * 2) cx := by
  have hcl : cs.length = n * 2 := by rw [← htake, List.length_take, Array.length_toList]; omega
  have hsz : (Try.prog.info? 67).map (·.size) = some 2 := by
    obtain ⟨i0, hi0, h0, h1, h2⟩ := info_parts api_Fun_56.ins_info
    rw [hi0]; simp [h1]
  have hcell : ∀ (W : World), W.heap = w.heap → ∀ j v, cs[j]? = some v → W.cell? ⟨g, j, none⟩ = some v := fun W hW j v hj => by
    have hjl : j < cs.length := (List.getElem?_eq_some_iff.1 hj).1
    rw [cell_of_row W g _ cur 67 (0, 0) (by rw [hW]; exact hh), ← Array.getElem?_toList]
    rw [← htake, List.getElem?_take] at hj
    split at hj
    · exact hj
    · cases hj
  have hsome : ∀ (W : World), W.heap = w.heap → ∀ j, j < c * 2 → (W.cell? ⟨g, j, none⟩).isSome = true := fun W hW j hj => by
    rw [cell_of_row W g _ cur 67 (0, 0) (by rw [hW]; exact hh)]
    simp; omega
  have hov : ∀ lb cb, (callFunc 63 #[.slice (some ⟨gv, 0, none⟩) 1 1, .slice (some ⟨g, (i + 1) * 2, none⟩) lb cb]).run Try.prog w = .ok (.value (.bool false)) w := fun lb cb => by
    rw [run_callFunc_extern Try.func63 (by kernel_rfl) (by kernel_rfl) (by kernel_rfl) (e := Extern.SlicesOverlaps.overlaps #[24, 24] #[4]) (by kernel_rfl),
      Lib.run_overlaps_apart w 24 4 67 Try.underlying24 2 Try.sizeOf67 ⟨gv, 0, none⟩ ⟨g, (i + 1) * 2, none⟩ 1 1 lb cb hne 67 67 2 (c * 2) (by simp [World.shape?, hgv, hvl]) (by simp [World.shape?, hh, hcur]) (by omega) (blk_frozen hgv _) (blk_frozen hgv _)]
    rfl
  have hcp1 : ∀ (W : World), W.heap = w.heap → ∀ ty dc sc, (Builtin.copy_ #[24, 24] ty #[.slice (some ⟨g, (i + 1) * 2, none⟩) (n - i) dc, .slice (some ⟨g, i * 2, none⟩) (n + 1 - i) sc]).run Try.prog W = .ok (goInt ((n - i : Nat) : Int)) (W.setCells g ((i + 1) * 2) (cs.drop (i * 2))) := fun W hW ty dc sc =>
    Kd.run_copy_cells_sz W _ _ ty 67 g ((i + 1) * 2) (n - i) dc ⟨g, i * 2, none⟩ (n + 1 - i) sc (n - i) 2 (cs.drop (i * 2)) Try.underlying24 hsz (by simp only [Nat.min_def]; split <;> omega) (by rw [List.length_drop, hcl]; omega)
      (fun j v hj => by rw [Kd.add_plain2]; exact hcell W hW _ v (by rwa [List.getElem?_drop] at hj)) (fun j hj => hsome W hW _ (by rw [List.length_drop, hcl] at hj; omega)) (fun j hj => blk_frozen (by rw [hW]; exact hh) _) (fun v hv => h1c v (List.mem_of_mem_drop hv))
  obtain ⟨cur1, hh1, hc1, ht1⟩ := setCells_row (cs.drop (i * 2)) ((i + 1) * 2) w cur hh (by rw [List.length_drop, hcl, hcur]; omega)
  have hgv1 : (w.setCells g ((i + 1) * 2) (cs.drop (i * 2))).heap[gv]? = some (.cells cx.toArray 67 (0, 0)) := by rw [setCells_far _ _ gv hne]; exact hgv
  have hcp2 : ∀ (W : World), W.heap = (w.setCells g ((i + 1) * 2) (cs.drop (i * 2))).heap → ∀ ty dc, (Builtin.copy_ #[24, 24] ty #[.slice (some ⟨g, i * 2, none⟩) (n + 1 - i) dc, .slice (some ⟨gv, 0, none⟩) 1 1]).run Try.prog W = .ok (goInt 1) (W.setCells g (i * 2) cx) := fun W hW ty dc =>
    Kd.run_copy_cells_sz W _ _ ty 67 g (i * 2) (n + 1 - i) dc ⟨gv, 0, none⟩ 1 1 1 2 cx Try.underlying24 hsz (by simp only [Nat.min_def]; split <;> omega) (by omega)
      (fun j v hj => by rw [add_plain, cell_of_row W gv _ cx.toArray 67 (0, 0) (by rw [hW]; exact hgv1)]; simpa using hj)
      (fun j hj => by rw [cell_of_row W g _ cur1 67 (0, 0) (by rw [hW]; exact hh1)]; simp; omega) (fun j hj => blk_frozen (by rw [hW]; exact hh1) _) h1v
  have hheap : (w.drew.setCells g ((i + 1) * 2) (cs.drop (i * 2))).heap = (w.setCells g ((i + 1) * 2) (cs.drop (i * 2))).heap := by rw [← Kd.drew_setCells g (cs.drop (i * 2)) ((i + 1) * 2) w]; rfl
  have hz2 : ¬ ((i : Int) = (n : Int)) := by omega
  have hw1 : IntKind.i64.wrap ((i : Int) + 1) = (i : Int) + 1 := by rw [IntKind.wrap_i64]; omega
  have hw2 : IntKind.i64.wrap ((n : Int) + 1) = (n : Int) + 1 := by rw [IntKind.wrap_i64]; omega
  have hb1 : (0 : Int) ≤ (i : Int) + 1 := by omega
  have hin : i ≤ n := by omega
  have htn : ((i : Int) + 1).toNat = i + 1 := by omega
  have hb3 : (i : Int) ≤ (n : Int) + 1 := by omega
  have hb2 : ¬ (c = i + 1) := by omega
  have hb4 : ¬ (c = i) := by omega
  have hcpA := hcp1 w.drew rfl
  have hcpB := hcp2 (w.drew.setCells g ((i + 1) * 2) (cs.drop (i * 2))) hheap
  clear hcell hsome hcp1 hcp2 hgv1 hh1 hc1 ht1 hheap
  go_enter Try.func56, Try.ntmps56
  go_wp2_with (simp only [hov])
  go_region_law (refine Kd.step_copy_run rfl _ _ 24 24 rfl _ _ (by simp [Act.eval, Act.put]) (by simp [Act.eval, Act.put]) (hcpA _ _ _) ?_)
  go_wp2_with (at_builtin; refine Kd.wpList_copy_run _ rfl _ _ 24 24 rfl _ _ rfl rfl (hcpB _ _) ?_)
  go_ret
  exact ⟨rfl, rfl⟩
set_option maxHeartbeats 4000000 in
set_option maxRecDepth 100000 in
/-- slices.Insert, no room: a new row. -/
theorem api_Fun_56.ins_grow (g n c i gv : Nat) (cs cx : List Value) (cur : Array Value) (w : World) (hi : i < n) (hnc : n ≤ c) (hroom : c < n + 1) (hbig : (n + 1) * 24 ≤ 140737488355328) (hh : w.heap[g]? = some (.cells cur 67 (0, 0)))
    (hcur : cur.size = c * 2) (htake : cur.toList.take (n * 2) = cs) (hgv : w.heap[gv]? = some (.cells cx.toArray 67 (0, 0))) (hvl : cx.length = 2) (h1c : ∀ v ∈ cs, v.oneCell' = true) (h1v : ∀ v ∈ cx, v.oneCell' = true) :
    Calls Try.prog 56 #[.slice (some ⟨g, 0, none⟩) n c, .int .i64 (i : Int), .slice (some ⟨gv, 0, none⟩) 1 1] w fun e w' => ∃ (G : Nat) (ROW : Array Value), n + 1 ≤ G ∧ G ≤ 9223372036854775807 ∧ ROW.size = G * 2 ∧ ROW.toList.take (i * 2) = cs.take (i * 2) ∧ e = .returned (.slice (some ⟨w.heap.size, 0, none⟩) (n + 1) G) ∧
      w' = (((w.alloc (.cells ROW 67)).drew.setCells w.heap.size (i * 2) cx).drew).setCells w.heap.size ((i + 1) * 2) (cs.drop (i * 2)) := by
  have hcl : cs.length = n * 2 := by rw [← htake, List.length_take, Array.length_toList]; omega
  obtain ⟨i0, hi0, hz0, hzs, hzb⟩ := info_parts api_Fun_56.ins_info
  have hsz : (Try.prog.info? 67).map (·.size) = some 2 := by rw [hi0]; simp [hzs]
  have hgw : g < w.heap.size := (Array.getElem?_eq_some_iff.1 hh).1
  have hvw : gv < w.heap.size := (Array.getElem?_eq_some_iff.1 hgv).1
  have hcell : ∀ (W : World), W.heap[g]? = w.heap[g]? → ∀ j v, cs[j]? = some v → W.cell? ⟨g, j, none⟩ = some v := fun W hW j v hj => by
    rw [cell_of_row W g _ cur 67 (0, 0) (by rw [hW]; exact hh), ← Array.getElem?_toList]
    rw [← htake, List.getElem?_take] at hj
    split at hj
    · exact hj
    · cases hj
  have hkk : (n : Int) + 1 - (i : Int) = ((n + 1 - i : Nat) : Int) := by omega
  have hik : i + (n + 1 - i) = n + 1 := by omega
  have hold : (Builtin.firstCells i0.size i (.slice (some ⟨g, 0, none⟩) i c)).run Try.prog w.drew = .ok (cs.take (i * 2)).toArray w.drew := by
    rw [hzs]
    exact run_firstCells_some w.drew 2 i ⟨g, 0, none⟩ i c (cs.take (i * 2)) (by rw [List.length_take]; omega) (fun j v hj => by
      rw [add_plain]
      rw [List.getElem?_take] at hj
      split at hj
      · exact hcell w.drew rfl j v hj
      · cases hj)
  have hrz : ∀ ty, (Builtin.append_ #[24, 3] ty #[.slice (some ⟨g, 0, none⟩) i c, .int .i64 ((n : Int) + 1 - (i : Int))]).run Try.prog w =
      .ok (.slice (some ⟨w.heap.size, 0, none⟩) (n + 1) (grownCap w (n + 1) c 67)) (w.drew.alloc (.cells ((cs.take (i * 2)).toArray ++ Builtin.zeroCells (.agg #[.string ⟨#[]⟩, .int .i64 0] : Value).cells (n + 1 - i) ++ Builtin.zeroCells (.agg #[.string ⟨#[]⟩, .int .i64 0] : Value).cells (grownCap w (n + 1) c 67 - (n + 1))) 67)) := fun ty => by
    have h := Lib.run_append_grow_zeros w 24 3 ty 67 i0 _ .i64 .i64 Try.underlying24 Try.underlying3 hi0 hz0 (some ⟨g, 0, none⟩) i c (cs.take (i * 2)) hold (n + 1 - i) (by omega) (by omega) (by omega) (by omega) (by rw [hzb]; omega) (by rw [hzb, hik]; exact growslice_fits hroom hbig)
    rw [hik] at h
    rw [hkk]
    exact h
  obtain ⟨G, hG⟩ : ∃ G, G = grownCap w (n + 1) c 67 := ⟨_, rfl⟩
  have hGn : n + 1 ≤ G := by rw [hG]; exact grownCap_ge w _ _ _
  have hG63 : G ≤ 9223372036854775807 := by
    have := grownCap_le_maxLen w (n + 1) c 67 (by unfold maxLen; omega)
    rw [← hG] at this
    unfold maxLen at this
    omega
  obtain ⟨ROW, hROW⟩ : ∃ ROW : Array Value, ROW = (cs.take (i * 2)).toArray ++ Builtin.zeroCells (.agg #[.string ⟨#[]⟩, .int .i64 0] : Value).cells (n + 1 - i) ++ Builtin.zeroCells (.agg #[.string ⟨#[]⟩, .int .i64 0] : Value).cells (G - (n + 1)) := ⟨_, rfl⟩
  rw [← hG] at hrz
  rw [← hROW] at hrz
  have hzc : ∀ m, (Builtin.zeroCells (.agg #[.string ⟨#[]⟩, .int .i64 0] : Value).cells m).size = m * 2 := fun m => by simp [Builtin.zeroCells, Value.cells]
  have hRl : ROW.size = G * 2 := by
    rw [hROW, Array.size_append, Array.size_append, hzc, hzc, List.size_toArray, List.length_take]
    omega
  have hRt : ROW.toList.take (i * 2) = cs.take (i * 2) := by
    rw [hROW, Array.toList_append, Array.toList_append, List.append_assoc, List.take_append_of_le_length (by rw [List.length_take]; omega), List.take_of_length_le (by rw [List.length_take]; omega)]
  have hNh : ∀ (W : World), W.heap = (w.drew.alloc (.cells ROW 67)).heap → W.heap[w.heap.size]? = some (.cells ROW 67 (0, 0)) := fun W hW => by rw [hW]; exact blk_new w.drew _
  have hOh : ∀ (W : World), W.heap = (w.drew.alloc (.cells ROW 67)).heap → ∀ k, k < w.heap.size → W.heap[k]? = w.heap[k]? := fun W hW k hk => by rw [hW]; exact (below_alloc (Below.refl w.drew.heap.size w.drew) _).block k hk
  have hcpA : ∀ (W : World), W.heap = (w.drew.alloc (.cells ROW 67)).heap → ∀ ty dc, (Builtin.copy_ #[24, 24] ty #[.slice (some ⟨w.heap.size, i * 2, none⟩) (n + 1 - i) dc, .slice (some ⟨gv, 0, none⟩) 1 1]).run Try.prog W = .ok (goInt 1) (W.setCells w.heap.size (i * 2) cx) := fun W hW ty dc =>
    Kd.run_copy_cells_sz W _ _ ty 67 w.heap.size (i * 2) (n + 1 - i) dc ⟨gv, 0, none⟩ 1 1 1 2 cx Try.underlying24 hsz (by simp only [Nat.min_def]; split <;> omega) (by omega)
      (fun j v hj => by rw [add_plain, cell_of_row W gv _ cx.toArray 67 (0, 0) (by rw [hOh W hW gv hvw]; exact hgv)]; simpa using hj)
      (fun j hj => by rw [cell_of_row W _ _ ROW 67 (0, 0) (hNh W hW)]; simp; omega) (fun j hj => blk_frozen (hNh W hW) _) h1v
  obtain ⟨cur1, hh1, hc1, ht1⟩ := setCells_row cx (i * 2) (w.drew.alloc (.cells ROW 67)) ROW (hNh _ rfl) (by omega)
  have hcpB : ∀ (W : World), W.heap = ((w.drew.alloc (.cells ROW 67)).setCells w.heap.size (i * 2) cx).heap → ∀ ty dc sc, (Builtin.copy_ #[24, 24] ty #[.slice (some ⟨w.heap.size, (i + 1) * 2, none⟩) (n - i) dc, .slice (some ⟨g, i * 2, none⟩) (n - i) sc]).run Try.prog W = .ok (goInt ((n - i : Nat) : Int)) (W.setCells w.heap.size ((i + 1) * 2) (cs.drop (i * 2))) := fun W hW ty dc sc =>
    Kd.run_copy_cells_sz W _ _ ty 67 w.heap.size ((i + 1) * 2) (n - i) dc ⟨g, i * 2, none⟩ (n - i) sc (n - i) 2 (cs.drop (i * 2)) Try.underlying24 hsz (by simp only [Nat.min_def]; split <;> omega) (by rw [List.length_drop, hcl]; omega)
      (fun j v hj => by rw [Kd.add_plain2]; exact hcell W (by rw [hW, setCells_far _ _ g (by omega)]; exact hOh _ rfl g hgw) _ v (by rwa [List.getElem?_drop] at hj))
      (fun j hj => by rw [cell_of_row W _ _ cur1 67 (0, 0) (by rw [hW]; exact hh1)]; rw [List.length_drop, hcl] at hj; simp; omega) (fun j hj => blk_frozen (by rw [hW]; exact hh1) _) (fun v hv => h1c v (List.mem_of_mem_drop hv))
  have hGi : ¬ (G = i) := by omega
  have hGim : ¬ (G = i + 1) := by omega
  have hci : ¬ (c = i) := by omega
  have hz2 : ¬ ((i : Int) = (n : Int)) := by omega
  have hz3 : (c : Int) < (n : Int) + 1 := by omega
  have hw1 : IntKind.i64.wrap ((i : Int) + 1) = (i : Int) + 1 := by rw [IntKind.wrap_i64]; omega
  have hw2 : IntKind.i64.wrap ((n : Int) + 1) = (n : Int) + 1 := by rw [IntKind.wrap_i64]; omega
  have hw3 : IntKind.i64.wrap ((n : Int) + 1 - (i : Int)) = (n : Int) + 1 - (i : Int) := by rw [IntKind.wrap_i64]; omega
  have hb1 : (0 : Int) ≤ (i : Int) + 1 := by omega
  have hin : i ≤ n := by omega
  have htn : ((i : Int) + 1).toNat = i + 1 := by omega
  have hb3 : (i : Int) ≤ (n : Int) := by omega
  have hF : ((w.alloc (.cells ROW 67)).drew.setCells w.heap.size (i * 2) cx).drew.heap = ((w.drew.alloc (.cells ROW 67)).setCells w.heap.size (i * 2) cx).heap := rfl
  have hX1 := hcpA ((w.alloc (.cells ROW 67)).drew) rfl
  have hX2 := hcpB _ hF
  clear hcell hkk hik hold hROW hG hNh hOh hcpA hcpB hh1 hc1 ht1 hF
  go_enter Try.func56, Try.ntmps56
  go_wp2_with (first
    | ((with_reducible refine gate_builtin (b := .append) (xs := #[.tmp 34, .tmp 39]) rfl ?_); at_builtin; refine Lib.wpList_append_run _ rfl _ _ _ _ rfl _ _ rfl rfl _ _ (hrz _) ?_)
    | ((with_reducible refine gate_builtin (b := .copy) (xs := #[.tmp 43, .tmp 44]) rfl ?_); at_builtin; refine Kd.wpList_copy_run _ rfl _ _ 24 24 rfl _ _ rfl rfl (hX1 _ _) ?_))
  go_region_law (refine Kd.step_copy_run rfl _ _ 24 24 rfl _ _ (by simp [Act.eval, Act.put]) (by simp [Act.eval, Act.put]) (hX2 _ _ _) ?_)
  go_wp2
  go_ret
  exact ⟨G, ROW, hGn, hG63, hRl, hRt, rfl, rfl⟩
set_option maxHeartbeats 2000000 in
/-- slices.Insert of one element into a row of the call's own. -/
theorem api_Fun_56.ins (B gv i : Nat) (v : Value) (xs : List S67) (x : S67) (W : World) (hi : i ≤ xs.length) (hgv : W.heap[gv]? = some (.cells (api_Fun_56.ins_cells x).toArray 67 (0, 0))) (HO : Kd.R k67 67 W B (fun z => z ≠ gv) v xs) (hB : B ≤ W.heap.size) (hbig : (xs.length + 1) * 24 ≤ 140737488355328) :
    Calls Try.prog 56 #[v, .int .i64 (i : Int), .slice (some ⟨gv, 0, none⟩) 1 1] W fun e w' => ∃ v', e = .returned v' ∧ Kd.R k67 67 w' B (fun _ => True) v' (xs.take i ++ [x] ++ xs.drop i) ∧ Below B W w' := by
  by_cases hie : i = xs.length
  · subst hie
    rw [List.take_length, List.drop_length, List.append_nil]
    exact api_Fun_56.ins_end B gv v xs x W hgv HO hB hbig
  obtain ⟨hok, inner, hown, hr⟩ := HO
  have hil : inner.length = xs.length * 2 := hr.1
  have h1c : ∀ u ∈ inner, u.oneCell' = true := by
    intro u hu
    obtain ⟨q, hq, rfl⟩ := List.mem_iff_getElem.1 hu
    have hc := hr.2 (q / 2) _ (List.getElem?_eq_getElem (by omega))
    refine k67.K_one (k67.K_of_M hc) _ ?_
    rw [List.mem_iff_getElem?]
    refine ⟨q % 2, ?_⟩
    show ((inner.drop (q / 2 * 2)).take 2)[q % 2]? = _
    rw [List.getElem?_take, if_pos (by omega), List.getElem?_drop, Nat.mul_comm, Nat.div_add_mod, List.getElem?_eq_getElem hq]
  have h1v : ∀ u ∈ api_Fun_56.ins_cells x, u.oneCell' = true := fun u hu => k67.K_one (k67_mk W x) u hu
  have hrx : Reps (k67.M W B (fun k => k ≠ gv ∧ some k ≠ v.ownBlock)) k67.sz (xs.take i ++ [x] ++ xs.drop i) (inner.take (i * 2) ++ api_Fun_56.ins_cells x ++ inner.drop (i * 2)) := Kd.reps_put hr (k67_mkM _ _ _ _) rfl hi
  have hxl : (xs.take i ++ [x] ++ xs.drop i).length = xs.length + 1 := by simp; omega
  rcases hown.2 with ⟨rfl, hn0⟩ | ⟨g, cap, cur, rfl, hgB, hh, hnc, hcm, hcs, htake⟩
  · omega
  have hgne : gv ≠ g := fun e => hok g (by simp [Value.ownBlock]) e.symm
  have hcs' : cur.size = cap * 2 := hcs
  have htake' : cur.toList.take (xs.length * 2) = inner := htake
  have hlo : g < W.heap.size := (Array.getElem?_eq_some_iff.1 hh).1
  by_cases hroom : xs.length + 1 ≤ cap
  · refine (api_Fun_56.ins_room g xs.length cap i gv inner (api_Fun_56.ins_cells x) cur W (by omega) hroom hcm hgne hh hcs' htake' hgv rfl h1c h1v).mono ?_
    rintro e w' ⟨rfl, rfl⟩
    obtain ⟨cur1, hh1, hc1, ht1⟩ := setCells_row (inner.drop (i * 2)) ((i + 1) * 2) W.drew cur hh (by rw [List.length_drop]; omega)
    obtain ⟨cur2, hh2, hc2, ht2⟩ := setCells_row (api_Fun_56.ins_cells x) (i * 2) (W.drew.setCells g ((i + 1) * 2) (inner.drop (i * 2))) cur1 hh1 (by show i * 2 + 2 ≤ _; omega)
    refine ⟨_, rfl, ?_, ?_⟩
    · rw [← hxl]
      refine Kd.R_of_row api_Fun_56.ins_flat hrx hh2 hgB (by rw [hxl]; exact hroom) hcm (by show cur2.size = cap * 2; omega) ?_ trivial rfl
      rw [hxl, ht2, ht1]
      show List.take ((xs.length + 1) * 2) _ = _
      have hx2 : (api_Fun_56.ins_cells x).length = 2 := rfl
      have e1 : (cur.toList.take ((i + 1) * 2) ++ inner.drop (i * 2) ++ cur.toList.drop ((i + 1) * 2 + (inner.drop (i * 2)).length)).take (i * 2) = inner.take (i * 2) := by
        rw [List.append_assoc, List.take_append_of_le_length (by rw [List.length_take, Array.length_toList]; omega), List.take_take, ← htake', List.take_take]
        congr 1
        omega
      have e2 : ((cur.toList.take ((i + 1) * 2) ++ inner.drop (i * 2) ++ cur.toList.drop ((i + 1) * 2 + (inner.drop (i * 2)).length)).drop (i * 2 + (api_Fun_56.ins_cells x).length)).take ((xs.length + 1) * 2 - (i * 2 + 2)) = inner.drop (i * 2) := by
        have hl1 : (cur.toList.take ((i + 1) * 2)).length = i * 2 + 2 := by rw [List.length_take, Array.length_toList]; omega
        rw [hx2, List.append_assoc, ← hl1, List.drop_left, List.take_append_of_le_length (by rw [List.length_drop]; omega), List.take_of_length_le (by rw [List.length_drop]; omega)]
      rw [e1]
      rw [List.take_append, List.take_of_length_le (by rw [List.length_append, List.length_take]; omega)]
      congr 1
      rw [List.length_append, List.length_take, hx2, show min (i * 2) inner.length = i * 2 by omega]
      exact e2
    · exact Kd.below_setCells (Kd.below_setCells (below_drew1 (Below.refl _ _)) hgB) hgB
  · refine (api_Fun_56.ins_grow g xs.length cap i gv inner (api_Fun_56.ins_cells x) cur W (by omega) hnc (by omega) hbig hh hcs' htake' hgv rfl h1c h1v).mono ?_
    rintro e w' ⟨G, ROW, hGn, hG63, hRl, hRt, rfl, rfl⟩
    have hN : ((W.alloc (.cells ROW 67)).drew).heap[W.heap.size]? = some (.cells ROW 67 (0, 0)) := blk_new W _
    obtain ⟨cur1, hh1, hc1, ht1⟩ := setCells_row (api_Fun_56.ins_cells x) (i * 2) ((W.alloc (.cells ROW 67)).drew) ROW hN (by show i * 2 + 2 ≤ _; omega)
    obtain ⟨cur2, hh2, hc2, ht2⟩ := setCells_row (inner.drop (i * 2)) ((i + 1) * 2) (((W.alloc (.cells ROW 67)).drew.setCells W.heap.size (i * 2) (api_Fun_56.ins_cells x)).drew) cur1 hh1 (by rw [List.length_drop]; omega)
    refine ⟨_, rfl, ?_, ?_⟩
    · rw [← hxl]
      refine Kd.R_of_row api_Fun_56.ins_flat hrx hh2 hB (by rw [hxl]; exact hGn) hG63 (by show cur2.size = G * 2; omega) ?_ trivial rfl
      rw [hxl, ht2, ht1]
      show List.take ((xs.length + 1) * 2) _ = _
      have hx2 : (api_Fun_56.ins_cells x).length = 2 := rfl
      have e1 : (ROW.toList.take (i * 2) ++ api_Fun_56.ins_cells x ++ ROW.toList.drop (i * 2 + (api_Fun_56.ins_cells x).length)).take ((i + 1) * 2) = inner.take (i * 2) ++ api_Fun_56.ins_cells x := by
        rw [List.take_append_of_le_length (by rw [List.length_append, List.length_take, Array.length_toList, hx2]; omega), List.take_of_length_le (by rw [List.length_append, List.length_take, hx2]; omega), hRt]
      rw [e1, List.take_append_of_le_length (by rw [List.length_append, List.length_append, List.length_take, List.length_drop, hx2]; omega), List.take_of_length_le (by rw [List.length_append, List.length_append, List.length_take, List.length_drop, hx2]; omega)]
    · exact Kd.below_setCells (below_drew1 (Kd.below_setCells (below_drew1 ((Below.refl B W).alloc hB _)) hB)) hB


/-! ### api_Fun_36: function 36 -/
def api_Fun_36.put (l : List S67) (n : ByteArray) (v : Int) : List S67 := if api_Fun_46.hit l n = true then l.set (api_Fun_46.find_i l n) ⟨n, v⟩ else l.take (api_Fun_46.find_i l n) ++ [⟨n, v⟩] ++ l.drop (api_Fun_46.find_i l n)
def api_Fun_36.f (l0 : List S67) (a1_0 : ByteArray) (a1_1 : Int) : Option (List S67) := if l0.length < 1099511627776 then some (api_Fun_36.put l0 a1_0 a1_1) else none
theorem api_Fun_36.name_any (n : ByteArray) (a1_1 : Int) (w : World) : Calls Try.prog 37 #[.agg #[.string n, .int .i64 a1_1]] w fun e w' => e = .returned (.string n) ∧ Below w.heap.size w w' := by
  go_enter Try.func37, Try.ntmps37
  go_wp2
  go_ret
  exact ⟨rfl, below_alloc (Below.refl _ _) _⟩
set_option maxHeartbeats 4000000 in
theorem api_Fun_36.calls (A0 : Option Addr) (c0 : Nat) (l0 : List S67) (a1_0 : ByteArray) (a1_1 : Int) (r : List S67) (w : World) (hr0 : Kd.C k67 w A0 l0.length l0) (hc0 : l0.length ≤ c0) (h : api_Fun_36.f l0 a1_0 a1_1 = some r) :
    Calls Try.prog 36 #[.slice A0 l0.length c0, .agg #[.string a1_0, .int .i64 a1_1], .func (.func 37) #[] #[]] w fun e w' => ∃ v0_, e = .returned v0_ ∧ Kd.R k67 67 w' w.heap.size (fun _ => True) v0_ r ∧ Below w.heap.size w w' := by
  unfold api_Fun_36.f at h
  by_cases hl : l0.length < 1099511627776
  · rw [if_pos hl] at h
    injection h with h
    subst h
    have HR0 := Aside0.mk hr0
    have HC0 := Aside0.mk hc0
    have HF : Aside0 (api_Fun_46.f l0 a1_0 = some ((api_Fun_46.find_i l0 a1_0 : Int), api_Fun_46.hit l0 a1_0)) := ⟨by rw [api_Fun_46.f, if_pos (by omega)]⟩
    have HCL : Aside0 (api_Fun_55.f l0 = some l0) := ⟨by
      rw [api_Fun_55.f, Option.bind_some, if_pos (by simp; omega)]
      rfl⟩
    have hile := api_Fun_46.find_i_le l0 a1_0
    have hlt : api_Fun_46.hit l0 a1_0 = true → api_Fun_46.find_i l0 a1_0 < l0.length := fun e => by
      unfold api_Fun_46.hit at e
      rw [Bool.and_eq_true, decide_eq_true_eq] at e
      exact e.1
    unfold api_Fun_36.put
    generalize api_Fun_46.find_i l0 a1_0 = i at *
    generalize api_Fun_46.hit l0 a1_0 = hit at *
    have HLB : Aside0 ((l0.length + 1) * 24 ≤ 140737488355328) := ⟨by omega⟩
    have HI := Aside0.mk hile
    clear hr0 hc0 hl
    cases hit with
    | true =>
      rw [if_pos rfl]
      have hil := hlt rfl
      have HIL := Aside0.mk hil
      have hi1 : (0 ≤ (i : Int)) = True := eq_true (by omega)
      have hi2 : ((i : Int) < (l0.length : Int)) = True := eq_true (by omega)
      have hi3 : (i < l0.length) = True := eq_true hil
      clear hlt hile hil
      go_enter Try.func36, Try.ntmps36
      go_wp2_with (first
        | (go_at_call 37; go_must ((with_reducible refine (api_Fun_36.name_any a1_0 a1_1 _).mono ?_); rintro e w1 ⟨rfl, hb1⟩; have HB1 := Aside0.mk (below_then (below_alloc (Below.refl _ _) _) (by simp) hb1); have HX1 := Aside0.mk ((hb1.block _ (by simp)).trans (blk_new w _)); clear hb1))
        | (go_at_call 46; go_must ((with_reducible refine (api_Fun_46.calls A0 c0 l0 a1_0 _ _ _ ?s1 ?s2 HF.out).mono ?_); (case s1 => exact Kd.C_below HR0.out HB1.out); (case s2 => exact HC0.out); rintro e w2 ⟨rfl, hb2⟩; have HX2 := Aside0.mk ((hb2.block _ (Array.getElem?_eq_some_iff.1 HX1.out).1).trans HX1.out); have HB2 := Aside0.mk (below_step HB1.out hb2); clear hb2))
        | (go_at_call 55; go_must ((with_reducible refine (api_Fun_55.calls A0 c0 l0 l0 _ ?s1 ?s2 HCL.out).mono ?_); (case s1 => exact Kd.C_below HR0.out HB2.out); (case s2 => exact HC0.out); rintro e w3 ⟨v0, rfl, ho, hb3⟩; obtain ⟨g, cap, hv, hcap⟩ := Kd.own_some ho (by have := HIL.out; omega); subst hv; have HX3 := Aside0.mk ((hb3.block _ (Array.getElem?_eq_some_iff.1 HX2.out).1).trans HX2.out); have HO3 := Aside0.mk (Kd.R_lower ho (below_size HB2.out)); have HB3 := Aside0.mk (below_step HB2.out hb3); have hcz0 := blk_cell HX3.out 0; have hcz1 := blk_cell HX3.out 1; simp only [List.getElem?_toArray, List.getElem?_cons_zero, List.getElem?_cons_succ] at hcz0 hcz1; clear hb3 ho hcap))
        | ((with_reducible refine gate_ (.store 67 (.tmp 24) (.tmp 23)) rfl ?_); go_must (obtain ⟨cc, hccl, hcc⟩ := Kd.R_cellsAt HO3.out i HIL.out; refine Kd.R_store k67 (w0 := w) w.heap.size rfl rfl 67 (.tmp 24) (.tmp 23) rfl 67 (i : Int) 0 l0 ⟨a1_0, a1_1⟩ (.agg #[.string a1_0, .int .i64 a1_1]) [.string a1_0, .int .i64 a1_1] cc (fun _ => True) (fun _ => False) rfl ?t1 rfl rfl (by kernel_rfl) ?t2 HO3.out (by omega) ?t3 hccl ?t4 (Nat.le_refl 2) ?t5 (fun _ hk => hk.elim) HB3.out ?_; (case t1 => show i * 2 = ((i : Int)).toNat * 2 + 0; omega); (case t2 => simp [Value.oneCell']); (case t3 => have := HIL.out; omega); (case t4 => intro j u hj; have := hcc j u hj; simpa using this); (case t5 => rw [List.take_zero, List.nil_append, List.drop_of_length_le (by rw [hccl]; exact Nat.le_refl 2), List.append_nil]; exact k67_mkM _ _ _ _); intro w4 ho4 hb4 hg4; have HO4 := Aside0.mk ho4; have HB4 := Aside0.mk hb4; clear ho4 hb4 hg4)))
      go_ret
      exact ⟨_, rfl, by simpa using HO4.out, HB4.out⟩
    | false =>
      rw [if_neg (by simp)]
      clear hlt hile
      go_enter Try.func36, Try.ntmps36
      go_wp2_with (first
        | (go_at_call 37; go_must ((with_reducible refine (api_Fun_36.name_any a1_0 a1_1 _).mono ?_); rintro e w1 ⟨rfl, hb1⟩; have HB1 := Aside0.mk (below_then (below_alloc (Below.refl _ _) _) (by simp) hb1); have HX1 := Aside0.mk ((hb1.block _ (by simp)).trans (blk_new w _)); clear hb1))
        | (go_at_call 46; go_must ((with_reducible refine (api_Fun_46.calls A0 c0 l0 a1_0 _ _ _ ?s1 ?s2 HF.out).mono ?_); (case s1 => exact Kd.C_below HR0.out HB1.out); (case s2 => exact HC0.out); rintro e w2 ⟨rfl, hb2⟩; have HX2 := Aside0.mk ((hb2.block _ (Array.getElem?_eq_some_iff.1 HX1.out).1).trans HX1.out); have HB2 := Aside0.mk (below_step HB1.out hb2); clear hb2))
        | (go_at_call 55; go_must ((with_reducible refine (api_Fun_55.calls A0 c0 l0 l0 _ ?s1 ?s2 HCL.out).mono ?_); (case s1 => exact Kd.C_below HR0.out HB2.out); (case s2 => exact HC0.out); rintro e w3 ⟨v0, rfl, ho, hb3⟩; have HX3 := Aside0.mk ((hb3.block _ (Array.getElem?_eq_some_iff.1 HX2.out).1).trans HX2.out); have HO3 := Aside0.mk (Kd.R_alloc (Kd.R_mono (Kd.R_bound (Kd.R_lower ho (below_size HB2.out))) (fun k hk => show k ≠ w3.heap.size by have := hk.2.2.1; omega)) (.cells (api_Fun_56.ins_cells ⟨a1_0, a1_1⟩).toArray 67 (0, 0))); have HB3 := Aside0.mk (below_step HB2.out hb3); have hcz0 := blk_cell HX3.out 0; have hcz1 := blk_cell HX3.out 1; simp only [List.getElem?_toArray, List.getElem?_cons_zero, List.getElem?_cons_succ] at hcz0 hcz1; clear hb3 ho))
        | (go_at_call 56; go_must ((with_reducible refine (api_Fun_56.ins w.heap.size w3.heap.size i v0 l0 ⟨a1_0, a1_1⟩ _ ?s1 ?s2 ?s3 ?s4 ?s5).mono ?_); (case s1 => exact HI.out); (case s2 => exact blk_new w3 _); (case s3 => exact HO3.out); (case s4 => have := HB3.out.size; simp; omega); (case s5 => exact HLB.out); rintro e w5 ⟨v5, rfl, ho5, hb5⟩; have HO5 := Aside0.mk ho5; have HB5 := Aside0.mk (((HB3.out).alloc (HB3.out.size) _).trans hb5); clear ho5 hb5)))
      go_ret
      exact ⟨_, rfl, HO5.out, HB5.out⟩
  · rw [if_neg hl] at h
    cases h


/-! ### env_called: function 37 -/
def env_called.f (a0_0 : ByteArray) (a0_1 : Int) : Option (ByteArray) := some a0_0
set_option maxHeartbeats 8000000 in
set_option maxRecDepth 100000 in
theorem env_called.calls (a0_0 : ByteArray) (a0_1 : Int) (r : ByteArray) (w : World) (h : env_called.f a0_0 a0_1 = some r) :
    Calls Try.prog 37 #[.agg #[.string a0_0, .int .i64 a0_1]] w fun e w' => e = .returned (.string r) ∧ Below w.heap.size w w' := by
  have hu67 := Try.underlying67
  have HB := Aside0.mk (Below.refl w.heap.size w)
  have H : (some a0_0) = some r := h
  clear h
  obtain rfl := Option.some.inj H
  go_enter Try.func37, Try.ntmps37
  go_wp2_with (first | ((with_reducible refine gate_dst (N := 1) rfl ?_); refine box_event ?hg (N := 1) ?hd (cs := #[.string a0_0, .int .i64 a0_1]) (t := 67) ?hr ?_; (case hd => rfl); (case hg => rfl); (case hr => first | (go_simp; done) | (go_simp; rfl)); intro gb130 hg w2 hbox hb; have n0_ := Aside0.mk (below_step (by repeat (first | (with_reducible first | exact HB.out | apply below_alloc | apply pw_below_drewN | apply below_drew1) | exact HB.out)) hb); have n1_ := Aside0.mk (hbox); have n2_ := Aside0.mk ((by rw [hg]; exact (below_size (by repeat (first | (with_reducible first | exact HB.out | apply below_alloc | apply pw_below_drewN | apply below_drew1) | exact HB.out))) : w.heap.size ≤ gb130)); have n3_ := Aside0.mk ((by rw [hg]; exact (below_size (by repeat (first | (with_reducible first | exact HB.out | apply below_alloc | apply pw_below_drewN | apply below_drew1) | exact HB.out))) : w.heap.size ≤ gb130)); clear HB; have HB := n0_; have BK130 := n1_; have GW130 := n2_; have GE130 := n3_; clear n0_ n1_ n2_ n3_; clear hb hbox hg; have hcz3_0 : w2.cell? ⟨gb130, 0, none⟩ = some (.string a0_0) := (blk_cell BK130.out 0).trans rfl; have hcz3_1 : w2.cell? ⟨gb130, 1, none⟩ = some (.int .i64 a0_1) := (blk_cell BK130.out 1).trans rfl; have hfz3_0 := blk_frozen BK130.out 0; have hfz3_1 := blk_frozen BK130.out 1))
  go_ret
  exact ⟨by first | rfl | (simp [errW_none, errW_some] <;> rfl) | (simp [*, errW_none, errW_some] <;> rfl), by repeat (first | (with_reducible first | exact HB.out | apply below_alloc | apply pw_below_drewN | apply below_drew1 | refine below_set ?_ GE130.out) | exact HB.out)⟩

/-! ### env_Define: function 9 -/
def env_Define.f (l0_0 : List (S71)) (l0_1 : List ByteArray) (l0_2 : List (S67)) (a1 : ByteArray) (a2 : Int) : Option ((List (S71)) × List ByteArray × (List (S67))) := (env_copied.f l0_0 l0_1 l0_2).bind fun bt133 => ((api_Fun_36.f bt133.2.2 a1 a2).bind fun t142 => (some (bt133.1, bt133.2.1, t142)))
set_option maxHeartbeats 8000000 in
set_option maxRecDepth 100000 in
theorem env_Define.calls (A0_0 : Option Addr) (c0_0 : Nat) (l0_0 : List (S71)) (A0_1 : Option Addr) (c0_1 : Nat) (l0_1 : List ByteArray) (A0_2 : Option Addr) (c0_2 : Nat) (l0_2 : List (S67)) (a1 : ByteArray) (a2 : Int) (r1 : List (S71)) (r2 : List ByteArray) (r3 : List (S67)) (w : World) (hr0_0 : Kd.C k71 w A0_0 l0_0.length l0_0) (hc0_0 : l0_0.length ≤ c0_0) (hr0_1 : Kd.C Kd.string w A0_1 l0_1.length l0_1) (hc0_1 : l0_1.length ≤ c0_1) (hr0_2 : Kd.C k67 w A0_2 l0_2.length l0_2) (hc0_2 : l0_2.length ≤ c0_2) (h : env_Define.f l0_0 l0_1 l0_2 a1 a2 = some (r1, r2, r3)) :
    Calls Try.prog 9 #[.agg #[.slice A0_0 l0_0.length c0_0, .slice A0_1 l0_1.length c0_1, .slice A0_2 l0_2.length c0_2], .string a1, .int .i64 a2] w fun e w' => ∃ v0_ v1_ v2_ : Value, e = .returned (.agg #[v0_, v1_, v2_]) ∧ Kd.R k71 71 w' w.heap.size (fun _ => True) v0_ r1 ∧ Kd.R Kd.string 9 w' w.heap.size (fun _ => True) v1_ r2 ∧ Kd.R k67 67 w' w.heap.size (fun _ => True) v2_ r3 ∧ Below w.heap.size w w' := by
  have hu26 := Try.underlying26
  have hu67 := Try.underlying67
  have HR0_0 := Aside0.mk hr0_0
  have HC0_0 := Aside0.mk hc0_0
  clear hr0_0 hc0_0
  have HR0_1 := Aside0.mk hr0_1
  have HC0_1 := Aside0.mk hc0_1
  clear hr0_1 hc0_1
  have HR0_2 := Aside0.mk hr0_2
  have HC0_2 := Aside0.mk hc0_2
  clear hr0_2 hc0_2
  have HB := Aside0.mk (Below.refl w.heap.size w)
  have H : ((env_copied.f l0_0 l0_1 l0_2).bind fun bt133 => ((api_Fun_36.f bt133.2.2 a1 a2).bind fun t142 => (some (bt133.1, bt133.2.1, t142)))) = some (r1, r2, r3) := h
  clear h
  replace H := Option.bind_eq_some_iff.mp H
  obtain ⟨⟨t133, t136, t139⟩, A40, H⟩ := H
  replace H : ((api_Fun_36.f t139 a1 a2).bind fun t142 => (some (t133, t136, t142))) = some (r1, r2, r3) := H
  have A4 := Aside0.mk A40
  clear A40
  replace H := Option.bind_eq_some_iff.mp H
  obtain ⟨t142, A50, H⟩ := H
  replace H : (some (t133, t136, t142)) = some (r1, r2, r3) := H
  have A5 := Aside0.mk A50
  clear A50
  simp only [Option.some.injEq, Prod.mk.injEq] at H
  obtain ⟨rfl, rfl, rfl⟩ := H
  go_enter Try.func9, Try.ntmps9
  go_wp2_with (first | ((with_reducible refine gate_dst (N := 3) rfl ?_); refine box_event ?hg (N := 3) ?hd (cs := #[.slice A0_0 l0_0.length c0_0, .slice A0_1 l0_1.length c0_1, .slice A0_2 l0_2.length c0_2]) (t := 26) ?hr ?_; (case hd => rfl); (case hg => rfl); (case hr => first | (go_simp; done) | (go_simp; rfl)); intro gb131 hg w6 hbox hb; have n0_ := Aside0.mk (below_step (by repeat (first | (with_reducible first | exact HB.out | apply below_alloc | apply pw_below_drewN | apply below_drew1) | exact HB.out)) hb); have n1_ := Aside0.mk (hbox); have n2_ := Aside0.mk ((by rw [hg]; exact (below_size (by repeat (first | (with_reducible first | exact HB.out | apply below_alloc | apply pw_below_drewN | apply below_drew1) | exact HB.out))) : w.heap.size ≤ gb131)); have n3_ := Aside0.mk ((by rw [hg]; exact (below_size (by repeat (first | (with_reducible first | exact HB.out | apply below_alloc | apply pw_below_drewN | apply below_drew1) | exact HB.out))) : w.heap.size ≤ gb131)); clear HB; have HB := n0_; have BK131 := n1_; have GW131 := n2_; have GE131 := n3_; clear n0_ n1_ n2_ n3_; clear hb hbox hg) | ((with_reducible refine gate_dst (N := 6) rfl ?_); refine box_event ?hg (N := 6) ?hd (cs := #[.slice none 0 0, .slice none 0 0, .slice none 0 0]) (t := 26) ?hr ?_; (case hd => rfl); (case hg => rfl); (case hr => first | (go_simp; done) | (go_simp; rfl)); intro gb132 hg w7 hbox hb; have n0_ := Aside0.mk (blk_below (g := gb131) (o := .cells #[.slice A0_0 l0_0.length c0_0, .slice A0_1 l0_1.length c0_1, .slice A0_2 l0_2.length c0_2] 26 (0, 0)) (by (with_reducible repeat (first | refine blk_drewN ?_ _ | refine blk_drew ?_ | refine blk_alloc ?_ _)); exact BK131.out) hb); have n1_ := Aside0.mk (below_step (by repeat (first | (with_reducible first | exact HB.out | apply below_alloc | apply pw_below_drewN | apply below_drew1 | refine below_set ?_ GE131.out) | exact HB.out)) hb); have n2_ := Aside0.mk (hbox); have n3_ := Aside0.mk ((by rw [hg]; exact (below_size (by repeat (first | (with_reducible first | exact HB.out | apply below_alloc | apply pw_below_drewN | apply below_drew1 | refine below_set ?_ GE131.out) | exact HB.out))) : w.heap.size ≤ gb132)); have n4_ := Aside0.mk ((by rw [hg]; exact (below_size (by repeat (first | (with_reducible first | exact HB.out | apply below_alloc | apply pw_below_drewN | apply below_drew1 | refine below_set ?_ GE131.out) | exact HB.out))) : w.heap.size ≤ gb132)); have n5_ := Aside0.mk ((by rw [hg]; exact Nat.ne_of_lt (blk_lt (g := gb131) (o := .cells #[.slice A0_0 l0_0.length c0_0, .slice A0_1 l0_1.length c0_1, .slice A0_2 l0_2.length c0_2] 26 (0, 0)) (by (with_reducible repeat (first | refine blk_drewN ?_ _ | refine blk_drew ?_ | refine blk_alloc ?_ _)); exact BK131.out)) : gb131 ≠ gb132)); have n6_ := Aside0.mk ((by rw [hg]; exact Nat.ne_of_gt (blk_lt (g := gb131) (o := .cells #[.slice A0_0 l0_0.length c0_0, .slice A0_1 l0_1.length c0_1, .slice A0_2 l0_2.length c0_2] 26 (0, 0)) (by (with_reducible repeat (first | refine blk_drewN ?_ _ | refine blk_drew ?_ | refine blk_alloc ?_ _)); exact BK131.out)) : gb132 ≠ gb131)); clear BK131; clear HB; have BK131 := n0_; have HB := n1_; have BK132 := n2_; have GW132 := n3_; have GE132 := n4_; have NB131_132 := n5_; have NB132_131 := n6_; clear n0_ n1_ n2_ n3_ n4_ n5_ n6_; clear hb hbox hg; have hnb8 := NB131_132.out; have hnc8 := NB132_131.out; have hcz9_0 : w7.cell? ⟨gb131, 0, none⟩ = some (.slice A0_0 l0_0.length c0_0) := (blk_cell BK131.out 0).trans rfl; have hcz9_1 : w7.cell? ⟨gb131, 1, none⟩ = some (.slice A0_1 l0_1.length c0_1) := (blk_cell BK131.out 1).trans rfl; have hcz9_2 : w7.cell? ⟨gb131, 2, none⟩ = some (.slice A0_2 l0_2.length c0_2) := (blk_cell BK131.out 2).trans rfl; have hfz9_0 := blk_frozen BK131.out 0; have hfz9_1 := blk_frozen BK131.out 1; have hfz9_2 := blk_frozen BK131.out 2) | ((with_reducible refine gate_callee (f := 35) rfl ?_); refine goesL_ (some 8) rfl rfl Try.func35 (by kernel_rfl) rfl #[.agg #[.slice A0_0 l0_0.length c0_0, .slice A0_1 l0_1.length c0_1, .slice A0_2 l0_2.length c0_2]] rfl (by (try simp only [List.map_toArray, List.map_cons, List.map_nil]); first | done | rfl | (simp only [List.length_drop, List.length_take]; rfl)) ?_; (with_reducible refine (env_copied.calls _ _ l0_0 _ _ l0_1 _ _ l0_2 t133 t136 t139 _ ?side1 ?side2 ?side3 ?side4 ?side5 ?side6 A4.out).mono ?_); (case side1 => repeat (first | (with_reducible exact HR0_0.out) | exact (Kd.C_below HR0_0.out HB.out) | (with_reducible refine Kd.C_alloc ?_ _) | (with_reducible refine Kd.C_drewN ?_ _) | (with_reducible refine Kd.C_drew ?_))); (case side2 => exact HC0_0.out); (case side3 => repeat (first | (with_reducible exact HR0_1.out) | exact (Kd.C_below HR0_1.out HB.out) | (with_reducible refine Kd.C_alloc ?_ _) | (with_reducible refine Kd.C_drewN ?_ _) | (with_reducible refine Kd.C_drew ?_))); (case side4 => exact HC0_1.out); (case side5 => repeat (first | (with_reducible exact HR0_2.out) | exact (Kd.C_below HR0_2.out HB.out) | (with_reducible refine Kd.C_alloc ?_ _) | (with_reducible refine Kd.C_drewN ?_ _) | (with_reducible refine Kd.C_drew ?_))); (case side6 => exact HC0_2.out); rintro e w10 ⟨v134, v137, v140, rfl, ho0, ho1, ho2, hb⟩; refine ⟨_, rfl, ?_⟩; have n0_ := Aside0.mk (Kd.R_lower ho0 (below_size (by repeat (first | (with_reducible first | exact HB.out | apply below_alloc | apply pw_below_drewN | apply below_drew1 | refine below_set ?_ GE131.out | refine below_set ?_ GE132.out) | exact HB.out)))); have n1_ := Aside0.mk (Kd.R_lower ho1 (below_size (by repeat (first | (with_reducible first | exact HB.out | apply below_alloc | apply pw_below_drewN | apply below_drew1 | refine below_set ?_ GE131.out | refine below_set ?_ GE132.out) | exact HB.out)))); have n2_ := Aside0.mk (Kd.R_lower ho2 (below_size (by repeat (first | (with_reducible first | exact HB.out | apply below_alloc | apply pw_below_drewN | apply below_drew1 | refine below_set ?_ GE131.out | refine below_set ?_ GE132.out) | exact HB.out)))); have n3_ := Aside0.mk (blk_below (g := gb131) (o := .cells #[.slice A0_0 l0_0.length c0_0, .slice A0_1 l0_1.length c0_1, .slice A0_2 l0_2.length c0_2] 26 (0, 0)) (by (with_reducible repeat (first | refine blk_drewN ?_ _ | refine blk_drew ?_ | refine blk_alloc ?_ _)); exact BK131.out) hb); have n4_ := Aside0.mk (blk_below (g := gb132) (o := .cells #[.slice none 0 0, .slice none 0 0, .slice none 0 0] 26 (0, 0)) (by (with_reducible repeat (first | refine blk_drewN ?_ _ | refine blk_drew ?_ | refine blk_alloc ?_ _)); exact BK132.out) hb); have n5_ := Aside0.mk (below_step (by repeat (first | (with_reducible first | exact HB.out | apply below_alloc | apply pw_below_drewN | apply below_drew1 | refine below_set ?_ GE131.out | refine below_set ?_ GE132.out) | exact HB.out)) hb); clear BK131; clear BK132; clear HB; have HO135 := n0_; have HO138 := n1_; have HO141 := n2_; have BK131 := n3_; have BK132 := n4_; have HB := n5_; clear n0_ n1_ n2_ n3_ n4_ n5_; (try clear hb); (try clear hb2); (try clear hk); (try clear hi); (try clear ho0); (try clear ho1); (try clear ho2); obtain ⟨Ao11, co11, eo11⟩ := Kd.R_slice HO135.out; subst eo11; have hcz12_0 : w10.cell? ⟨gb131, 0, none⟩ = some (.slice A0_0 l0_0.length c0_0) := (blk_cell BK131.out 0).trans rfl; have hcz12_1 : w10.cell? ⟨gb131, 1, none⟩ = some (.slice A0_1 l0_1.length c0_1) := (blk_cell BK131.out 1).trans rfl; have hcz12_2 : w10.cell? ⟨gb131, 2, none⟩ = some (.slice A0_2 l0_2.length c0_2) := (blk_cell BK131.out 2).trans rfl; have hfz12_0 := blk_frozen BK131.out 0; have hfz12_1 := blk_frozen BK131.out 1; have hfz12_2 := blk_frozen BK131.out 2; obtain ⟨Ao13, co13, eo13⟩ := Kd.R_slice HO138.out; subst eo13; obtain ⟨Ao14, co14, eo14⟩ := Kd.R_slice HO141.out; subst eo14) | ((with_reducible refine gate_callee (f := 36) rfl ?_); refine goesL_ (some 14) rfl rfl Try.func36 (by kernel_rfl) rfl #[.slice Ao14 t139.length co14, .agg #[.string a1, .int .i64 a2], .func (.func 37) #[] #[]] rfl (by (try simp only [List.map_toArray, List.map_cons, List.map_nil]); first | done | rfl | (simp only [List.length_drop, List.length_take]; rfl)) ?_; (with_reducible refine (api_Fun_36.calls _ _ t139 a1 a2  t142 _ ?side1 ?side2 A5.out).mono ?_); (case side1 => refine (Kd.R_reads' (e := 67) (base := w.heap.size) (ok := fun k_ => True) (n := t139.length) (c := co14) ?_).2.2; exact (by (with_reducible repeat (first | apply Kd.R_alloc | apply Kd.R_drewN | apply Kd.R_drew)); exact (Kd.R_mono (Kd.R_far (p := ⟨gb131, 2, none⟩) (Kd.R_far (p := ⟨gb131, 1, none⟩) (Kd.R_far (p := ⟨gb131, 0, none⟩) (Kd.R_types HO141.out BK131.out (by decide)) (fun _ hk => hk.2) (.slice Ao11 t133.length co11)) (fun _ hk => hk.2) (.slice Ao13 t136.length co13)) (fun _ hk => hk.2) (.slice Ao14 t139.length co14)) (fun _ h_ => h_.1)))); (case side2 => exact (Kd.R_reads' HO141.out).2.1); rintro e w15 ⟨v143, rfl, ho0, hb⟩; refine ⟨_, rfl, ?_⟩; have n0_ := Aside0.mk (Kd.R_below (by (with_reducible repeat (first | apply Kd.R_alloc | apply Kd.R_drewN | apply Kd.R_drew)); exact (Kd.R_mono (Kd.R_far (p := ⟨gb131, 2, none⟩) (Kd.R_far (p := ⟨gb131, 1, none⟩) (Kd.R_far (p := ⟨gb131, 0, none⟩) (Kd.R_types HO135.out BK131.out (by decide)) (fun _ hk => hk.2) (.slice Ao11 t133.length co11)) (fun _ hk => hk.2) (.slice Ao13 t136.length co13)) (fun _ hk => hk.2) (.slice Ao14 t139.length co14)) (fun _ h_ => h_.1))) hb); have n1_ := Aside0.mk (Kd.R_below (by (with_reducible repeat (first | apply Kd.R_alloc | apply Kd.R_drewN | apply Kd.R_drew)); exact (Kd.R_mono (Kd.R_far (p := ⟨gb131, 2, none⟩) (Kd.R_far (p := ⟨gb131, 1, none⟩) (Kd.R_far (p := ⟨gb131, 0, none⟩) (Kd.R_types HO138.out BK131.out (by decide)) (fun _ hk => hk.2) (.slice Ao11 t133.length co11)) (fun _ hk => hk.2) (.slice Ao13 t136.length co13)) (fun _ hk => hk.2) (.slice Ao14 t139.length co14)) (fun _ h_ => h_.1))) hb); have n2_ := Aside0.mk (Kd.R_elder' (by (with_reducible repeat (first | apply Kd.R_alloc | apply Kd.R_drewN | apply Kd.R_drew)); exact (Kd.R_mono (Kd.R_far (p := ⟨gb131, 2, none⟩) (Kd.R_far (p := ⟨gb131, 1, none⟩) (Kd.R_far (p := ⟨gb131, 0, none⟩) (Kd.R_types HO141.out BK131.out (by decide)) (fun _ hk => hk.2) (.slice Ao11 t133.length co11)) (fun _ hk => hk.2) (.slice Ao13 t136.length co13)) (fun _ hk => hk.2) (.slice Ao14 t139.length co14)) (fun _ h_ => h_.1))) (Kd.R_base ho0) hb); have n3_ := Aside0.mk (Kd.R_lower (Kd.R_new' ho0 (Kd.R_lt (by (with_reducible repeat (first | apply Kd.R_alloc | apply Kd.R_drewN | apply Kd.R_drew)); exact (Kd.R_mono (Kd.R_far (p := ⟨gb131, 2, none⟩) (Kd.R_far (p := ⟨gb131, 1, none⟩) (Kd.R_far (p := ⟨gb131, 0, none⟩) (Kd.R_types HO141.out BK131.out (by decide)) (fun _ hk => hk.2) (.slice Ao11 t133.length co11)) (fun _ hk => hk.2) (.slice Ao13 t136.length co13)) (fun _ hk => hk.2) (.slice Ao14 t139.length co14)) (fun _ h_ => h_.1))))) (below_size (by repeat (first | (with_reducible first | exact HB.out | apply below_alloc | apply pw_below_drewN | apply below_drew1 | refine below_set ?_ GE131.out | refine below_set ?_ GE132.out) | exact HB.out)))); have n4_ := Aside0.mk (blk_below (g := gb131) (o := .cells #[.slice Ao11 t133.length co11, .slice Ao13 t136.length co13, .slice Ao14 t139.length co14] 26 (0, 0)) (by (with_reducible repeat (first | refine blk_drewN ?_ _ | refine blk_drew ?_ | refine blk_alloc ?_ _)); refine blk_put (cs := #[.slice Ao11 t133.length co11, .slice Ao13 t136.length co13, .slice A0_2 l0_2.length c0_2]) ?_ 2 _ rfl; (with_reducible repeat (first | refine blk_drewN ?_ _ | refine blk_drew ?_ | refine blk_alloc ?_ _)); refine blk_put (cs := #[.slice Ao11 t133.length co11, .slice A0_1 l0_1.length c0_1, .slice A0_2 l0_2.length c0_2]) ?_ 1 _ rfl; (with_reducible repeat (first | refine blk_drewN ?_ _ | refine blk_drew ?_ | refine blk_alloc ?_ _)); refine blk_put (cs := #[.slice A0_0 l0_0.length c0_0, .slice A0_1 l0_1.length c0_1, .slice A0_2 l0_2.length c0_2]) ?_ 0 _ rfl; (with_reducible repeat (first | refine blk_drewN ?_ _ | refine blk_drew ?_ | refine blk_alloc ?_ _)); exact BK131.out) hb); have n5_ := Aside0.mk (blk_below (g := gb132) (o := .cells #[.slice none 0 0, .slice none 0 0, .slice none 0 0] 26 (0, 0)) (by (with_reducible repeat (first | refine blk_drewN ?_ _ | refine blk_drew ?_ | refine blk_alloc ?_ _)); refine blk_far ?_ NB132_131.out _; (with_reducible repeat (first | refine blk_drewN ?_ _ | refine blk_drew ?_ | refine blk_alloc ?_ _)); refine blk_far ?_ NB132_131.out _; (with_reducible repeat (first | refine blk_drewN ?_ _ | refine blk_drew ?_ | refine blk_alloc ?_ _)); refine blk_far ?_ NB132_131.out _; (with_reducible repeat (first | refine blk_drewN ?_ _ | refine blk_drew ?_ | refine blk_alloc ?_ _)); exact BK132.out) hb); have n6_ := Aside0.mk (below_step (by repeat (first | (with_reducible first | exact HB.out | apply below_alloc | apply pw_below_drewN | apply below_drew1 | refine below_set ?_ GE131.out | refine below_set ?_ GE132.out) | exact HB.out)) hb); clear HO135; clear HO138; clear HO141; clear BK131; clear BK132; clear HB; have HO135 := n0_; have HO138 := n1_; have HO141 := n2_; have HO144 := n3_; have BK131 := n4_; have BK132 := n5_; have HB := n6_; clear n0_ n1_ n2_ n3_ n4_ n5_ n6_; (try clear hb); (try clear hb2); (try clear hk); (try clear hi); (try clear ho0); obtain ⟨Ao16, co16, eo16⟩ := Kd.R_slice HO144.out; subst eo16; have hcz17_0 : w15.cell? ⟨gb131, 0, none⟩ = some (.slice Ao11 t133.length co11) := (blk_cell BK131.out 0).trans rfl; have hcz17_1 : w15.cell? ⟨gb131, 1, none⟩ = some (.slice Ao13 t136.length co13) := (blk_cell BK131.out 1).trans rfl; have hcz17_2 : w15.cell? ⟨gb131, 2, none⟩ = some (.slice Ao14 t139.length co14) := (blk_cell BK131.out 2).trans rfl; have hfz17_0 := blk_frozen BK131.out 0; have hfz17_1 := blk_frozen BK131.out 1; have hfz17_2 := blk_frozen BK131.out 2; have hcz18_0 : w15.cell? ⟨gb132, 0, none⟩ = some (.slice none 0 0) := (blk_cell BK132.out 0).trans rfl; have hcz18_1 : w15.cell? ⟨gb132, 1, none⟩ = some (.slice none 0 0) := (blk_cell BK132.out 1).trans rfl; have hcz18_2 : w15.cell? ⟨gb132, 2, none⟩ = some (.slice none 0 0) := (blk_cell BK132.out 2).trans rfl; have hfz18_0 := blk_frozen BK132.out 0; have hfz18_1 := blk_frozen BK132.out 1; have hfz18_2 := blk_frozen BK132.out 2))
  refine bodyPost_ret (results_cell_row rfl _ _ gb132 26 #[.slice Ao11 t133.length co11, .slice Ao13 t136.length co13, .slice Ao16 t142.length co16] (0, 0) _ rfl (by (with_reducible repeat (first | refine blk_drewN ?_ _ | refine blk_drew ?_ | refine blk_alloc ?_ _)); refine blk_put (cs := #[.slice Ao11 t133.length co11, .slice Ao13 t136.length co13, .slice none 0 0]) ?_ 2 _ rfl; (with_reducible repeat (first | refine blk_drewN ?_ _ | refine blk_drew ?_ | refine blk_alloc ?_ _)); refine blk_put (cs := #[.slice Ao11 t133.length co11, .slice none 0 0, .slice none 0 0]) ?_ 1 _ rfl; (with_reducible repeat (first | refine blk_drewN ?_ _ | refine blk_drew ?_ | refine blk_alloc ?_ _)); refine blk_put (cs := #[.slice none 0 0, .slice none 0 0, .slice none 0 0]) ?_ 0 _ rfl; (with_reducible repeat (first | refine blk_drewN ?_ _ | refine blk_drew ?_ | refine blk_alloc ?_ _)); refine blk_far ?_ NB132_131.out _; (with_reducible repeat (first | refine blk_drewN ?_ _ | refine blk_drew ?_ | refine blk_alloc ?_ _)); exact BK132.out) Try.underlying26 rfl (by kernel_rfl)) rfl ?_
  exact ⟨_, _, _, by first | rfl | (simp [errW_none, errW_some] <;> rfl) | (simp [*, errW_none, errW_some] <;> rfl), by (with_reducible repeat (first | apply Kd.R_alloc | apply Kd.R_drewN | apply Kd.R_drew)); exact Kd.R_mono (Kd.R_far (p := ⟨gb132, 2, none⟩) (Kd.R_far (p := ⟨gb132, 1, none⟩) (Kd.R_far (p := ⟨gb132, 0, none⟩) (Kd.R_far (p := ⟨gb131, 2, none⟩) (Kd.R_types (Kd.R_types HO135.out BK131.out (by decide)) BK132.out (by decide)) (fun _ hk => hk.1.2) (.slice Ao16 t142.length co16)) (fun _ hk => hk.2) (.slice Ao11 t133.length co11)) (fun _ hk => hk.2) (.slice Ao13 t136.length co13)) (fun _ hk => hk.2) (.slice Ao16 t142.length co16)) (fun _ hk => trivial), by (with_reducible repeat (first | apply Kd.R_alloc | apply Kd.R_drewN | apply Kd.R_drew)); exact Kd.R_mono (Kd.R_far (p := ⟨gb132, 2, none⟩) (Kd.R_far (p := ⟨gb132, 1, none⟩) (Kd.R_far (p := ⟨gb132, 0, none⟩) (Kd.R_far (p := ⟨gb131, 2, none⟩) (Kd.R_types (Kd.R_types HO138.out BK131.out (by decide)) BK132.out (by decide)) (fun _ hk => hk.1.2) (.slice Ao16 t142.length co16)) (fun _ hk => hk.2) (.slice Ao11 t133.length co11)) (fun _ hk => hk.2) (.slice Ao13 t136.length co13)) (fun _ hk => hk.2) (.slice Ao16 t142.length co16)) (fun _ hk => trivial), by (with_reducible repeat (first | apply Kd.R_alloc | apply Kd.R_drewN | apply Kd.R_drew)); exact Kd.R_mono (Kd.R_far (p := ⟨gb132, 2, none⟩) (Kd.R_far (p := ⟨gb132, 1, none⟩) (Kd.R_far (p := ⟨gb132, 0, none⟩) (Kd.R_far (p := ⟨gb131, 2, none⟩) (Kd.R_types (Kd.R_types HO144.out BK131.out (by decide)) BK132.out (by decide)) (fun _ hk => hk.1.2) (.slice Ao16 t142.length co16)) (fun _ hk => hk.2) (.slice Ao11 t133.length co11)) (fun _ hk => hk.2) (.slice Ao13 t136.length co13)) (fun _ hk => hk.2) (.slice Ao16 t142.length co16)) (fun _ hk => trivial), by repeat (first | (with_reducible first | exact HB.out | apply below_alloc | apply pw_below_drewN | apply below_drew1 | refine below_set ?_ GE131.out | refine below_set ?_ GE132.out) | exact HB.out)⟩

-- NOT PRINTED: function 58 (api_Binding_string)

end Go.Proofs.Ytekebjkcolhcoaa.QEnvOwn
