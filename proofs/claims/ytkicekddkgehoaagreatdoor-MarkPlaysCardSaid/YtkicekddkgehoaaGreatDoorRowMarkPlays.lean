/- The law MarkPlays: for every input the call returns true and leaves what came in as it was. No condition beyond the statement's own. -/
import Derived.Test.YtkicekddkgehoaaGreatDoorRows
import Derived.Test.YtkicekddkgehoaaGreatDoorLMarkPlaysx0
import Derived.Test.YtkicekddkgehoaaGreatDoorPureMarkPlays
import Derived.Test.YtkicekddkgehoaaGreatDoorOpens
import Derived.Test.YtkicekddkgehoaaGreatDoorTie
import Derived.Test.YtkicekddkgehoaaGreatDoorCards
import Derived.Lay
import Derived.Lib.LaidTab
import Derived.Stop.LaidErr
import Derived.SevenTiedAt
import Derived.MakeChecks
import Derived.Handed
import Derived.LaidLaws
import Derived.WalkKit
import Derived.ProofKit
import Derived.OpenShut
import Derived.ShutString
import Derived.ChangeOld
import Derived.Below
import Derived.SizedLaws
import Derived.Lib.SmallJoins
namespace Go.Proofs.YtkicekddkgehoaaGreatDoor.markPlays
open Go.ChangeShapes Go.WideShapes Go.ChangeAt Go.RowKit Go.Proofs.YtkicekddkgehoaaGreatDoorW.PrintWords Go.Proofs.YtkicekddkgehoaaGreatDoorW.PrintLast Go.Proofs.YtkicekddkgehoaaGreatDoor.LMarkPlays Go.Proofs.YtkicekddkgehoaaGreatDoor.QMarkPlays Go.Proofs.YtkicekddkgehoaaGreatDoor.Opening
open Go.ChangeMaps (open_string shut_string)
set_option linter.unusedVariables false
theorem own : ownKnob Tryz.prog.godebug = none := by kernel_rfl
theorem laidOut : laidOutB Tryz.prog = true := by kernel_rfl
theorem opens_33 : Opens Tryz.prog 33 k33 (fun x => ((Lit.int .i64 x.f0).wf = true ∧ x.f1.size ≤ 140737488351232)) :=
  opens_struct (fun x : S33 => (x.f0, x.f1)) (fun a => ⟨a.1, a.2⟩) (fun _ => rfl) Tryz.underlying33 (by kernel_rfl) (opensF_cons (opens_int Tryz.underlying3) (by kernel_rfl) rfl (opensF_last (opens_string Tryz.underlying9) (by kernel_rfl) rfl))
theorem opens_35 : Opens Tryz.prog 35 k35 (fun x => ((Lit.int .i64 x.f0).wf = true ∧ (Lit.int .i64 x.f1).wf = true ∧ True ∧ ((Lit.int .i64 x.f3.f0).wf = true ∧ x.f3.f1.size ≤ 140737488351232))) :=
  opens_struct (fun x : S35 => (x.f0, x.f1, x.f2, x.f3)) (fun a => ⟨a.1, a.2.1, a.2.2.1, a.2.2.2⟩) (fun _ => rfl) Tryz.underlying35 (by kernel_rfl) (opensF_cons (opens_int Tryz.underlying3) (by kernel_rfl) rfl (opensF_cons (opens_int Tryz.underlying3) (by kernel_rfl) rfl (opensF_cons (opens_bool Tryz.underlying4) (by kernel_rfl) rfl (opensF_last opens_33 (by kernel_rfl) rfl))))
theorem opens_58 : Opens Tryz.prog 58 k58 (fun x => ((Lit.int .i64 x.f0).wf = true)) :=
  opens_struct (fun x : S58 => x.f0) (fun a => ⟨a⟩) (fun _ => rfl) Tryz.underlying58 (by kernel_rfl) (opensF_last (opens_int Tryz.underlying3) (by kernel_rfl) rfl)
theorem opens_26 : Opens Tryz.prog 26 k26 (fun x => ((Lit.int .i64 x.f0).wf = true ∧ (x.f1.length * 8 ≤ 140737488351232 ∧ ∀ y4 ∈ x.f1, ((Lit.int .i64 y4.f0).wf = true)))) :=
  opens_struct (fun x : S26 => (x.f0, x.f1)) (fun a => ⟨a.1, a.2⟩) (fun _ => rfl) Tryz.underlying26 (by kernel_rfl) (opensF_cons (opens_int Tryz.underlying3) (by kernel_rfl) rfl (opensF_last (opens_slice (B := 8) Tryz.underlying24 (by kernel_rfl) (by kernel_rfl) opens_58) (by kernel_rfl) rfl))
theorem starE : "*" ++ "errors.errorString" = "*errors.errorString" := by decide
theorem rowE (u : TypeId) (h : Tryz.prog.typeName? 3 u = some "*errors.errorString") : u = 153 :=
  typeName_ptr_named (nm := "errors.errorString") (by rw [starE]; kernel_rfl) (by kernel_rfl) (by decide) u (by rw [starE]; exact h)
set_option maxRecDepth 100000 in
theorem powEq : (Rows.laid_internal_strconv_uint64pow10 : DataW Unit) = Go.Lib.tabData .u64 Go.Lib.pow10Tab := by kernel_rfl
theorem tabs {W : World} (hL : laidMetH Tryz.prog Rows.markPlaysRow.laid W) : Go.Proofs.YtkicekddkgehoaaGreatDoor.Hnd.NTabs W := by
  rw [MakeChecks.laidMetH_plain _ _ _ (by kernel_rfl)] at hL
  have h3 : laidMet Tryz.prog (("internal/strconv.uint64pow10", Rows.laid_internal_strconv_uint64pow10) :: ("strconv.ErrRange", Rows.laid_strconv_ErrRange) :: ("strconv.ErrSyntax", Rows.laid_strconv_ErrSyntax) :: []) W := hL.tail.tail
  have h4 := h3.tail
  have h5 := h4.tail
  obtain ⟨a0, s0, hv0, -, -, -⟩ := laid_sentinel h4 (g := 3) (by kernel_rfl) (ti := 123) (by kernel_rfl) Tryz.underlying123 rowE Tryz.underlying153 Tryz.underlying155 rfl rfl Tryz.underlying9 (by kernel_rfl) (by kernel_rfl)
  obtain ⟨a1, s1, hv1, -, -, -⟩ := laid_sentinel h5 (g := 2) (by kernel_rfl) (ti := 123) (by kernel_rfl) Tryz.underlying123 rowE Tryz.underlying153 Tryz.underlying155 rfl rfl Tryz.underlying9 (by kernel_rfl) (by kernel_rfl)
  rw [powEq] at h3
  exact ⟨Go.Lib.tabIs_of_head (g := 1) (t := 141) (by kernel_rfl) (by kernel_rfl) Tryz.underlying141 Tryz.underlying118 (by kernel_rfl) (by kernel_rfl) h3, ⟨_, _, hv1⟩, ⟨_, _, hv0⟩⟩
set_option maxRecDepth 100000 in
theorem lifted (os : Os) (started : os.Started) (H : Type) (enc : TypeId × Value → H) :
    ReturnsInHanded {} Tryz.checked os 3 .any (fun w args => (Rows.markPlaysSpec.pre enc Tryz.prog Tryz.f3 [] false w args ∧ laidMetH Tryz.prog Rows.markPlaysRow.laid w) ∧ sizedMet enc Tryz.prog Tryz.f3 (OpenSpec.ofChange Rows.markPlaysSpec) false w args) (Rows.markPlaysSpec.post enc Tryz.prog Tryz.f3 false true false false) := by
  refine returnsInHanded_of_change_and (C := Tryz.checked) (X := fun w _ => laidMetH Tryz.prog Rows.markPlaysRow.laid w) (fun _ _ _ hh h => h.of_heap hh) own started (by kernel_rfl) Tryz.func3
    (ChangeSpec.witness_shaped (enc := enc) (C := Tryz.checked) (os := os) (X := fun w _ => laidMetH Tryz.prog Rows.markPlaysRow.laid w) false (World.laidAll Tryz.prog os Rows.markPlaysRow.laid) #[.int .i64 0, .slice none 0 0, .slice none 0 0, .int .i64 0, .agg #[.int .i64 0, .slice none 0 0]] 8 (World.laidAll_os _ _ _)
      (World.shaped_of_ZipB (by kernel_rfl) (by kernel_rfl)) (by kernel_rfl) (by kernel_rfl) (by kernel_rfl)
      (by rw [MakeChecks.laidMetH_plain _ _ _ (by kernel_rfl)]; exact laidMet_laidAll _ (by kernel_rfl) (by kernel_rfl))) ?_
  intro W base args ds gs before hval0 hW hcnd hsz0 hL _
  have hsz : (DataW.weightsEach Tryz.prog (Tryz.f3.params.toList ++ Rows.markPlaysSpec.plain.varTypes Tryz.prog) (ds ++ gs)).all (· ≤ reachBytes) = true := hsz0
  have hval : ∀ (j : Nat) t v, Tryz.f3.params[j]? = some t → args[j]? = some v → Value.okWide Tryz.prog W .any base t v := hval0
  have hW' := hW
  obtain ⟨p, q, hA0, hV, rfl, hfz, hnd⟩ := hW
  have hA : DataW.TrodAll enc Tryz.prog W 0 (fun _ => true) true Tryz.f3.params.toList args.toList ds p := hA0
  rw [Tryz.params3] at hA hval hsz
  obtain ⟨v0, vs0, d0, ds0, p0, q0, hargs, rfl, rfl, h0, r0⟩ := trodAll_cons hA
  obtain ⟨v1, vs1, d1, ds1, p1, q1, rfl, rfl, rfl, h1, r1⟩ := trodAll_cons r0
  obtain ⟨v2, vs2, d2, ds2, p2, q2, rfl, rfl, rfl, h2, r2⟩ := trodAll_cons r1
  obtain ⟨v3, vs3, d3, ds3, p3, q3, rfl, rfl, rfl, h3, r3⟩ := trodAll_cons r2
  obtain ⟨v4, vs4, d4, ds4, p4, q4, rfl, rfl, rfl, h4, r4⟩ := trodAll_cons r3
  obtain ⟨rfl, rfl, rfl⟩ := trodAll_nil r4
  obtain rfl : args = #[v0, v1, v2, v3, v4] := by cases args; simp_all
  obtain ⟨rfl, rfl⟩ := trodVars_none hV
  obtain ⟨a0, rfl, rfl, rfl, w0⟩ := open_int Tryz.underlying3 (hval 0 3 v0 rfl rfl) h0
  obtain ⟨b1, len1, cap1, rfl⟩ := okWide_slice Tryz.underlying22 (hval 1 22 v1 rfl rfl)
  have k1 := h1
  have lt1 : ∀ x ∈ p1, x.block < W.heap.size := by obtain ⟨m, hm⟩ := k1; exact DataW.trod_lt m _ _ _ hm
  obtain ⟨l1, C1, n1, hc1, hr1, w1⟩ : ∃ (l : List S35) (A : Option Addr) (c : Nat), (Value.slice b1 len1 cap1 = .slice A l.length c) ∧ (l.length ≤ c ∧ Kd.C k35 W A l.length l) ∧ ((l.length * 48 ≤ 140737488351232 ∧ ∀ y1 ∈ l, ((Lit.int .i64 y1.f0).wf = true ∧ (Lit.int .i64 y1.f1).wf = true ∧ True ∧ ((Lit.int .i64 y1.f3.f0).wf = true ∧ y1.f3.f1.size ≤ 140737488351232)))) := by
    obtain ⟨fuel, hf⟩ := h1
    obtain ⟨l, ⟨A, c, hcs, hl, hC⟩, hok⟩ := (opens_slice (B := 48) Tryz.underlying22 (by kernel_rfl) (by kernel_rfl) opens_35) _ _ _ _ _ _ _ _ _ hf (light_arg hsz (j := 1) (t := 22) rfl rfl)
    exact ⟨l, A, c, by simpa [Value.cells] using hcs, ⟨hl, hC⟩, hok⟩
  rw [hc1] at hW' k1 ⊢
  obtain ⟨b2, len2, cap2, rfl⟩ := okWide_slice Tryz.underlying23 (hval 2 23 v2 rfl rfl)
  have k2 := h2
  have lt2 : ∀ x ∈ p2, x.block < W.heap.size := by obtain ⟨m, hm⟩ := k2; exact DataW.trod_lt m _ _ _ hm
  obtain ⟨l2, C2, n2, hc2, hr2, w2⟩ : ∃ (l : List Int) (A : Option Addr) (c : Nat), (Value.slice b2 len2 cap2 = .slice A l.length c) ∧ (l.length ≤ c ∧ Kd.C (Kd.int .i64) W A l.length l) ∧ ((l.length * 8 ≤ 140737488351232 ∧ ∀ y2 ∈ l, (Lit.int .i64 y2).wf = true)) := by
    obtain ⟨fuel, hf⟩ := h2
    obtain ⟨l, ⟨A, c, hcs, hl, hC⟩, hok⟩ := (opens_slice (B := 8) Tryz.underlying23 (by kernel_rfl) (by kernel_rfl) (opens_int Tryz.underlying3)) _ _ _ _ _ _ _ _ _ hf (light_arg hsz (j := 2) (t := 23) rfl rfl)
    exact ⟨l, A, c, by simpa [Value.cells] using hcs, ⟨hl, hC⟩, hok⟩
  rw [hc2] at hW' k2 ⊢
  obtain ⟨a3, rfl, rfl, rfl, w3⟩ := open_int Tryz.underlying3 (hval 3 3 v3 rfl rfl) h3
  obtain ⟨cs4, rfl, hz4⟩ := okWide_struct Tryz.underlying26 (hval 4 26 v4 rfl rfl)
  have k4 := h4
  have lt4 : ∀ x ∈ p4, x.block < W.heap.size := by obtain ⟨m, hm⟩ := k4; exact DataW.trod_lt m _ _ _ hm
  obtain ⟨a4, hK4, w4⟩ : ∃ a : S26, k26.K W a cs4.toList ∧ ((Lit.int .i64 a.f0).wf = true ∧ (a.f1.length * 8 ≤ 140737488351232 ∧ ∀ y3 ∈ a.f1, ((Lit.int .i64 y3.f0).wf = true))) := by
    obtain ⟨fuel, hf⟩ := h4
    exact opens_26 _ _ _ _ _ _ _ _ _ hf (light_arg hsz (j := 4) (t := 26) rfl rfl)
  clear hA0 hval0 hsz0 hsz
  have h := Pure.MarkPlays a0 l1 l2 a3 a4 w0 w1 w2 w3 w4
  refine (YtkicekddkgehoaaGreatDoor.LMarkPlays.lazaruslaw6_MarkPlays.calls a0 _ _ l1 _ _ l2 a3 a4 _ true W hr1.2 hr1.1 hr2.2 hr2.1 hK4 h (tabs hL)).mono ?_
  rintro e W' ⟨he, bel0⟩
  have bel : Below W.heap.size W W' := bel0
  subst he
  exact ⟨_, rfl, _, _, _, [], _, [], hW', trodAll_mk1 (shut_bool Tryz.underlying4 _), (trodAll_cons_mk (shut_int Tryz.underlying3 w0) (trodAll_cons_mk (Below.trod laidOut (by kernel_rfl) (of_decide_eq_true (by kernel_rfl)) k1 bel lt1) (trodAll_cons_mk (Below.trod laidOut (by kernel_rfl) (of_decide_eq_true (by kernel_rfl)) k2 bel lt2) (trodAll_cons_mk (shut_int Tryz.underlying3 w3) (trodAll_cons_mk (Below.trod laidOut (by kernel_rfl) (of_decide_eq_true (by kernel_rfl)) k4 bel lt4) trodAll_mk0))))), rfl, bel.frame _, fun h => by cases h⟩
theorem over : Rows.markPlaysRow.holds Tryz.pinned (OpenSpec.ofChange Rows.markPlaysSpec) :=
  OpenClaim.holds_of_wide 3 Tryz.f3 rfl rfl rfl rfl rfl rfl rfl ⟨rfl, rfl, rfl, rfl, rfl⟩ rfl rfl rfl rfl rfl (by kernel_rfl) Tryz.func3 (by kernel_rfl)
    (of_decide_eq_true (by kernel_rfl)) (by unfold Func.isWrapper; first | (rw [if_pos (by decide +kernel)]; kernel_rfl) | (rw [if_neg (by decide +kernel)]; exact ⟨rfl, rfl⟩))
    (fun os started H enc _ => lifted os started H enc)
set_option maxRecDepth 100000 in
theorem proved : Rows.MarkPlaysCardSaid :=
  Claim7.holds_tied_plain_at .later [] [.data, .data, .data, .sentinel, .sentinel] true (true, "1efb9e4f599927e686f8109174be0c0b2f11523ed58632c0c33a5ee5d5d0e83d") true
    over (fun _ h => by cases h) (by kernel_rfl) (fun _ h => by cases h) markPlays_row_tie rfl ⟨rfl, rfl⟩ (by kernel_rfl) rfl
    (fun f fn hf hfn => by
      obtain rfl : f = 3 := Option.some.inj ((show Tryz.prog.funcNamed Rows.markPlaysRow.func = some 3 by kernel_rfl).symm.trans hf) |>.symm
      obtain rfl : fn = Tryz.f3 := (Option.some.inj (Tryz.func3.symm.trans hfn)).symm
      exact ⟨by kernel_rfl, fun j t ht => by
        rw [Tryz.params3] at ht
        have hm : t ∈ [3, 22, 23, 3, 26] := by simpa using Array.mem_of_getElem? ht
        have hall : ([3, 22, 23, 3, 26].all fun u => !Tryz.prog.wantsStandIn u) = true := by kernel_rfl
        exact (show Tryz.prog.wantsStandIn t = false by simpa using List.all_eq_true.1 hall t hm)⟩)
    (by kernel_rfl)
#print axioms proved
end Go.Proofs.YtkicekddkgehoaaGreatDoor.markPlays
namespace Go.Proofs.YtkicekddkgehoaaGreatDoor
/-- The card, under a short name, for the claim. -/
theorem markPlays_holds : Rows.MarkPlaysCardSaid := markPlays.proved
end Go.Proofs.YtkicekddkgehoaaGreatDoor
