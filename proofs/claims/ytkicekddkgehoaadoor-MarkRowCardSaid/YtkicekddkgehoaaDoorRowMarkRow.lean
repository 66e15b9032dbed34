/- The law MarkRow: for every input the call returns true and leaves what came in as it was. No condition beyond the statement's own. -/
import Derived.Test.YtkicekddkgehoaaDoorRows
import Derived.Test.YtkicekddkgehoaaDoorLMarkRowx0
import Derived.Test.YtkicekddkgehoaaDoorPureMarkRow
import Derived.Test.YtkicekddkgehoaaDoorOpens
import Derived.Test.YtkicekddkgehoaaDoorTie
import Derived.Test.YtkicekddkgehoaaDoorCards
import Derived.Lay
import Derived.Lib.LaidTab
import Derived.Stop.LaidErr
import Derived.SevenTiedAt
import Derived.MakeChecks
import Derived.Handed
import Derived.LaidLaws
import Derived.WalkKit
import Derived.ProofKit
import Derived.OpenShut
import Derived.ShutString
import Derived.ChangeOld
import Derived.Below
import Derived.SizedLaws
import Derived.Lib.SmallJoins
namespace Go.Proofs.YtkicekddkgehoaaDoor.markRow
open Go.ChangeShapes Go.WideShapes Go.ChangeAt Go.RowKit Go.Proofs.YtkicekddkgehoaaDoorW.PrintWords Go.Proofs.YtkicekddkgehoaaDoorW.PrintLast Go.Proofs.YtkicekddkgehoaaDoor.LMarkRow Go.Proofs.YtkicekddkgehoaaDoor.QMarkRow Go.Proofs.YtkicekddkgehoaaDoor.Opening
open Go.ChangeMaps (open_string shut_string)
set_option linter.unusedVariables false
theorem own : ownKnob Tryd.prog.godebug = none := by kernel_rfl
theorem laidOut : laidOutB Tryd.prog = true := by kernel_rfl
theorem opens_23 : Opens Tryd.prog 23 k23 (fun x => ((Lit.int .i64 x.f0).wf = true ∧ x.f1.size ≤ 140737488351232)) :=
  opens_struct (fun x : S23 => (x.f0, x.f1)) (fun a => ⟨a.1, a.2⟩) (fun _ => rfl) Tryd.underlying23 (by kernel_rfl) (opensF_cons (opens_int Tryd.underlying3) (by kernel_rfl) rfl (opensF_last (opens_string Tryd.underlying9) (by kernel_rfl) rfl))
theorem opens_78 : Opens Tryd.prog 78 k78 (fun x => ((Lit.int .i64 x.f0).wf = true)) :=
  opens_struct (fun x : S78 => x.f0) (fun a => ⟨a⟩) (fun _ => rfl) Tryd.underlying78 (by kernel_rfl) (opensF_last (opens_int Tryd.underlying3) (by kernel_rfl) rfl)
theorem opens_47 : Opens Tryd.prog 47 k47 (fun x => ((Lit.int .i64 x.f0).wf = true ∧ (x.f1.length * 8 ≤ 140737488351232 ∧ ∀ y3 ∈ x.f1, ((Lit.int .i64 y3.f0).wf = true)))) :=
  opens_struct (fun x : S47 => (x.f0, x.f1)) (fun a => ⟨a.1, a.2⟩) (fun _ => rfl) Tryd.underlying47 (by kernel_rfl) (opensF_cons (opens_int Tryd.underlying3) (by kernel_rfl) rfl (opensF_last (opens_slice (B := 8) Tryd.underlying45 (by kernel_rfl) (by kernel_rfl) opens_78) (by kernel_rfl) rfl))
theorem starE : "*" ++ "errors.errorString" = "*errors.errorString" := by decide
theorem rowE (u : TypeId) (h : Tryd.prog.typeName? 3 u = some "*errors.errorString") : u = 139 :=
  typeName_ptr_named (nm := "errors.errorString") (by rw [starE]; kernel_rfl) (by kernel_rfl) (by decide) u (by rw [starE]; exact h)
set_option maxRecDepth 100000 in
theorem powEq : (Rows.laid_internal_strconv_uint64pow10 : DataW Unit) = Go.Lib.tabData .u64 Go.Lib.pow10Tab := by kernel_rfl
theorem tabs {W : World} (hL : laidMetH Tryd.prog Rows.markRowRow.laid W) : Go.Proofs.YtkicekddkgehoaaDoor.Hnd.NTabs W := by
  rw [MakeChecks.laidMetH_plain _ _ _ (by kernel_rfl)] at hL
  have h3 : laidMet Tryd.prog (("internal/strconv.uint64pow10", Rows.laid_internal_strconv_uint64pow10) :: ("strconv.ErrRange", Rows.laid_strconv_ErrRange) :: ("strconv.ErrSyntax", Rows.laid_strconv_ErrSyntax) :: []) W := hL.tail.tail
  have h4 := h3.tail
  have h5 := h4.tail
  obtain ⟨a0, s0, hv0, -, -, -⟩ := laid_sentinel h4 (g := 3) (by kernel_rfl) (ti := 100) (by kernel_rfl) Tryd.underlying100 rowE Tryd.underlying139 Tryd.underlying141 rfl rfl Tryd.underlying9 (by kernel_rfl) (by kernel_rfl)
  obtain ⟨a1, s1, hv1, -, -, -⟩ := laid_sentinel h5 (g := 2) (by kernel_rfl) (ti := 100) (by kernel_rfl) Tryd.underlying100 rowE Tryd.underlying139 Tryd.underlying141 rfl rfl Tryd.underlying9 (by kernel_rfl) (by kernel_rfl)
  rw [powEq] at h3
  exact ⟨Go.Lib.tabIs_of_head (g := 1) (t := 127) (by kernel_rfl) (by kernel_rfl) Tryd.underlying127 Tryd.underlying87 (by kernel_rfl) (by kernel_rfl) h3, ⟨_, _, hv1⟩, ⟨_, _, hv0⟩⟩
set_option maxRecDepth 100000 in
theorem lifted (os : Os) (started : os.Started) (H : Type) (enc : TypeId × Value → H) :
    ReturnsInHanded {} Tryd.checked os 7 .any (fun w args => (Rows.markRowSpec.pre enc Tryd.prog Tryd.f7 [] false w args ∧ laidMetH Tryd.prog Rows.markRowRow.laid w) ∧ sizedMet enc Tryd.prog Tryd.f7 (OpenSpec.ofChange Rows.markRowSpec) false w args) (Rows.markRowSpec.post enc Tryd.prog Tryd.f7 false true false false) := by
  refine returnsInHanded_of_change_and (C := Tryd.checked) (X := fun w _ => laidMetH Tryd.prog Rows.markRowRow.laid w) (fun _ _ _ hh h => h.of_heap hh) own started (by kernel_rfl) Tryd.func7
    (ChangeSpec.witness_shaped (enc := enc) (C := Tryd.checked) (os := os) (X := fun w _ => laidMetH Tryd.prog Rows.markRowRow.laid w) false (World.laidAll Tryd.prog os Rows.markRowRow.laid) #[.int .i64 0, .slice none 0 0, .agg #[.int .i64 0, .slice none 0 0]] 8 (World.laidAll_os _ _ _)
      (World.shaped_of_ZipB (by kernel_rfl) (by kernel_rfl)) (by kernel_rfl) (by kernel_rfl) (by kernel_rfl)
      (by rw [MakeChecks.laidMetH_plain _ _ _ (by kernel_rfl)]; exact laidMet_laidAll _ (by kernel_rfl) (by kernel_rfl))) ?_
  intro W base args ds gs before hval0 hW hcnd hsz0 hL _
  have hsz : (DataW.weightsEach Tryd.prog (Tryd.f7.params.toList ++ Rows.markRowSpec.plain.varTypes Tryd.prog) (ds ++ gs)).all (· ≤ reachBytes) = true := hsz0
  have hval : ∀ (j : Nat) t v, Tryd.f7.params[j]? = some t → args[j]? = some v → Value.okWide Tryd.prog W .any base t v := hval0
  have hW' := hW
  obtain ⟨p, q, hA0, hV, rfl, hfz, hnd⟩ := hW
  have hA : DataW.TrodAll enc Tryd.prog W 0 (fun _ => true) true Tryd.f7.params.toList args.toList ds p := hA0
  rw [Tryd.params7] at hA hval hsz
  obtain ⟨v0, vs0, d0, ds0, p0, q0, hargs, rfl, rfl, h0, r0⟩ := trodAll_cons hA
  obtain ⟨v1, vs1, d1, ds1, p1, q1, rfl, rfl, rfl, h1, r1⟩ := trodAll_cons r0
  obtain ⟨v2, vs2, d2, ds2, p2, q2, rfl, rfl, rfl, h2, r2⟩ := trodAll_cons r1
  obtain ⟨rfl, rfl, rfl⟩ := trodAll_nil r2
  obtain rfl : args = #[v0, v1, v2] := by cases args; simp_all
  obtain ⟨rfl, rfl⟩ := trodVars_none hV
  obtain ⟨a0, rfl, rfl, rfl, w0⟩ := open_int Tryd.underlying3 (hval 0 3 v0 rfl rfl) h0
  obtain ⟨b1, len1, cap1, rfl⟩ := okWide_slice Tryd.underlying42 (hval 1 42 v1 rfl rfl)
  have k1 := h1
  have lt1 : ∀ x ∈ p1, x.block < W.heap.size := by obtain ⟨m, hm⟩ := k1; exact DataW.trod_lt m _ _ _ hm
  obtain ⟨l1, C1, n1, hc1, hr1, w1⟩ : ∃ (l : List S23) (A : Option Addr) (c : Nat), (Value.slice b1 len1 cap1 = .slice A l.length c) ∧ (l.length ≤ c ∧ Kd.C k23 W A l.length l) ∧ ((l.length * 24 ≤ 140737488351232 ∧ ∀ y1 ∈ l, ((Lit.int .i64 y1.f0).wf = true ∧ y1.f1.size ≤ 140737488351232))) := by
    obtain ⟨fuel, hf⟩ := h1
    obtain ⟨l, ⟨A, c, hcs, hl, hC⟩, hok⟩ := (opens_slice (B := 24) Tryd.underlying42 (by kernel_rfl) (by kernel_rfl) opens_23) _ _ _ _ _ _ _ _ _ hf (light_arg hsz (j := 1) (t := 42) rfl rfl)
    exact ⟨l, A, c, by simpa [Value.cells] using hcs, ⟨hl, hC⟩, hok⟩
  rw [hc1] at hW' k1 ⊢
  obtain ⟨cs2, rfl, hz2⟩ := okWide_struct Tryd.underlying47 (hval 2 47 v2 rfl rfl)
  have k2 := h2
  have lt2 : ∀ x ∈ p2, x.block < W.heap.size := by obtain ⟨m, hm⟩ := k2; exact DataW.trod_lt m _ _ _ hm
  obtain ⟨a2, hK2, w2⟩ : ∃ a : S47, k47.K W a cs2.toList ∧ ((Lit.int .i64 a.f0).wf = true ∧ (a.f1.length * 8 ≤ 140737488351232 ∧ ∀ y2 ∈ a.f1, ((Lit.int .i64 y2.f0).wf = true))) := by
    obtain ⟨fuel, hf⟩ := h2
    exact opens_47 _ _ _ _ _ _ _ _ _ hf (light_arg hsz (j := 2) (t := 47) rfl rfl)
  clear hA0 hval0 hsz0 hsz
  have h := Pure.MarkRow a0 l1 a2 w0 w1 w2
  refine (YtkicekddkgehoaaDoor.LMarkRow.lazaruslaw6_MarkRow.calls a0 _ _ l1 a2 _ true W hr1.2 hr1.1 hK2 h (tabs hL)).mono ?_
  rintro e W' ⟨he, bel0⟩
  have bel : Below W.heap.size W W' := bel0
  subst he
  exact ⟨_, rfl, _, _, _, [], _, [], hW', trodAll_mk1 (shut_bool Tryd.underlying4 _), (trodAll_cons_mk (shut_int Tryd.underlying3 w0) (trodAll_cons_mk (Below.trod laidOut (by kernel_rfl) (of_decide_eq_true (by kernel_rfl)) k1 bel lt1) (trodAll_cons_mk (Below.trod laidOut (by kernel_rfl) (of_decide_eq_true (by kernel_rfl)) k2 bel lt2) trodAll_mk0))), rfl, bel.frame _, fun h => by cases h⟩
theorem over : Rows.markRowRow.holds Tryd.pinned (OpenSpec.ofChange Rows.markRowSpec) :=
  OpenClaim.holds_of_wide 7 Tryd.f7 rfl rfl rfl rfl rfl rfl rfl ⟨rfl, rfl, rfl, rfl, rfl⟩ rfl rfl rfl rfl rfl (by kernel_rfl) Tryd.func7 (by kernel_rfl)
    (of_decide_eq_true (by kernel_rfl)) (by unfold Func.isWrapper; first | (rw [if_pos (by decide +kernel)]; kernel_rfl) | (rw [if_neg (by decide +kernel)]; exact ⟨rfl, rfl⟩))
    (fun os started H enc _ => lifted os started H enc)
set_option maxRecDepth 100000 in
theorem proved : Rows.MarkRowCardSaid :=
  Claim7.holds_tied_plain_at .later [] [.data, .data, .data, .sentinel, .sentinel] true (true, "630d5be5482527b8d437b1b34c7199129d0846f4c9c9df4f77082bb4d9c2e692") true
    over (fun _ h => by cases h) (by kernel_rfl) (fun _ h => by cases h) markRow_row_tie rfl ⟨rfl, rfl⟩ (by kernel_rfl) rfl
    (fun f fn hf hfn => by
      obtain rfl : f = 7 := Option.some.inj ((show Tryd.prog.funcNamed Rows.markRowRow.func = some 7 by kernel_rfl).symm.trans hf) |>.symm
      obtain rfl : fn = Tryd.f7 := (Option.some.inj (Tryd.func7.symm.trans hfn)).symm
      exact ⟨by kernel_rfl, fun j t ht => by
        rw [Tryd.params7] at ht
        have hm : t ∈ [3, 42, 47] := by simpa using Array.mem_of_getElem? ht
        have hall : ([3, 42, 47].all fun u => !Tryd.prog.wantsStandIn u) = true := by kernel_rfl
        exact (show Tryd.prog.wantsStandIn t = false by simpa using List.all_eq_true.1 hall t hm)⟩)
    (by kernel_rfl)
#print axioms proved
end Go.Proofs.YtkicekddkgehoaaDoor.markRow
namespace Go.Proofs.YtkicekddkgehoaaDoor
/-- The card, under a short name, for the claim. -/
theorem markRow_holds : Rows.MarkRowCardSaid := markRow.proved
end Go.Proofs.YtkicekddkgehoaaDoor
