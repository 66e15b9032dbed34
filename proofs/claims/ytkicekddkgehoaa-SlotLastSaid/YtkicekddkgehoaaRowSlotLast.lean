/- The law SlotLast: for every input the call returns true and leaves what came in as it was. No condition beyond the statement's own. -/
import Derived.Test.YtkicekddkgehoaaRows
import Derived.Test.YtkicekddkgehoaaLSlotLastx0
import Derived.Test.YtkicekddkgehoaaPureSlotLast
import Derived.Test.YtkicekddkgehoaaOpens
import Derived.WalkKit
import Derived.ProofKit
import Derived.OpenShut
import Derived.ShutString
import Derived.ChangeOld
import Derived.Below
import Derived.SizedLaws
import Derived.Lib.SmallJoins
namespace Go.Proofs.Ytkicekddkgehoaa.slotLast
open Go.ChangeShapes Go.WideShapes Go.ChangeAt Go.RowKit Go.Proofs.YtkicekddkgehoaaW.PrintWords Go.Proofs.YtkicekddkgehoaaW.PrintLast Go.Proofs.Ytkicekddkgehoaa.LSlotLast Go.Proofs.Ytkicekddkgehoaa.QSlotLast Go.Proofs.Ytkicekddkgehoaa.Opening
open Go.ChangeMaps (open_string shut_string)
set_option linter.unusedVariables false
theorem own : ownKnob Try.prog.godebug = none := by kernel_rfl
theorem laidOut : laidOutB Try.prog = true := by kernel_rfl
theorem opens_63 : Opens Try.prog 63 k63 (fun x => ((Lit.int .i64 x.f0).wf = true)) :=
  opens_struct (fun x : S63 => x.f0) (fun a => ⟨a⟩) (fun _ => rfl) Try.underlying63 (by kernel_rfl) (opensF_last (opens_int Try.underlying3) (by kernel_rfl) rfl)
theorem opens_38 : Opens Try.prog 38 k38 (fun x => ((Lit.int .i64 x.f0).wf = true ∧ (x.f1.length * 8 ≤ 140737488351232 ∧ ∀ y4 ∈ x.f1, ((Lit.int .i64 y4.f0).wf = true)))) :=
  opens_struct (fun x : S38 => (x.f0, x.f1)) (fun a => ⟨a.1, a.2⟩) (fun _ => rfl) Try.underlying38 (by kernel_rfl) (opensF_cons (opens_int Try.underlying3) (by kernel_rfl) rfl (opensF_last (opens_slice (B := 8) Try.underlying36 (by kernel_rfl) (by kernel_rfl) opens_63) (by kernel_rfl) rfl))
theorem opens_40 : Opens Try.prog 40 k40 (fun x => ((x.f0.length * 1 ≤ 140737488351232 ∧ ∀ y5 ∈ x.f0, (Lit.int .u8 y5).wf = true) ∧ True ∧ ((Lit.int .i64 x.f2.f0).wf = true ∧ (x.f2.f1.length * 8 ≤ 140737488351232 ∧ ∀ y6 ∈ x.f2.f1, ((Lit.int .i64 y6.f0).wf = true))) ∧ (Lit.int .i64 x.f3).wf = true)) :=
  opens_struct (fun x : S40 => (x.f0, x.f1, x.f2, x.f3)) (fun a => ⟨a.1, a.2.1, a.2.2.1, a.2.2.2⟩) (fun _ => rfl) Try.underlying40 (by kernel_rfl) (opensF_cons (opens_slice (B := 1) Try.underlying22 (by kernel_rfl) (by kernel_rfl) (opens_int Try.underlying5)) (by kernel_rfl) rfl (opensF_cons (opens_bool Try.underlying4) (by kernel_rfl) rfl (opensF_cons opens_38 (by kernel_rfl) rfl (opensF_last (opens_int Try.underlying3) (by kernel_rfl) rfl))))
set_option maxRecDepth 100000 in
theorem lifted (os : Os) (started : os.Started) (H : Type) (enc : TypeId × Value → H) :
    ReturnsInHanded {} Try.checked os 6 .any (Rows.slotLastSpec.pre6 enc Try.prog Try.f6 Rows.slotLastRow.domain false) (Rows.slotLastSpec.post enc Try.prog Try.f6 false true false false) := by
  refine returnsInHanded_of_change_sized (C := Try.checked) own started (by kernel_rfl) Try.func6
    (ChangeSpec.witness6 (enc := enc) (C := Try.checked) false ⟨#[], #[.slice none 0 0], []⟩ 8 (by kernel_rfl) (by kernel_rfl) (by kernel_rfl) (by kernel_rfl)) ?_
  intro W base args ds gs before hval0 hW hcnd hsz0 _
  have hsz : (DataW.weightsEach Try.prog (Try.f6.params.toList ++ Rows.slotLastSpec.plain.varTypes Try.prog) (ds ++ gs)).all (· ≤ reachBytes) = true := hsz0
  have hval : ∀ (j : Nat) t v, Try.f6.params[j]? = some t → args[j]? = some v → Value.okWide Try.prog W .any base t v := hval0
  have hW' := hW
  obtain ⟨p, q, hA0, hV, rfl, hfz, hnd⟩ := hW
  have hA : DataW.TrodAll enc Try.prog W 0 (fun _ => true) true Try.f6.params.toList args.toList ds p := hA0
  rw [Try.params6] at hA hval hsz
  obtain ⟨v0, vs0, d0, ds0, p0, q0, hargs, rfl, rfl, h0, r0⟩ := trodAll_cons hA
  obtain ⟨rfl, rfl, rfl⟩ := trodAll_nil r0
  obtain rfl : args = #[v0] := by cases args; simp_all
  obtain ⟨rfl, rfl⟩ := trodVars_none hV
  obtain ⟨b0, len0, cap0, rfl⟩ := okWide_slice Try.underlying33 (hval 0 33 v0 rfl rfl)
  have k0 := h0
  have lt0 : ∀ x ∈ p0, x.block < W.heap.size := by obtain ⟨m, hm⟩ := k0; exact DataW.trod_lt m _ _ _ hm
  obtain ⟨l0, C0, n0, hc0, hr0, w0⟩ : ∃ (l : List S40) (A : Option Addr) (c : Nat), (Value.slice b0 len0 cap0 = .slice A l.length c) ∧ (l.length ≤ c ∧ Kd.C k40 W A l.length l) ∧ ((l.length * 72 ≤ 140737488351232 ∧ ∀ y1 ∈ l, ((y1.f0.length * 1 ≤ 140737488351232 ∧ ∀ y2 ∈ y1.f0, (Lit.int .u8 y2).wf = true) ∧ True ∧ ((Lit.int .i64 y1.f2.f0).wf = true ∧ (y1.f2.f1.length * 8 ≤ 140737488351232 ∧ ∀ y3 ∈ y1.f2.f1, ((Lit.int .i64 y3.f0).wf = true))) ∧ (Lit.int .i64 y1.f3).wf = true))) := by
    obtain ⟨fuel, hf⟩ := h0
    obtain ⟨l, ⟨A, c, hcs, hl, hC⟩, hok⟩ := (opens_slice (B := 72) Try.underlying33 (by kernel_rfl) (by kernel_rfl) opens_40) _ _ _ _ _ _ _ _ _ hf (light_arg hsz (j := 0) (t := 33) rfl rfl)
    exact ⟨l, A, c, by simpa [Value.cells] using hcs, ⟨hl, hC⟩, hok⟩
  rw [hc0] at hW' k0 ⊢
  clear hA0 hval0 hsz0 hsz
  have h := Pure.SlotLast l0 w0
  refine (Ytkicekddkgehoaa.LSlotLast.lazaruslaw5_SlotLast.calls _ _ l0 true W hr0.2 hr0.1 h).mono ?_
  rintro e W' ⟨he, bel0⟩
  have bel : Below W.heap.size W W' := bel0
  subst he
  exact ⟨_, rfl, _, _, _, [], _, [], hW', trodAll_mk1 (shut_bool Try.underlying4 _), (trodAll_cons_mk (Below.trod laidOut (by kernel_rfl) (of_decide_eq_true (by kernel_rfl)) k0 bel lt0) trodAll_mk0), rfl, bel.frame _, fun h => by cases h⟩
theorem over : Rows.slotLastRow.holds Try.pinned (OpenSpec.ofChange Rows.slotLastSpec) :=
  OpenClaim.holds_of_wide 6 Try.f6 rfl rfl rfl rfl rfl rfl rfl ⟨rfl, rfl, rfl, rfl, rfl⟩ rfl rfl rfl rfl rfl (by kernel_rfl) Try.func6 (by kernel_rfl)
    (of_decide_eq_true (by kernel_rfl)) (by unfold Func.isWrapper; first | (rw [if_pos (by decide +kernel)]; kernel_rfl) | (rw [if_neg (by decide +kernel)]; exact ⟨rfl, rfl⟩))
    (fun os started H enc _ => lifted os started H enc)
theorem proved : Rows.SlotLastSaid := over
#print axioms proved
end Go.Proofs.Ytkicekddkgehoaa.slotLast
namespace Go.Proofs.Ytkicekddkgehoaa
/-- The row, under a short name, for the claim. -/
theorem slotLast_holds : Rows.SlotLastSaid := slotLast.proved
end Go.Proofs.Ytkicekddkgehoaa
