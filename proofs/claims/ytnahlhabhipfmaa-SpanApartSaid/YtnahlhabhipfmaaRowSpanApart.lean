/- The law SpanApart: for every input the call returns true and leaves what came in as it was. No condition beyond the statement's own. -/
import Derived.Test.YtnahlhabhipfmaaRows
import Derived.Test.YtnahlhabhipfmaaLSpanApartx0
import Derived.Test.YtnahlhabhipfmaaPureSpanApart
import Derived.Test.YtnahlhabhipfmaaOpens
import Derived.WalkKit
import Derived.ProofKit
import Derived.OpenShut
import Derived.ShutString
import Derived.ChangeOld
import Derived.Below
import Derived.SizedLaws
import Derived.Lib.SmallJoins
namespace Go.Proofs.Ytnahlhabhipfmaa.spanApart
open Go.ChangeShapes Go.WideShapes Go.ChangeAt Go.RowKit Go.Proofs.YtnahlhabhipfmaaW.PrintWords Go.Proofs.YtnahlhabhipfmaaW.PrintLast Go.Proofs.Ytnahlhabhipfmaa.LSpanApart Go.Proofs.Ytnahlhabhipfmaa.QSpanCrash Go.Proofs.Ytnahlhabhipfmaa.Opening
open Go.ChangeMaps (open_string shut_string)
set_option linter.unusedVariables false
theorem own : ownKnob Try.prog.godebug = none := by kernel_rfl
theorem laidOut : laidOutB Try.prog = true := by kernel_rfl
set_option maxRecDepth 100000 in
theorem lifted (os : Os) (started : os.Started) (H : Type) (enc : TypeId × Value → H) :
    ReturnsInHanded {} Try.checked os 9 .any (Rows.spanApartSpec.pre6 enc Try.prog Try.f9 Rows.spanApartRow.domain false) (Rows.spanApartSpec.post enc Try.prog Try.f9 false true false false) := by
  refine returnsInHanded_of_change_sized (C := Try.checked) own started (by kernel_rfl) Try.func9
    (ChangeSpec.witness6 (enc := enc) (C := Try.checked) false ⟨#[], #[.slice none 0 0], []⟩ 8 (by kernel_rfl) (by kernel_rfl) (by kernel_rfl) (by kernel_rfl)) ?_
  intro W base args ds gs before hval0 hW hcnd hsz0 _
  have hsz : (DataW.weightsEach Try.prog (Try.f9.params.toList ++ Rows.spanApartSpec.plain.varTypes Try.prog) (ds ++ gs)).all (· ≤ reachBytes) = true := hsz0
  have hval : ∀ (j : Nat) t v, Try.f9.params[j]? = some t → args[j]? = some v → Value.okWide Try.prog W .any base t v := hval0
  have hW' := hW
  obtain ⟨p, q, hA0, hV, rfl, hfz, hnd⟩ := hW
  have hA : DataW.TrodAll enc Try.prog W 0 (fun _ => true) true Try.f9.params.toList args.toList ds p := hA0
  rw [Try.params9] at hA hval hsz
  obtain ⟨v0, vs0, d0, ds0, p0, q0, hargs, rfl, rfl, h0, r0⟩ := trodAll_cons hA
  obtain ⟨rfl, rfl, rfl⟩ := trodAll_nil r0
  obtain rfl : args = #[v0] := by cases args; simp_all
  obtain ⟨rfl, rfl⟩ := trodVars_none hV
  obtain ⟨b0, len0, cap0, rfl⟩ := okWide_slice Try.underlying45 (hval 0 45 v0 rfl rfl)
  have k0 := h0
  have lt0 : ∀ x ∈ p0, x.block < W.heap.size := by obtain ⟨m, hm⟩ := k0; exact DataW.trod_lt m _ _ _ hm
  obtain ⟨l0, C0, n0, hc0, hr0, w0⟩ : ∃ (l : List (List Int)) (A : Option Addr) (c : Nat), (Value.slice b0 len0 cap0 = .slice A l.length c) ∧ (l.length ≤ c ∧ Kd.C (Kd.slice 5 (Kd.int .u8)) W A l.length l) ∧ ((l.length * 24 ≤ 140737488351232 ∧ ∀ y1 ∈ l, (y1.length * 1 ≤ 140737488351232 ∧ ∀ y2 ∈ y1, (Lit.int .u8 y2).wf = true))) := by
    obtain ⟨fuel, hf⟩ := h0
    obtain ⟨l, ⟨A, c, hcs, hl, hC⟩, hok⟩ := (opens_slice (B := 24) Try.underlying45 (by kernel_rfl) (by kernel_rfl) (opens_slice (B := 1) Try.underlying26 (by kernel_rfl) (by kernel_rfl) (opens_int Try.underlying5))) _ _ _ _ _ _ _ _ _ hf (light_arg hsz (j := 0) (t := 45) rfl rfl)
    exact ⟨l, A, c, by simpa [Value.cells] using hcs, ⟨hl, hC⟩, hok⟩
  rw [hc0] at hW' k0 ⊢
  clear hA0 hval0 hsz0 hsz
  have h := Pure.SpanApart l0 w0
  refine (Ytnahlhabhipfmaa.LSpanApart.lazaruslaw4_SpanApart.calls _ _ l0 true W hr0.2 hr0.1 h).mono ?_
  rintro e W' ⟨he, bel0⟩
  have bel : Below W.heap.size W W' := bel0
  subst he
  exact ⟨_, rfl, _, _, _, [], _, [], hW', trodAll_mk1 (shut_bool Try.underlying4 _), (trodAll_cons_mk (Below.trod laidOut (by kernel_rfl) (of_decide_eq_true (by kernel_rfl)) k0 bel lt0) trodAll_mk0), rfl, bel.frame _, fun h => by cases h⟩
theorem over : Rows.spanApartRow.holds Try.pinned (OpenSpec.ofChange Rows.spanApartSpec) :=
  OpenClaim.holds_of_wide 9 Try.f9 rfl rfl rfl rfl rfl rfl rfl ⟨rfl, rfl, rfl, rfl, rfl⟩ rfl rfl rfl rfl rfl (by kernel_rfl) Try.func9 (by kernel_rfl)
    (of_decide_eq_true (by kernel_rfl)) (by unfold Func.isWrapper; first | (rw [if_pos (by decide +kernel)]; kernel_rfl) | (rw [if_neg (by decide +kernel)]; exact ⟨rfl, rfl⟩))
    (fun os started H enc _ => lifted os started H enc)
theorem proved : Rows.SpanApartSaid := over
#print axioms proved
end Go.Proofs.Ytnahlhabhipfmaa.spanApart
namespace Go.Proofs.Ytnahlhabhipfmaa
/-- The row, under a short name, for the claim. -/
theorem spanApart_holds : Rows.SpanApartSaid := spanApart.proved
end Go.Proofs.Ytnahlhabhipfmaa
