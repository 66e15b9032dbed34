/- The law PortAppends: for every input the call returns true and leaves what came in as it was. No condition beyond the statement's own. -/
import Derived.Test.YtikninibkljnnaaRows
import Derived.Test.YtikninibkljnnaaLPortAppendsx0
import Derived.Test.YtikninibkljnnaaPurePortAppends
import Derived.Test.YtikninibkljnnaaOpens
import Derived.WalkKit
import Derived.ProofKit
import Derived.OpenShut
import Derived.ShutString
import Derived.ChangeOld
import Derived.Below
import Derived.SizedLaws
import Derived.Lib.SmallJoins
namespace Go.Proofs.Ytikninibkljnnaa.portAppends
open Go.ChangeShapes Go.WideShapes Go.ChangeAt Go.RowKit Go.Proofs.YtikninibkljnnaaW.PrintWords Go.Proofs.YtikninibkljnnaaW.PrintLast Go.Proofs.Ytikninibkljnnaa.LPortAppends Go.Proofs.Ytikninibkljnnaa.QPortAppends Go.Proofs.Ytikninibkljnnaa.Hnd Go.Proofs.Ytikninibkljnnaa.Opening
open Go.ChangeMaps (open_string shut_string)
set_option linter.unusedVariables false
theorem own : ownKnob Try.prog.godebug = none := by kernel_rfl
theorem laidOut : laidOutB Try.prog = true := by kernel_rfl
set_option maxRecDepth 100000 in
theorem lifted (os : Os) (started : os.Started) (H : Type) (enc : TypeId × Value → H) :
    ReturnsInHanded {} Try.checked os 3 .any (Rows.portAppendsSpec.pre6 enc Try.prog Try.f3 Rows.portAppendsRow.domain false) (Rows.portAppendsSpec.post enc Try.prog Try.f3 false true false false) := by
  refine returnsInHanded_of_change_sized (C := Try.checked) own started (by kernel_rfl) Try.func3
    (ChangeSpec.witness6 (enc := enc) (C := Try.checked) false ⟨#[], #[.string ByteArray.empty, .slice none 0 0], []⟩ 8 (by kernel_rfl) (by kernel_rfl) (by kernel_rfl) (by kernel_rfl)) ?_
  intro W base args ds gs before hval0 hW hcnd hsz0 _
  have hsz : (DataW.weightsEach Try.prog (Try.f3.params.toList ++ Rows.portAppendsSpec.plain.varTypes Try.prog) (ds ++ gs)).all (· ≤ reachBytes) = true := hsz0
  have hval : ∀ (j : Nat) t v, Try.f3.params[j]? = some t → args[j]? = some v → Value.okWide Try.prog W .any base t v := hval0
  have hW' := hW
  obtain ⟨p, q, hA0, hV, rfl, hfz, hnd⟩ := hW
  have hA : DataW.TrodAll enc Try.prog W 0 (fun _ => true) true Try.f3.params.toList args.toList ds p := hA0
  rw [Try.params3] at hA hval hsz
  obtain ⟨v0, vs0, d0, ds0, p0, q0, hargs, rfl, rfl, h0, r0⟩ := trodAll_cons hA
  obtain ⟨v1, vs1, d1, ds1, p1, q1, rfl, rfl, rfl, h1, r1⟩ := trodAll_cons r0
  obtain ⟨rfl, rfl, rfl⟩ := trodAll_nil r1
  obtain rfl : args = #[v0, v1] := by cases args; simp_all
  obtain ⟨rfl, rfl⟩ := trodVars_none hV
  obtain ⟨a0, rfl, rfl, rfl, y0⟩ := open_string Try.underlying9 (hval 0 9 v0 rfl rfl) h0
  have w0 : a0.size ≤ 140737488351232 := by
    have z := sized_string hsz (j := 0) (t := 9) rfl rfl
    rw [Array.length_toList] at z
    exact z
  obtain ⟨b1, len1, cap1, rfl⟩ := okWide_slice Try.underlying22 (hval 1 22 v1 rfl rfl)
  have k1 := h1
  have lt1 : ∀ x ∈ p1, x.block < W.heap.size := by obtain ⟨m, hm⟩ := k1; exact DataW.trod_lt m _ _ _ hm
  obtain ⟨l1, C1, n1, hc1, hr1, w1⟩ : ∃ (l : List ByteArray) (A : Option Addr) (c : Nat), (Value.slice b1 len1 cap1 = .slice A l.length c) ∧ (l.length ≤ c ∧ Kd.C Kd.string W A l.length l) ∧ ((l.length * 16 ≤ 140737488351232 ∧ ∀ y1 ∈ l, y1.size ≤ 140737488351232)) := by
    obtain ⟨fuel, hf⟩ := h1
    obtain ⟨l, ⟨A, c, hcs, hl, hC⟩, hok⟩ := (opens_slice (B := 16) Try.underlying22 (by kernel_rfl) (by kernel_rfl) (opens_string Try.underlying9)) _ _ _ _ _ _ _ _ _ hf (light_arg hsz (j := 1) (t := 22) rfl rfl)
    exact ⟨l, A, c, by simpa [Value.cells] using hcs, ⟨hl, hC⟩, hok⟩
  rw [hc1] at hW' k1 ⊢
  clear hA0 hval0 hsz0 hsz
  have h := Pure.PortAppends a0 l1 w0 w1
  refine (Ytikninibkljnnaa.LPortAppends.lazaruslaw18_PortAppends.calls a0 _ _ l1 true W hr1.2 hr1.1 h).mono ?_
  rintro e W' ⟨he, bel0⟩
  have bel : Below W.heap.size W W' := bel0
  subst he
  exact ⟨_, rfl, _, _, _, [], _, [], hW', trodAll_mk1 (shut_bool Try.underlying4 _), (trodAll_cons_mk (shut_string Try.underlying9 y0) (trodAll_cons_mk (Below.trod laidOut (by kernel_rfl) (of_decide_eq_true (by kernel_rfl)) k1 bel lt1) trodAll_mk0)), rfl, bel.frame _, fun h => by cases h⟩
theorem over : Rows.portAppendsRow.holds Try.pinned (OpenSpec.ofChange Rows.portAppendsSpec) :=
  OpenClaim.holds_of_wide 3 Try.f3 rfl rfl rfl rfl rfl rfl rfl ⟨rfl, rfl, rfl, rfl, rfl⟩ rfl rfl rfl rfl rfl (by kernel_rfl) Try.func3 (by kernel_rfl)
    (of_decide_eq_true (by kernel_rfl)) (by unfold Func.isWrapper; first | (rw [if_pos (by decide +kernel)]; kernel_rfl) | (rw [if_neg (by decide +kernel)]; exact ⟨rfl, rfl⟩))
    (fun os started H enc _ => lifted os started H enc)
theorem proved : Rows.PortAppendsSaid := over
#print axioms proved
end Go.Proofs.Ytikninibkljnnaa.portAppends
namespace Go.Proofs.Ytikninibkljnnaa
/-- The row, under a short name, for the claim. -/
theorem portAppends_holds : Rows.PortAppendsSaid := portAppends.proved
end Go.Proofs.Ytikninibkljnnaa
