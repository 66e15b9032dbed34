/- The law EnvOwn: for every input the call returns true and leaves what came in as it was. No condition beyond the statement's own. -/
import Derived.Test.YtekebjkcolhcoaaRows
import Derived.Test.YtekebjkcolhcoaaLEnvOwnx0
import Derived.Test.YtekebjkcolhcoaaPureEnvOwn
import Derived.Test.YtekebjkcolhcoaaOpens
import Derived.WalkKit
import Derived.ProofKit
import Derived.OpenShut
import Derived.ShutString
import Derived.ChangeOld
import Derived.Below
import Derived.SizedLaws
import Derived.Lib.SmallJoins
namespace Go.Proofs.Ytekebjkcolhcoaa.envOwn
open Go.ChangeShapes Go.WideShapes Go.ChangeAt Go.RowKit Go.Proofs.YtekebjkcolhcoaaW.PrintWords Go.Proofs.YtekebjkcolhcoaaW.PrintLast Go.Proofs.Ytekebjkcolhcoaa.LEnvOwn Go.Proofs.Ytekebjkcolhcoaa.QEnvOwn Go.Proofs.Ytekebjkcolhcoaa.Opening
open Go.ChangeMaps (open_string shut_string)
set_option linter.unusedVariables false
theorem own : ownKnob Try.prog.godebug = none := by kernel_rfl
theorem laidOut : laidOutB Try.prog = true := by kernel_rfl
theorem opens_41 : Opens Try.prog 41 k41 (fun x => ((Lit.int .i64 x.f0).wf = true ∧ x.f1.size ≤ 140737488351232 ∧ x.f2.size ≤ 140737488351232 ∧ (Lit.int .i64 x.f3).wf = true)) :=
  opens_struct (fun x : S41 => (x.f0, x.f1, x.f2, x.f3)) (fun a => ⟨a.1, a.2.1, a.2.2.1, a.2.2.2⟩) (fun _ => rfl) Try.underlying41 (by kernel_rfl) (opensF_cons (opens_int Try.underlying3) (by kernel_rfl) rfl (opensF_cons (opens_string Try.underlying9) (by kernel_rfl) rfl (opensF_cons (opens_string Try.underlying9) (by kernel_rfl) rfl (opensF_last (opens_int Try.underlying3) (by kernel_rfl) rfl))))
set_option maxRecDepth 100000 in
theorem lifted (os : Os) (started : os.Started) (H : Type) (enc : TypeId × Value → H) :
    ReturnsInHanded {} Try.checked os 4 .any (Rows.envOwnSpec.pre6 enc Try.prog Try.f4 Rows.envOwnRow.domain false) (Rows.envOwnSpec.post enc Try.prog Try.f4 false true false false) := by
  refine returnsInHanded_of_change_sized (C := Try.checked) own started (by kernel_rfl) Try.func4
    (ChangeSpec.witness6 (enc := enc) (C := Try.checked) false ⟨#[], #[.slice none 0 0, .agg #[.int .i64 0, .string ByteArray.empty, .string ByteArray.empty, .int .i64 0], .agg #[.int .i64 0, .string ByteArray.empty, .string ByteArray.empty, .int .i64 0]], []⟩ 8 (by kernel_rfl) (by kernel_rfl) (by kernel_rfl) (by kernel_rfl)) ?_
  intro W base args ds gs before hval0 hW hcnd hsz0 _
  have hsz : (DataW.weightsEach Try.prog (Try.f4.params.toList ++ Rows.envOwnSpec.plain.varTypes Try.prog) (ds ++ gs)).all (· ≤ reachBytes) = true := hsz0
  have hval : ∀ (j : Nat) t v, Try.f4.params[j]? = some t → args[j]? = some v → Value.okWide Try.prog W .any base t v := hval0
  have hW' := hW
  obtain ⟨p, q, hA0, hV, rfl, hfz, hnd⟩ := hW
  have hA : DataW.TrodAll enc Try.prog W 0 (fun _ => true) true Try.f4.params.toList args.toList ds p := hA0
  rw [Try.params4] at hA hval hsz
  obtain ⟨v0, vs0, d0, ds0, p0, q0, hargs, rfl, rfl, h0, r0⟩ := trodAll_cons hA
  obtain ⟨v1, vs1, d1, ds1, p1, q1, rfl, rfl, rfl, h1, r1⟩ := trodAll_cons r0
  obtain ⟨v2, vs2, d2, ds2, p2, q2, rfl, rfl, rfl, h2, r2⟩ := trodAll_cons r1
  obtain ⟨rfl, rfl, rfl⟩ := trodAll_nil r2
  obtain rfl : args = #[v0, v1, v2] := by cases args; simp_all
  obtain ⟨rfl, rfl⟩ := trodVars_none hV
  obtain ⟨b0, len0, cap0, rfl⟩ := okWide_slice Try.underlying39 (hval 0 39 v0 rfl rfl)
  have k0 := h0
  have lt0 : ∀ x ∈ p0, x.block < W.heap.size := by obtain ⟨m, hm⟩ := k0; exact DataW.trod_lt m _ _ _ hm
  obtain ⟨l0, C0, n0, hc0, hr0, w0⟩ : ∃ (l : List S41) (A : Option Addr) (c : Nat), (Value.slice b0 len0 cap0 = .slice A l.length c) ∧ (l.length ≤ c ∧ Kd.C k41 W A l.length l) ∧ ((l.length * 48 ≤ 140737488351232 ∧ ∀ y1 ∈ l, ((Lit.int .i64 y1.f0).wf = true ∧ y1.f1.size ≤ 140737488351232 ∧ y1.f2.size ≤ 140737488351232 ∧ (Lit.int .i64 y1.f3).wf = true))) := by
    obtain ⟨fuel, hf⟩ := h0
    obtain ⟨l, ⟨A, c, hcs, hl, hC⟩, hok⟩ := (opens_slice (B := 48) Try.underlying39 (by kernel_rfl) (by kernel_rfl) opens_41) _ _ _ _ _ _ _ _ _ hf (light_arg hsz (j := 0) (t := 39) rfl rfl)
    exact ⟨l, A, c, by simpa [Value.cells] using hcs, ⟨hl, hC⟩, hok⟩
  rw [hc0] at hW' k0 ⊢
  obtain ⟨cs1, rfl, hz1⟩ := okWide_struct Try.underlying41 (hval 1 41 v1 rfl rfl)
  have k1 := h1
  have lt1 : ∀ x ∈ p1, x.block < W.heap.size := by obtain ⟨m, hm⟩ := k1; exact DataW.trod_lt m _ _ _ hm
  obtain ⟨a1, hK1, w1⟩ : ∃ a : S41, k41.K W a cs1.toList ∧ ((Lit.int .i64 a.f0).wf = true ∧ a.f1.size ≤ 140737488351232 ∧ a.f2.size ≤ 140737488351232 ∧ (Lit.int .i64 a.f3).wf = true) := by
    obtain ⟨fuel, hf⟩ := h1
    exact opens_41 _ _ _ _ _ _ _ _ _ hf (light_arg hsz (j := 1) (t := 41) rfl rfl)
  obtain ⟨cs2, rfl, hz2⟩ := okWide_struct Try.underlying41 (hval 2 41 v2 rfl rfl)
  have k2 := h2
  have lt2 : ∀ x ∈ p2, x.block < W.heap.size := by obtain ⟨m, hm⟩ := k2; exact DataW.trod_lt m _ _ _ hm
  obtain ⟨a2, hK2, w2⟩ : ∃ a : S41, k41.K W a cs2.toList ∧ ((Lit.int .i64 a.f0).wf = true ∧ a.f1.size ≤ 140737488351232 ∧ a.f2.size ≤ 140737488351232 ∧ (Lit.int .i64 a.f3).wf = true) := by
    obtain ⟨fuel, hf⟩ := h2
    exact opens_41 _ _ _ _ _ _ _ _ _ hf (light_arg hsz (j := 2) (t := 41) rfl rfl)
  clear hA0 hval0 hsz0 hsz
  have h := Pure.EnvOwn l0 a1 a2 w0 w1 w2
  refine (Ytekebjkcolhcoaa.LEnvOwn.lazaruslaw14_EnvOwn.calls _ _ l0 a1 _ a2 _ true W hr0.2 hr0.1 hK1 hK2 h).mono ?_
  rintro e W' ⟨he, bel0⟩
  have bel : Below W.heap.size W W' := bel0
  subst he
  exact ⟨_, rfl, _, _, _, [], _, [], hW', trodAll_mk1 (shut_bool Try.underlying4 _), (trodAll_cons_mk (Below.trod laidOut (by kernel_rfl) (of_decide_eq_true (by kernel_rfl)) k0 bel lt0) (trodAll_cons_mk (Below.trod laidOut (by kernel_rfl) (of_decide_eq_true (by kernel_rfl)) k1 bel lt1) (trodAll_cons_mk (Below.trod laidOut (by kernel_rfl) (of_decide_eq_true (by kernel_rfl)) k2 bel lt2) trodAll_mk0))), rfl, bel.frame _, fun h => by cases h⟩
theorem over : Rows.envOwnRow.holds Try.pinned (OpenSpec.ofChange Rows.envOwnSpec) :=
  OpenClaim.holds_of_wide 4 Try.f4 rfl rfl rfl rfl rfl rfl rfl ⟨rfl, rfl, rfl, rfl, rfl⟩ rfl rfl rfl rfl rfl (by kernel_rfl) Try.func4 (by kernel_rfl)
    (of_decide_eq_true (by kernel_rfl)) (by unfold Func.isWrapper; first | (rw [if_pos (by decide +kernel)]; kernel_rfl) | (rw [if_neg (by decide +kernel)]; exact ⟨rfl, rfl⟩))
    (fun os started H enc _ => lifted os started H enc)
theorem proved : Rows.EnvOwnSaid := over
#print axioms proved
end Go.Proofs.Ytekebjkcolhcoaa.envOwn
namespace Go.Proofs.Ytekebjkcolhcoaa
/-- The row, under a short name, for the claim. -/
theorem envOwn_holds : Rows.EnvOwnSaid := envOwn.proved
end Go.Proofs.Ytekebjkcolhcoaa
