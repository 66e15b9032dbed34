/- The law SlotPlays: for every input the call returns true and leaves what came in as it was. No condition beyond the statement's own. -/
import Derived.Test.YtkicekddkgehoaaRows
import Derived.Test.YtkicekddkgehoaaLSlotPlaysx0
import Derived.Test.YtkicekddkgehoaaPureSlotPlays
import Derived.Test.YtkicekddkgehoaaOpens
import Derived.WalkKit
import Derived.ProofKit
import Derived.OpenShut
import Derived.ShutString
import Derived.ChangeOld
import Derived.Below
import Derived.SizedLaws
import Derived.Lib.SmallJoins
namespace Go.Proofs.Ytkicekddkgehoaa.slotPlays
open Go.ChangeShapes Go.WideShapes Go.ChangeAt Go.RowKit Go.Proofs.YtkicekddkgehoaaW.PrintWords Go.Proofs.YtkicekddkgehoaaW.PrintLast Go.Proofs.Ytkicekddkgehoaa.LSlotPlays Go.Proofs.Ytkicekddkgehoaa.QSlotLast Go.Proofs.Ytkicekddkgehoaa.Opening
open Go.ChangeMaps (open_string shut_string)
set_option linter.unusedVariables false
theorem own : ownKnob Try.prog.godebug = none := by kernel_rfl
theorem laidOut : laidOutB Try.prog = true := by kernel_rfl
theorem opens_63 : Opens Try.prog 63 k63 (fun x => ((Lit.int .i64 x.f0).wf = true)) :=
  opens_struct (fun x : S63 => x.f0) (fun a => ⟨a⟩) (fun _ => rfl) Try.underlying63 (by kernel_rfl) (opensF_last (opens_int Try.underlying3) (by kernel_rfl) rfl)
theorem opens_38 : Opens Try.prog 38 k38 (fun x => ((Lit.int .i64 x.f0).wf = true ∧ (x.f1.length * 8 ≤ 140737488351232 ∧ ∀ y4 ∈ x.f1, ((Lit.int .i64 y4.f0).wf = true)))) :=
  opens_struct (fun x : S38 => (x.f0, x.f1)) (fun a => ⟨a.1, a.2⟩) (fun _ => rfl) Try.underlying38 (by kernel_rfl) (opensF_cons (opens_int Try.underlying3) (by kernel_rfl) rfl (opensF_last (opens_slice (B := 8) Try.underlying36 (by kernel_rfl) (by kernel_rfl) opens_63) (by kernel_rfl) rfl))
theorem opens_40 : Opens Try.prog 40 k40 (fun x => ((x.f0.length * 1 ≤ 140737488351232 ∧ ∀ y5 ∈ x.f0, (Lit.int .u8 y5).wf = true) ∧ True ∧ ((Lit.int .i64 x.f2.f0).wf = true ∧ (x.f2.f1.length * 8 ≤ 140737488351232 ∧ ∀ y6 ∈ x.f2.f1, ((Lit.int .i64 y6.f0).wf = true))) ∧ (Lit.int .i64 x.f3).wf = true)) :=
  opens_struct (fun x : S40 => (x.f0, x.f1, x.f2, x.f3)) (fun a => ⟨a.1, a.2.1, a.2.2.1, a.2.2.2⟩) (fun _ => rfl) Try.underlying40 (by kernel_rfl) (opensF_cons (opens_slice (B := 1) Try.underlying22 (by kernel_rfl) (by kernel_rfl) (opens_int Try.underlying5)) (by kernel_rfl) rfl (opensF_cons (opens_bool Try.underlying4) (by kernel_rfl) rfl (opensF_cons opens_38 (by kernel_rfl) rfl (opensF_last (opens_int Try.underlying3) (by kernel_rfl) rfl))))
set_option maxRecDepth 100000 in
theorem lifted (os : Os) (started : os.Started) (H : Type) (enc : TypeId × Value → H) :
    ReturnsInHanded {} Try.checked os 5 .any (Rows.slotPlaysSpec.pre6 enc Try.prog Try.f5 Rows.slotPlaysRow.domain false) (Rows.slotPlaysSpec.post enc Try.prog Try.f5 false true false false) := by
  refine returnsInHanded_of_change_sized (C := Try.checked) own started (by kernel_rfl) Try.func5
    (ChangeSpec.witness6 (enc := enc) (C := Try.checked) false ⟨#[], #[.int .i64 0, .slice none 0 0], []⟩ 8 (by kernel_rfl) (by kernel_rfl) (by kernel_rfl) (by kernel_rfl)) ?_
  intro W base args ds gs before hval0 hW hcnd hsz0 _
  have hsz : (DataW.weightsEach Try.prog (Try.f5.params.toList ++ Rows.slotPlaysSpec.plain.varTypes Try.prog) (ds ++ gs)).all (· ≤ reachBytes) = true := hsz0
  have hval : ∀ (j : Nat) t v, Try.f5.params[j]? = some t → args[j]? = some v → Value.okWide Try.prog W .any base t v := hval0
  have hW' := hW
  obtain ⟨p, q, hA0, hV, rfl, hfz, hnd⟩ := hW
  have hA : DataW.TrodAll enc Try.prog W 0 (fun _ => true) true Try.f5.params.toList args.toList ds p := hA0
  rw [Try.params5] at hA hval hsz
  obtain ⟨v0, vs0, d0, ds0, p0, q0, hargs, rfl, rfl, h0, r0⟩ := trodAll_cons hA
  obtain ⟨v1, vs1, d1, ds1, p1, q1, rfl, rfl, rfl, h1, r1⟩ := trodAll_cons r0
  obtain ⟨rfl, rfl, rfl⟩ := trodAll_nil r1
  obtain rfl : args = #[v0, v1] := by cases args; simp_all
  obtain ⟨rfl, rfl⟩ := trodVars_none hV
  obtain ⟨a0, rfl, rfl, rfl, w0⟩ := open_int Try.underlying3 (hval 0 3 v0 rfl rfl) h0
  obtain ⟨b1, len1, cap1, rfl⟩ := okWide_slice Try.underlying33 (hval 1 33 v1 rfl rfl)
  have k1 := h1
  have lt1 : ∀ x ∈ p1, x.block < W.heap.size := by obtain ⟨m, hm⟩ := k1; exact DataW.trod_lt m _ _ _ hm
  obtain ⟨l1, C1, n1, hc1, hr1, w1⟩ : ∃ (l : List S40) (A : Option Addr) (c : Nat), (Value.slice b1 len1 cap1 = .slice A l.length c) ∧ (l.length ≤ c ∧ Kd.C k40 W A l.length l) ∧ ((l.length * 72 ≤ 140737488351232 ∧ ∀ y1 ∈ l, ((y1.f0.length * 1 ≤ 140737488351232 ∧ ∀ y2 ∈ y1.f0, (Lit.int .u8 y2).wf = true) ∧ True ∧ ((Lit.int .i64 y1.f2.f0).wf = true ∧ (y1.f2.f1.length * 8 ≤ 140737488351232 ∧ ∀ y3 ∈ y1.f2.f1, ((Lit.int .i64 y3.f0).wf = true))) ∧ (Lit.int .i64 y1.f3).wf = true))) := by
    obtain ⟨fuel, hf⟩ := h1
    obtain ⟨l, ⟨A, c, hcs, hl, hC⟩, hok⟩ := (opens_slice (B := 72) Try.underlying33 (by kernel_rfl) (by kernel_rfl) opens_40) _ _ _ _ _ _ _ _ _ hf (light_arg hsz (j := 1) (t := 33) rfl rfl)
    exact ⟨l, A, c, by simpa [Value.cells] using hcs, ⟨hl, hC⟩, hok⟩
  rw [hc1] at hW' k1 ⊢
  clear hA0 hval0 hsz0 hsz
  have h := Pure.SlotPlays a0 l1 w0 w1
  refine (Ytkicekddkgehoaa.LSlotPlays.lazaruslaw5_SlotPlays.calls a0 _ _ l1 true W hr1.2 hr1.1 h).mono ?_
  rintro e W' ⟨he, bel0⟩
  have bel : Below W.heap.size W W' := bel0
  subst he
  exact ⟨_, rfl, _, _, _, [], _, [], hW', trodAll_mk1 (shut_bool Try.underlying4 _), (trodAll_cons_mk (shut_int Try.underlying3 w0) (trodAll_cons_mk (Below.trod laidOut (by kernel_rfl) (of_decide_eq_true (by kernel_rfl)) k1 bel lt1) trodAll_mk0)), rfl, bel.frame _, fun h => by cases h⟩
theorem over : Rows.slotPlaysRow.holds Try.pinned (OpenSpec.ofChange Rows.slotPlaysSpec) :=
  OpenClaim.holds_of_wide 5 Try.f5 rfl rfl rfl rfl rfl rfl rfl ⟨rfl, rfl, rfl, rfl, rfl⟩ rfl rfl rfl rfl rfl (by kernel_rfl) Try.func5 (by kernel_rfl)
    (of_decide_eq_true (by kernel_rfl)) (by unfold Func.isWrapper; first | (rw [if_pos (by decide +kernel)]; kernel_rfl) | (rw [if_neg (by decide +kernel)]; exact ⟨rfl, rfl⟩))
    (fun os started H enc _ => lifted os started H enc)
theorem proved : Rows.SlotPlaysSaid := over
#print axioms proved
end Go.Proofs.Ytkicekddkgehoaa.slotPlays
namespace Go.Proofs.Ytkicekddkgehoaa
/-- The row, under a short name, for the claim. -/
theorem slotPlays_holds : Rows.SlotPlaysSaid := slotPlays.proved
end Go.Proofs.Ytkicekddkgehoaa
