/- The law SpanCrash: for every input the call returns true and leaves what came in as it was. No condition beyond the statement's own. -/
import Derived.Test.YtnahlhabhipfmaaRows
import Derived.Test.YtnahlhabhipfmaaLSpanCrashx0
import Derived.Test.YtnahlhabhipfmaaPureSpanCrash
import Derived.Test.YtnahlhabhipfmaaOpens
import Derived.WalkKit
import Derived.ProofKit
import Derived.OpenShut
import Derived.ShutString
import Derived.ChangeOld
import Derived.Below
import Derived.SizedLaws
import Derived.Lib.SmallJoins
namespace Go.Proofs.Ytnahlhabhipfmaa.spanCrash
open Go.ChangeShapes Go.WideShapes Go.ChangeAt Go.RowKit Go.Proofs.YtnahlhabhipfmaaW.PrintWords Go.Proofs.YtnahlhabhipfmaaW.PrintLast Go.Proofs.Ytnahlhabhipfmaa.LSpanCrash Go.Proofs.Ytnahlhabhipfmaa.QSpanCrash Go.Proofs.Ytnahlhabhipfmaa.Opening
open Go.ChangeMaps (open_string shut_string)
set_option linter.unusedVariables false
theorem own : ownKnob Try.prog.godebug = none := by kernel_rfl
theorem laidOut : laidOutB Try.prog = true := by kernel_rfl
theorem opens_40 : Opens Try.prog 40 k40 (fun x => ((Lit.int .i64 x.f0).wf = true)) :=
  opens_struct (fun x : S40 => x.f0) (fun a => ⟨a⟩) (fun _ => rfl) Try.underlying40 (by kernel_rfl) (opensF_last (opens_int Try.underlying3) (by kernel_rfl) rfl)
set_option maxRecDepth 100000 in
theorem lifted (os : Os) (started : os.Started) (H : Type) (enc : TypeId × Value → H) :
    ReturnsInHanded {} Try.checked os 11 .any (Rows.spanCrashSpec.pre6 enc Try.prog Try.f11 Rows.spanCrashRow.domain false) (Rows.spanCrashSpec.post enc Try.prog Try.f11 false true false false) := by
  refine returnsInHanded_of_change_sized (C := Try.checked) own started (by kernel_rfl) Try.func11
    (ChangeSpec.witness6 (enc := enc) (C := Try.checked) false ⟨#[], #[.slice none 0 0, .slice none 0 0, .int .u32 0, .int .u32 0, .int .i64 0, .slice none 0 0], []⟩ 8 (by kernel_rfl) (by kernel_rfl) (by kernel_rfl) (by kernel_rfl)) ?_
  intro W base args ds gs before hval0 hW hcnd hsz0 _
  have hsz : (DataW.weightsEach Try.prog (Try.f11.params.toList ++ Rows.spanCrashSpec.plain.varTypes Try.prog) (ds ++ gs)).all (· ≤ reachBytes) = true := hsz0
  have hval : ∀ (j : Nat) t v, Try.f11.params[j]? = some t → args[j]? = some v → Value.okWide Try.prog W .any base t v := hval0
  have hW' := hW
  obtain ⟨p, q, hA0, hV, rfl, hfz, hnd⟩ := hW
  have hA : DataW.TrodAll enc Try.prog W 0 (fun _ => true) true Try.f11.params.toList args.toList ds p := hA0
  rw [Try.params11] at hA hval hsz
  obtain ⟨v0, vs0, d0, ds0, p0, q0, hargs, rfl, rfl, h0, r0⟩ := trodAll_cons hA
  obtain ⟨v1, vs1, d1, ds1, p1, q1, rfl, rfl, rfl, h1, r1⟩ := trodAll_cons r0
  obtain ⟨v2, vs2, d2, ds2, p2, q2, rfl, rfl, rfl, h2, r2⟩ := trodAll_cons r1
  obtain ⟨v3, vs3, d3, ds3, p3, q3, rfl, rfl, rfl, h3, r3⟩ := trodAll_cons r2
  obtain ⟨v4, vs4, d4, ds4, p4, q4, rfl, rfl, rfl, h4, r4⟩ := trodAll_cons r3
  obtain ⟨v5, vs5, d5, ds5, p5, q5, rfl, rfl, rfl, h5, r5⟩ := trodAll_cons r4
  obtain ⟨rfl, rfl, rfl⟩ := trodAll_nil r5
  obtain rfl : args = #[v0, v1, v2, v3, v4, v5] := by cases args; simp_all
  obtain ⟨rfl, rfl⟩ := trodVars_none hV
  obtain ⟨b0, len0, cap0, rfl⟩ := okWide_slice Try.underlying26 (hval 0 26 v0 rfl rfl)
  have k0 := h0
  have lt0 : ∀ x ∈ p0, x.block < W.heap.size := by obtain ⟨m, hm⟩ := k0; exact DataW.trod_lt m _ _ _ hm
  obtain ⟨l0, C0, n0, hc0, hr0, w0⟩ : ∃ (l : List Int) (A : Option Addr) (c : Nat), (Value.slice b0 len0 cap0 = .slice A l.length c) ∧ (l.length ≤ c ∧ Kd.C (Kd.int .u8) W A l.length l) ∧ ((l.length * 1 ≤ 140737488351232 ∧ ∀ y1 ∈ l, (Lit.int .u8 y1).wf = true)) := by
    obtain ⟨fuel, hf⟩ := h0
    obtain ⟨l, ⟨A, c, hcs, hl, hC⟩, hok⟩ := (opens_slice (B := 1) Try.underlying26 (by kernel_rfl) (by kernel_rfl) (opens_int Try.underlying5)) _ _ _ _ _ _ _ _ _ hf (light_arg hsz (j := 0) (t := 26) rfl rfl)
    exact ⟨l, A, c, by simpa [Value.cells] using hcs, ⟨hl, hC⟩, hok⟩
  rw [hc0] at hW' k0 ⊢
  obtain ⟨b1, len1, cap1, rfl⟩ := okWide_slice Try.underlying26 (hval 1 26 v1 rfl rfl)
  have k1 := h1
  have lt1 : ∀ x ∈ p1, x.block < W.heap.size := by obtain ⟨m, hm⟩ := k1; exact DataW.trod_lt m _ _ _ hm
  obtain ⟨l1, C1, n1, hc1, hr1, w1⟩ : ∃ (l : List Int) (A : Option Addr) (c : Nat), (Value.slice b1 len1 cap1 = .slice A l.length c) ∧ (l.length ≤ c ∧ Kd.C (Kd.int .u8) W A l.length l) ∧ ((l.length * 1 ≤ 140737488351232 ∧ ∀ y2 ∈ l, (Lit.int .u8 y2).wf = true)) := by
    obtain ⟨fuel, hf⟩ := h1
    obtain ⟨l, ⟨A, c, hcs, hl, hC⟩, hok⟩ := (opens_slice (B := 1) Try.underlying26 (by kernel_rfl) (by kernel_rfl) (opens_int Try.underlying5)) _ _ _ _ _ _ _ _ _ hf (light_arg hsz (j := 1) (t := 26) rfl rfl)
    exact ⟨l, A, c, by simpa [Value.cells] using hcs, ⟨hl, hC⟩, hok⟩
  rw [hc1] at hW' k1 ⊢
  obtain ⟨a2, rfl, rfl, rfl, w2⟩ := open_int Try.underlying47 (hval 2 47 v2 rfl rfl) h2
  obtain ⟨a3, rfl, rfl, rfl, w3⟩ := open_int Try.underlying47 (hval 3 47 v3 rfl rfl) h3
  obtain ⟨a4, rfl, rfl, rfl, w4⟩ := open_int Try.underlying3 (hval 4 3 v4 rfl rfl) h4
  obtain ⟨b5, len5, cap5, rfl⟩ := okWide_slice Try.underlying35 (hval 5 35 v5 rfl rfl)
  have k5 := h5
  have lt5 : ∀ x ∈ p5, x.block < W.heap.size := by obtain ⟨m, hm⟩ := k5; exact DataW.trod_lt m _ _ _ hm
  obtain ⟨l5, C5, n5, hc5, hr5, w5⟩ : ∃ (l : List S40) (A : Option Addr) (c : Nat), (Value.slice b5 len5 cap5 = .slice A l.length c) ∧ (l.length ≤ c ∧ Kd.C k40 W A l.length l) ∧ ((l.length * 8 ≤ 140737488351232 ∧ ∀ y3 ∈ l, ((Lit.int .i64 y3.f0).wf = true))) := by
    obtain ⟨fuel, hf⟩ := h5
    obtain ⟨l, ⟨A, c, hcs, hl, hC⟩, hok⟩ := (opens_slice (B := 8) Try.underlying35 (by kernel_rfl) (by kernel_rfl) opens_40) _ _ _ _ _ _ _ _ _ hf (light_arg hsz (j := 5) (t := 35) rfl rfl)
    exact ⟨l, A, c, by simpa [Value.cells] using hcs, ⟨hl, hC⟩, hok⟩
  rw [hc5] at hW' k5 ⊢
  clear hA0 hval0 hsz0 hsz
  have h := Pure.SpanCrash l0 l1 a2 a3 a4 l5 w0 w1 w2 w3 w4 w5
  refine (Ytnahlhabhipfmaa.LSpanCrash.lazaruslaw4_SpanCrash.calls _ _ l0 _ _ l1 a2 a3 a4 _ _ l5 true W hr0.2 hr0.1 hr1.2 hr1.1 hr5.2 hr5.1 h).mono ?_
  rintro e W' ⟨he, bel0⟩
  have bel : Below W.heap.size W W' := bel0
  subst he
  exact ⟨_, rfl, _, _, _, [], _, [], hW', trodAll_mk1 (shut_bool Try.underlying4 _), (trodAll_cons_mk (Below.trod laidOut (by kernel_rfl) (of_decide_eq_true (by kernel_rfl)) k0 bel lt0) (trodAll_cons_mk (Below.trod laidOut (by kernel_rfl) (of_decide_eq_true (by kernel_rfl)) k1 bel lt1) (trodAll_cons_mk (shut_int Try.underlying47 w2) (trodAll_cons_mk (shut_int Try.underlying47 w3) (trodAll_cons_mk (shut_int Try.underlying3 w4) (trodAll_cons_mk (Below.trod laidOut (by kernel_rfl) (of_decide_eq_true (by kernel_rfl)) k5 bel lt5) trodAll_mk0)))))), rfl, bel.frame _, fun h => by cases h⟩
theorem over : Rows.spanCrashRow.holds Try.pinned (OpenSpec.ofChange Rows.spanCrashSpec) :=
  OpenClaim.holds_of_wide 11 Try.f11 rfl rfl rfl rfl rfl rfl rfl ⟨rfl, rfl, rfl, rfl, rfl⟩ rfl rfl rfl rfl rfl (by kernel_rfl) Try.func11 (by kernel_rfl)
    (of_decide_eq_true (by kernel_rfl)) (by unfold Func.isWrapper; first | (rw [if_pos (by decide +kernel)]; kernel_rfl) | (rw [if_neg (by decide +kernel)]; exact ⟨rfl, rfl⟩))
    (fun os started H enc _ => lifted os started H enc)
theorem proved : Rows.SpanCrashSaid := over
#print axioms proved
end Go.Proofs.Ytnahlhabhipfmaa.spanCrash
namespace Go.Proofs.Ytnahlhabhipfmaa
/-- The row, under a short name, for the claim. -/
theorem spanCrash_holds : Rows.SpanCrashSaid := spanCrash.proved
end Go.Proofs.Ytnahlhabhipfmaa
