/- The contract of the law StateSame, by hand. -/
import Derived.Test.YtekebjkcolhcoaaSame4
import Derived.Test.YtekebjkcolhcoaaSame6
import Derived.RangeFuncNested
import Derived.StillTail
import Derived.Deep.RegionHeld
import Derived.StillTailTactics
namespace Go.Proofs.Ytekebjkcolhcoaa.LStateSame
open Go.RowKit Go.Proofs.Ytekebjkcolhcoaa.QStateSame Go.Proofs.Ytekebjkcolhcoaa.Hnd Go.Proofs.YtekebjkcolhcoaaW.PrintWords Go.Proofs.YtekebjkcolhcoaaW.PrintLast  Go
set_option linter.unusedVariables false
set_option linter.unusedSimpArgs false
attribute [local go_sem] Oper.semAt_some
def lazaruslaw19_StateSame.f (_ _ : S36) : Option Bool := some true

set_option maxHeartbeats 16000000 in
set_option maxRecDepth 100000 in
theorem law_core {w : World} {a b : S36} {A0 A1 A2 A3 A4 A5 A6 B0 B1 B2 B3 B4 B5 B6 : Option Addr} {c0 c1 c2 c3 c4 c5 c6 d0 d1 d2 d3 d4 d5 d6 : Nat} {cs0 cs1 : List Value} (K0 : SCells w a cs0 A0 A1 A2 A3 A4 A5 A6 c0 c1 c2 c3 c4 c5 c6) (K1 : SCells w b cs1 B0 B1 B2 B3 B4 B5 B6 d0 d1 d2 d3 d4 d5 d6) :
    Calls Try.prog 3 #[.agg cs0.toArray, .agg cs1.toArray] w fun e w' => e = .returned (.bool true) ∧ Below w.heap.size w w' := by
  obtain ⟨rfl, ka0, ka1, ka2, ka3, ka4, ka5, ka6⟩ := K0
  obtain ⟨rfl, kb0, kb1, kb2, kb3, kb4, kb5, kb6⟩ := K1
  have hba := below_alloc (Below.refl w.heap.size w) (.cells #[.slice A0 a.f0.f0.length c0, .slice A1 a.f0.f1.length c1, .slice A2 a.f0.f2.length c2, .slice A3 a.f1.length c3, .int .i64 a.f2, .string a.f3, .string a.f4.f0, .int .i64 a.f4.f1, .int .i64 a.f5.f0, .string a.f5.f1, .int .i64 a.f5.f2, .string a.f6, .slice A4 a.f7.length c4, .int .i64 a.f8, .int .i64 a.f9, .bool a.f10, .bool a.f11, .int .i64 a.f12.f0, .slice A5 a.f12.f1.length c5, .slice A6 a.f12.f2.length c6, .string a.f12.f3] 36)
  have hna := blk_new w (.cells #[.slice A0 a.f0.f0.length c0, .slice A1 a.f0.f1.length c1, .slice A2 a.f0.f2.length c2, .slice A3 a.f1.length c3, .int .i64 a.f2, .string a.f3, .string a.f4.f0, .int .i64 a.f4.f1, .int .i64 a.f5.f0, .string a.f5.f1, .int .i64 a.f5.f2, .string a.f6, .slice A4 a.f7.length c4, .int .i64 a.f8, .int .i64 a.f9, .bool a.f10, .bool a.f11, .int .i64 a.f12.f0, .slice A5 a.f12.f1.length c5, .slice A6 a.f12.f2.length c6, .string a.f12.f3] 36)
  obtain ⟨Wa, hWa⟩ : ∃ Wa, Wa = w.alloc (.cells #[.slice A0 a.f0.f0.length c0, .slice A1 a.f0.f1.length c1, .slice A2 a.f0.f2.length c2, .slice A3 a.f1.length c3, .int .i64 a.f2, .string a.f3, .string a.f4.f0, .int .i64 a.f4.f1, .int .i64 a.f5.f0, .string a.f5.f1, .int .i64 a.f5.f2, .string a.f6, .slice A4 a.f7.length c4, .int .i64 a.f8, .int .i64 a.f9, .bool a.f10, .bool a.f11, .int .i64 a.f12.f0, .slice A5 a.f12.f1.length c5, .slice A6 a.f12.f2.length c6, .string a.f12.f3] 36) := ⟨_, rfl⟩
  have HWa := Aside0.mk hWa
  rw [← hWa] at hba hna
  have hsa : Wa.heap.size = w.heap.size + 1 := by rw [hWa]; simp
  have hbb := below_alloc (Below.refl Wa.heap.size Wa) (.cells #[.slice B0 b.f0.f0.length d0, .slice B1 b.f0.f1.length d1, .slice B2 b.f0.f2.length d2, .slice B3 b.f1.length d3, .int .i64 b.f2, .string b.f3, .string b.f4.f0, .int .i64 b.f4.f1, .int .i64 b.f5.f0, .string b.f5.f1, .int .i64 b.f5.f2, .string b.f6, .slice B4 b.f7.length d4, .int .i64 b.f8, .int .i64 b.f9, .bool b.f10, .bool b.f11, .int .i64 b.f12.f0, .slice B5 b.f12.f1.length d5, .slice B6 b.f12.f2.length d6, .string b.f12.f3] 36)
  have hnb := blk_new Wa (.cells #[.slice B0 b.f0.f0.length d0, .slice B1 b.f0.f1.length d1, .slice B2 b.f0.f2.length d2, .slice B3 b.f1.length d3, .int .i64 b.f2, .string b.f3, .string b.f4.f0, .int .i64 b.f4.f1, .int .i64 b.f5.f0, .string b.f5.f1, .int .i64 b.f5.f2, .string b.f6, .slice B4 b.f7.length d4, .int .i64 b.f8, .int .i64 b.f9, .bool b.f10, .bool b.f11, .int .i64 b.f12.f0, .slice B5 b.f12.f1.length d5, .slice B6 b.f12.f2.length d6, .string b.f12.f3] 36)
  obtain ⟨Wb, hWb⟩ : ∃ Wb, Wb = Wa.alloc (.cells #[.slice B0 b.f0.f0.length d0, .slice B1 b.f0.f1.length d1, .slice B2 b.f0.f2.length d2, .slice B3 b.f1.length d3, .int .i64 b.f2, .string b.f3, .string b.f4.f0, .int .i64 b.f4.f1, .int .i64 b.f5.f0, .string b.f5.f1, .int .i64 b.f5.f2, .string b.f6, .slice B4 b.f7.length d4, .int .i64 b.f8, .int .i64 b.f9, .bool b.f10, .bool b.f11, .int .i64 b.f12.f0, .slice B5 b.f12.f1.length d5, .slice B6 b.f12.f2.length d6, .string b.f12.f3] 36) := ⟨_, rfl⟩
  have HWb := Aside0.mk hWb
  rw [← hWb] at hbb hnb
  have hna2 := blk_below hna hbb
  rw [hsa] at hnb
  obtain ⟨qa, hqa⟩ : ∃ qa, w.heap.size = qa := ⟨_, rfl⟩
  have HB0 := Aside0.mk (hba.trans (hbb.mono hba.size))
  have hB0 := HB0.out
  rw [hqa] at hna2 hnb
  have HQA := Aside0.mk hqa
  obtain ⟨qb, hqb⟩ : ∃ qb, qa + 1 = qb := ⟨_, rfl⟩
  rw [hqb] at hnb
  have HQB := Aside0.mk hqb
  have NA := Aside0.mk hna2
  have NB := Aside0.mk hnb
  have ka0 := Aside0.mk (cc ka0 hB0)
  have kb0 := Aside0.mk (cc kb0 hB0)
  have ka1 := Aside0.mk (cc ka1 hB0)
  have kb1 := Aside0.mk (cc kb1 hB0)
  have ka2 := Aside0.mk (cc ka2 hB0)
  have kb2 := Aside0.mk (cc kb2 hB0)
  have ka3 := Aside0.mk (cc ka3 hB0)
  have kb3 := Aside0.mk (cc kb3 hB0)
  have ka4 := Aside0.mk (cc ka4 hB0)
  have kb4 := Aside0.mk (cc kb4 hB0)
  have ka5 := Aside0.mk (cc ka5 hB0)
  have kb5 := Aside0.mk (cc kb5 hB0)
  have ka6 := Aside0.mk (cc ka6 hB0)
  have kb6 := Aside0.mk (cc kb6 hB0)
  clear hba hna hWa hsa hbb hnb hWb hna2 hqa hqb hB0
  go_enter Try.func3, Try.ntmps3
  go_upto_region 1 with (fail)
  rw [← HWa.out, ← HWb.out, HQA.out, HQB.out]
  have ua12 : Wb.cell? ⟨qa, 12, none⟩ = some (.slice A4 a.f7.length c4) := (blk_cell NA.out 12).trans rfl
  have ub12 : Wb.cell? ⟨qb, 12, none⟩ = some (.slice B4 b.f7.length d4) := (blk_cell NB.out 12).trans rfl
  by_cases hA : a.f7.length ≤ 40
  case neg =>
    have p1 : decide ((a.f7.length : Int) > 40) = true := decide_eq_true (by omega)
    have p2 : decide ((40 : Int) < (a.f7.length : Int)) = true := decide_eq_true (by omega)
    have p3 : decide (40 < a.f7.length) = true := decide_eq_true (by omega)
    clear hA
    go_wp2
    go_ret
    exact ⟨rfl, HB0.out⟩
  have p1 : decide ((a.f7.length : Int) > 40) = false := decide_eq_false (by omega)
  have p2 : decide ((40 : Int) < (a.f7.length : Int)) = false := decide_eq_false (by omega)
  have p3 : decide (40 < a.f7.length) = false := decide_eq_false (by omega)
  by_cases hB : b.f7.length ≤ 40
  case neg =>
    have q1 : decide ((b.f7.length : Int) > 40) = true := decide_eq_true (by omega)
    have q2 : decide ((40 : Int) < (b.f7.length : Int)) = true := decide_eq_true (by omega)
    have q3 : decide (40 < b.f7.length) = true := decide_eq_true (by omega)
    clear hA hB
    go_wp2
    go_ret
    exact ⟨rfl, HB0.out⟩
  have q1 : decide ((b.f7.length : Int) > 40) = false := decide_eq_false (by omega)
  have q2 : decide ((40 : Int) < (b.f7.length : Int)) = false := decide_eq_false (by omega)
  have q3 : decide (40 < b.f7.length) = false := decide_eq_false (by omega)
  have HLA : Aside0 (a.f7.length ≤ 1000000) := ⟨by omega⟩
  clear hA hB
  go_upto_region 3 with (fail)
  clear p1 p2 p3 q1 q2 q3 ua12 ub12
  have HSS : Aside0 (∀ W', Below Wb.heap.size Wb W' → (fun W' => W'.heap[qa]? = some (.cells #[.slice A0 a.f0.f0.length c0, .slice A1 a.f0.f1.length c1, .slice A2 a.f0.f2.length c2, .slice A3 a.f1.length c3, .int .i64 a.f2, .string a.f3, .string a.f4.f0, .int .i64 a.f4.f1, .int .i64 a.f5.f0, .string a.f5.f1, .int .i64 a.f5.f2, .string a.f6, .slice A4 a.f7.length c4, .int .i64 a.f8, .int .i64 a.f9, .bool a.f10, .bool a.f11, .int .i64 a.f12.f0, .slice A5 a.f12.f1.length c5, .slice A6 a.f12.f2.length c6, .string a.f12.f3] 36 (0, 0)) ∧ W'.heap[qb]? = some (.cells #[.slice B0 b.f0.f0.length d0, .slice B1 b.f0.f1.length d1, .slice B2 b.f0.f2.length d2, .slice B3 b.f1.length d3, .int .i64 b.f2, .string b.f3, .string b.f4.f0, .int .i64 b.f4.f1, .int .i64 b.f5.f0, .string b.f5.f1, .int .i64 b.f5.f2, .string b.f6, .slice B4 b.f7.length d4, .int .i64 b.f8, .int .i64 b.f9, .bool b.f10, .bool b.f11, .int .i64 b.f12.f0, .slice B5 b.f12.f1.length d5, .slice B6 b.f12.f2.length d6, .string b.f12.f3] 36 (0, 0))) W') := ⟨fun W' hB => ⟨blk_below NA.out hB, blk_below NB.out hB⟩⟩
  have HD := Aside0.mk (below_drew1 (Below.refl Wb.heap.size Wb))
  have hS0 := HSS.out _ HD.out
  refine wp_region_held_drew (S := (fun W' => W'.heap[qa]? = some (.cells #[.slice A0 a.f0.f0.length c0, .slice A1 a.f0.f1.length c1, .slice A2 a.f0.f2.length c2, .slice A3 a.f1.length c3, .int .i64 a.f2, .string a.f3, .string a.f4.f0, .int .i64 a.f4.f1, .int .i64 a.f5.f0, .string a.f5.f1, .int .i64 a.f5.f2, .string a.f6, .slice A4 a.f7.length c4, .int .i64 a.f8, .int .i64 a.f9, .bool a.f10, .bool a.f11, .int .i64 a.f12.f0, .slice A5 a.f12.f1.length c5, .slice A6 a.f12.f2.length c6, .string a.f12.f3] 36 (0, 0)) ∧ W'.heap[qb]? = some (.cells #[.slice B0 b.f0.f0.length d0, .slice B1 b.f0.f1.length d1, .slice B2 b.f0.f2.length d2, .slice B3 b.f1.length d3, .int .i64 b.f2, .string b.f3, .string b.f4.f0, .int .i64 b.f4.f1, .int .i64 b.f5.f0, .string b.f5.f1, .int .i64 b.f5.f2, .string b.f6, .slice B4 b.f7.length d4, .int .i64 b.f8, .int .i64 b.f9, .bool b.f10, .bool b.f11, .int .i64 b.f12.f0, .slice B5 b.f12.f1.length d5, .slice B6 b.f12.f2.length d6, .string b.f12.f3] 36 (0, 0)))) (by kernel_rfl) hS0 (fun hHeld => ?_)
  clear hHeld
  refine rg_take (i := 0) (dst := some 15) (v := ?_) (by kernel_rfl) (by kernel_rfl) (by kernel_rfl) (by kernel_rfl) (fun _ _ _ h => h) (by rfl) ?_ (by assumption) ?_
  rotate_left
  · intro o ho w' hSw
    cases ho
    refine load_whole (ty := 36) (p := 2) ?_ ?_ hSw.1 Try.underlying36 rfl (by kernel_rfl) <;> rfl
  simp only [Act.put, List.setIfInBounds_toArray, List.set_cons_zero, List.set_cons_succ]
  refine rg_take (i := 1) (dst := some 16) (v := ?_) (by kernel_rfl) (by kernel_rfl) (by kernel_rfl) (by kernel_rfl) (fun _ _ _ h => h) (by rfl) ?_ (by assumption) ?_
  rotate_left
  · intro o ho w' hSw
    cases ho
    refine load_whole (ty := 36) (p := 3) ?_ ?_ hSw.2 Try.underlying36 rfl (by kernel_rfl) <;> rfl
  simp only [Act.put, List.setIfInBounds_toArray, List.set_cons_zero, List.set_cons_succ]
  refine rg_take (i := 3) (dst := some 18) (v := ?_) (by kernel_rfl) (by kernel_rfl) (by kernel_rfl) (by kernel_rfl) (fun _ _ _ h => h) (by rfl) ?_ (by assumption) ?_
  rotate_left
  · intro o ho w' hSw
    cases ho
    refine load_whole (ty := 36) (p := 2) ?_ ?_ hSw.1 Try.underlying36 rfl (by kernel_rfl) <;> rfl
  simp only [Act.put, List.setIfInBounds_toArray, List.set_cons_zero, List.set_cons_succ]
  refine rg_take (i := 4) (dst := some 19) (v := ?_) (by kernel_rfl) (by kernel_rfl) (by kernel_rfl) (by kernel_rfl) (fun _ _ _ h => h) (by rfl) ?_ (by assumption) ?_
  rotate_left
  · intro o ho w' hSw
    cases ho
    refine load_whole (ty := 36) (p := 3) ?_ ?_ hSw.2 Try.underlying36 rfl (by kernel_rfl) <;> rfl
  simp only [Act.put, List.setIfInBounds_toArray, List.set_cons_zero, List.set_cons_succ]
  obtain ⟨r, hr⟩ := ex_tell (a = b)
  have HR := Aside0.mk hr
  clear hr
  refine wpAnyH_ready (rs := [2]) (by kernel_rfl) (by simp) ?_
  refine AllReadyH.cons rfl (fun K hK => ?_) AllReadyH.nil
  clear hS0
  go_simp
  go_wp2_with (go_at_call 6; refine (same_c (a := a) (b := b) ⟨rfl, cc ka0.out HD.out, cc ka1.out HD.out, cc ka2.out HD.out, cc ka3.out HD.out, cc ka4.out HD.out, cc ka5.out HD.out, cc ka6.out HD.out⟩ ⟨rfl, cc kb0.out HD.out, cc kb1.out HD.out, cc kb2.out HD.out, cc kb3.out HD.out, cc kb4.out HD.out, cc kb5.out HD.out, cc kb6.out HD.out⟩ HLA.out HR.out).mono ?_; rintro e w1 ⟨rfl, hB⟩; have D1 := Aside0.mk (HD.out.trans (hB.mono HD.out.size)); clear hB)
  refine hK.out _ _ (HSS.out _ D1.out) (fun hHeld => ?_)
  clear hK K hHeld
  have hS0 := HSS.out _ D1.out
  refine wpAnyH_ready (rs := [5]) (by kernel_rfl) (by simp) ?_
  refine AllReadyH.cons rfl (fun K hK => ?_) AllReadyH.nil
  clear hS0
  go_simp
  go_wp2_with (go_at_call 7; refine (rsame_c (a := a) (b := b) ⟨rfl, cc ka0.out D1.out, cc ka1.out D1.out, cc ka2.out D1.out, cc ka3.out D1.out, cc ka4.out D1.out, cc ka5.out D1.out, cc ka6.out D1.out⟩ ⟨rfl, cc kb0.out D1.out, cc kb1.out D1.out, cc kb2.out D1.out, cc kb3.out D1.out, cc kb4.out D1.out, cc kb5.out D1.out, cc kb6.out D1.out⟩ HLA.out HR.out).mono ?_; rintro e w2 ⟨rfl, hB⟩; have D2 := Aside0.mk (D1.out.trans (hB.mono D1.out.size)); clear hB)
  refine hK.out _ _ (HSS.out _ D2.out) (fun hHeld => ?_)
  clear hK K hHeld
  have hS0 := HSS.out _ D2.out
  refine rg_take (i := 6) (dst := some 21) (v := ?_) (by kernel_rfl) (by kernel_rfl) (by kernel_rfl) (by kernel_rfl) (fun _ _ _ h => h) (by rfl) ?_ (by assumption) ?_
  rotate_left
  · intro o ho w' hSw
    cases ho
    clear hSw
    go_simp
    first | done | with_reducible rfl
  simp only [Act.put, List.setIfInBounds_toArray, List.set_cons_zero, List.set_cons_succ]
  refine rg_take (i := 7) (dst := some 22) (v := ?_) (by kernel_rfl) (by kernel_rfl) (by kernel_rfl) (by kernel_rfl) (fun _ _ _ h => h) (by rfl) ?_ (by assumption) ?_
  rotate_left
  · intro o ho w' hSw
    cases ho
    clear hSw
    go_simp
    first | done | with_reducible rfl
  simp only [Act.put, List.setIfInBounds_toArray, List.set_cons_zero, List.set_cons_succ]
  refine rg_take (i := 8) (dst := some 23) (v := ?_) (by kernel_rfl) (by kernel_rfl) (by kernel_rfl) (by kernel_rfl) (fun _ _ _ h => h) (by rfl) ?_ (by assumption) ?_
  rotate_left
  · intro o ho w' hSw
    cases ho
    refine load_whole (ty := 36) (p := 2) ?_ ?_ hSw.1 Try.underlying36 rfl (by kernel_rfl) <;> rfl
  simp only [Act.put, List.setIfInBounds_toArray, List.set_cons_zero, List.set_cons_succ]
  refine rg_take (i := 9) (dst := some 24) (v := ?_) (by kernel_rfl) (by kernel_rfl) (by kernel_rfl) (by kernel_rfl) (fun _ _ _ h => h) (by rfl) ?_ (by assumption) ?_
  rotate_left
  · intro o ho w' hSw
    cases ho
    refine load_whole (ty := 36) (p := 2) ?_ ?_ hSw.1 Try.underlying36 rfl (by kernel_rfl) <;> rfl
  simp only [Act.put, List.setIfInBounds_toArray, List.set_cons_zero, List.set_cons_succ]
  refine wpAnyH_ready (rs := [10]) (by kernel_rfl) (by simp) ?_
  refine AllReadyH.cons rfl (fun K hK => ?_) AllReadyH.nil
  clear hS0
  go_simp
  go_wp2_with (go_at_call 6; refine (same_c (a := a) (b := a) ⟨rfl, cc ka0.out D2.out, cc ka1.out D2.out, cc ka2.out D2.out, cc ka3.out D2.out, cc ka4.out D2.out, cc ka5.out D2.out, cc ka6.out D2.out⟩ ⟨rfl, cc ka0.out D2.out, cc ka1.out D2.out, cc ka2.out D2.out, cc ka3.out D2.out, cc ka4.out D2.out, cc ka5.out D2.out, cc ka6.out D2.out⟩ HLA.out (tell_yes (p := a = a) rfl)).mono ?_; rintro e w3 ⟨rfl, hB⟩; have D3 := Aside0.mk (D2.out.trans (hB.mono D2.out.size)); clear hB)
  refine hK.out _ _ (HSS.out _ D3.out) (fun hHeld => ?_)
  clear hK K hHeld
  have hS0 := HSS.out _ D3.out
  refine rg_take (i := 11) (dst := some 26) (v := ?_) (by kernel_rfl) (by kernel_rfl) (by kernel_rfl) (by kernel_rfl) (fun _ _ _ h => h) (by rfl) ?_ (by assumption) ?_
  rotate_left
  · intro o ho w' hSw
    cases ho
    clear hSw
    go_simp
    first | done | with_reducible rfl
  simp only [Act.put, List.setIfInBounds_toArray, List.set_cons_zero, List.set_cons_succ]
  refine rg_take (i := 12) (dst := some 27) (v := ?_) (by kernel_rfl) (by kernel_rfl) (by kernel_rfl) (by kernel_rfl) (fun _ _ _ h => h) (by rfl) ?_ (by assumption) ?_
  rotate_left
  · intro o ho w' hSw
    cases ho
    clear hSw
    go_simp
    first | done | with_reducible rfl
  simp only [Act.put, List.setIfInBounds_toArray, List.set_cons_zero, List.set_cons_succ]
  refine wpAnyH_ready (rs := [13]) (by kernel_rfl) (by simp) ?_
  refine AllReadyH.cons rfl (fun K hK => ?_) AllReadyH.nil
  clear hS0
  go_simp
  go_wp2_with (go_at_call 8; refine (known19_c _).mono ?_; rintro e w4 ⟨rfl, hB⟩; have D4 := Aside0.mk (D3.out.trans (hB.mono D3.out.size)); clear hB)
  refine hK.out _ _ (HSS.out _ D4.out) (fun hHeld => ?_)
  clear hK K hHeld
  have hS0 := HSS.out _ D4.out
  refine rg_take (i := 14) (dst := some 29) (v := ?_) (by kernel_rfl) (by kernel_rfl) (by kernel_rfl) (by kernel_rfl) (fun _ _ _ h => h) (by rfl) ?_ (by assumption) ?_
  rotate_left
  · intro o ho w' hSw
    cases ho
    clear hSw
    go_simp
    first | done | with_reducible rfl
  simp only [Act.put, List.setIfInBounds_toArray, List.set_cons_zero, List.set_cons_succ]
  refine rg_take (i := 15) (dst := some 4) (v := ?_) (by kernel_rfl) (by kernel_rfl) (by kernel_rfl) (by kernel_rfl) (fun _ _ _ h => h) (by rfl) ?_ (by assumption) ?_
  rotate_left
  · intro o ho w' hSw
    cases ho
    clear hSw
    go_simp
    first | done | with_reducible rfl
  simp only [Act.put, List.setIfInBounds_toArray, List.set_cons_zero, List.set_cons_succ]
  refine wpAnyH_done (by kernel_rfl) ?_ _
  clear hS0
  go_wp2
  go_ret
  exact ⟨rfl, HB0.out.trans (D4.out.mono HB0.out.size)⟩
theorem lazaruslaw19_StateSame.calls (a0 : S36) (cs0 : Array Value) (a1 : S36) (cs1 : Array Value) (r : Bool) (w : World) (hK0 : k36.K w a0 cs0.toList) (hK1 : k36.K w a1 cs1.toList) (h : lazaruslaw19_StateSame.f a0 a1 = some r) :
    Calls Try.prog 3 #[.agg cs0, .agg cs1] w fun e w' => e = .returned (.bool r) ∧ Below w.heap.size w w' := by
  obtain rfl : true = r := Option.some.inj h
  obtain ⟨a0', a1', a2', a3', a4', a5', a6', c0, c1, c2, c3, c4, c5, c6, K0⟩ := k36_open hK0
  obtain ⟨b0', b1', b2', b3', b4', b5', b6', d0, d1, d2, d3, d4, d5, d6, K1⟩ := k36_open hK1
  have := law_core K0 K1
  simpa using this
end Go.Proofs.Ytekebjkcolhcoaa.LStateSame
