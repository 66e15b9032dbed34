/- Contracts of the calls, by hand. -/
import Derived.Test.YtekebjkcolhcoaaQStateSamex8
import Derived.Test.YtekebjkcolhcoaaSame5
import Derived.Test.YtekebjkcolhcoaaSameC
import Derived.Test.YtekebjkcolhcoaaSameP
import Derived.RangeFuncNested
import Derived.RangeFuncBound
import Derived.RangeFuncCalls
import Derived.RangeFuncLeaves
import Derived.RangeFuncBox
import Derived.Shelf.Abstract
import Derived.Shelf.RegionOpen
import Derived.OwnWalkIn
import Derived.TacticsInMore
import Derived.LoopNIn
import Derived.LoopIn
import Derived.Sort.QuietIn
import Derived.Sort.CutIn
import Derived.Stop.RegionWithIn
import Derived.StillTailTactics
import Derived.Test.YtekebjkcolhcoaaQStateSamex7
namespace Go.Proofs.Ytekebjkcolhcoaa.Hnd
open Go.RowKit Go.Proofs.Ytekebjkcolhcoaa.QStateSame Go.Proofs.YtekebjkcolhcoaaW.PrintWords Go.Proofs.YtekebjkcolhcoaaW.PrintLast  Go.Shelf
set_option linter.unusedVariables false
set_option linter.unusedSimpArgs false
set_option linter.unusedVariables false
set_option linter.unusedSimpArgs false
attribute [local go_sem] Oper.semAt_some
theorem clone_c {w : World} {A : Option Addr} {c : Nat} {l : List S56} (hr : k56.C w A l.length l) (hc : l.length ≤ c) (hl : l.length ≤ 1000000000) :
    Calls Try.prog 50 #[.slice A l.length c] w fun e w' => ∃ v : Value, e = .returned v ∧ Kd.R k56 56 w' w.heap.size (fun _ => True) v l ∧ Below w.heap.size w w' :=
  api_File_50.calls A c l l w hr hc (by rw [api_File_50.f, Option.bind_some, if_pos (by simp; omega), List.nil_append])
set_option maxHeartbeats 8000000 in
set_option maxRecDepth 100000 in
theorem new_c {w : World} {A : Option Addr} {c : Nat} {l : List S56} {s : ByteArray} (hr : k56.C w A l.length l) (hc : l.length ≤ c) (hl : l.length ≤ 1000000000) :
    Calls Try.prog 33 #[.string s, .slice A l.length c] w fun e w' => ∃ (A' : Option Addr) (c' : Nat), e = .returned (.agg #[.slice none 0 0, .slice none 0 0, .slice none 0 0, .slice A' l.length c', .int .i64 0, .string ⟨#[]⟩, .string s, .int .i64 0, .int .i64 0, .string ⟨#[]⟩, .int .i64 0, .string ⟨#[]⟩, .slice none 0 0, .int .i64 0, .int .i64 0, .bool false, .bool false, .int .i64 0, .slice none 0 0, .slice none 0 0, .string ⟨#[]⟩]) ∧ Kd.R k56 56 w' w.heap.size (fun _ => True) (.slice A' l.length c') l ∧ Below w.heap.size w w' := by
  have hb := below_alloc (Below.refl w.heap.size w) (.cells #[.slice none 0 0, .slice none 0 0, .slice none 0 0, .slice none 0 0, .int .i64 0, .string ⟨#[]⟩, .string ⟨#[]⟩, .int .i64 0, .int .i64 0, .string ⟨#[]⟩, .int .i64 0, .string ⟨#[]⟩, .slice none 0 0, .int .i64 0, .int .i64 0, .bool false, .bool false, .int .i64 0, .slice none 0 0, .slice none 0 0, .string ⟨#[]⟩] 36)
  have hn := blk_new w (.cells #[.slice none 0 0, .slice none 0 0, .slice none 0 0, .slice none 0 0, .int .i64 0, .string ⟨#[]⟩, .string ⟨#[]⟩, .int .i64 0, .int .i64 0, .string ⟨#[]⟩, .int .i64 0, .string ⟨#[]⟩, .slice none 0 0, .int .i64 0, .int .i64 0, .bool false, .bool false, .int .i64 0, .slice none 0 0, .slice none 0 0, .string ⟨#[]⟩] 36)
  obtain ⟨Wa, hWa⟩ : ∃ Wa, Wa = w.alloc (.cells #[.slice none 0 0, .slice none 0 0, .slice none 0 0, .slice none 0 0, .int .i64 0, .string ⟨#[]⟩, .string ⟨#[]⟩, .int .i64 0, .int .i64 0, .string ⟨#[]⟩, .int .i64 0, .string ⟨#[]⟩, .slice none 0 0, .int .i64 0, .int .i64 0, .bool false, .bool false, .int .i64 0, .slice none 0 0, .slice none 0 0, .string ⟨#[]⟩] 36) := ⟨_, rfl⟩
  have HWa := Aside0.mk hWa
  rw [← hWa] at hb hn
  obtain ⟨qa, hqa⟩ : ∃ qa, w.heap.size = qa := ⟨_, rfl⟩
  have HQA := Aside0.mk hqa
  have HB := Aside0.mk hb
  have hr1 := Kd.C_below hr hb
  rw [hqa] at hn
  have HN := Aside0.mk hn
  have HR := Aside0.mk hr1
  have HC := Aside0.mk hc
  have HL := Aside0.mk hl
  clear hb hn hr hr1 hc hl hWa hqa
  go_enter Try.func33, Try.ntmps33
  go_upto_region 1 with (fail)
  rw [← HWa.out, HQA.out]
  go_wp2_with (first | (go_at_call 50; refine (clone_c HR.out HC.out HL.out).mono ?_; rintro e w2 ⟨v, rfl, hR, hB⟩; obtain ⟨A2, c2, hv⟩ := Kd.R_slice hR; subst hv; have HR2 := Aside0.mk (Kd.R_lower hR HB.out.size); have HB2 := Aside0.mk (HB.out.trans (hB.mono HB.out.size)); have HN2 := Aside0.mk (blk_below HN.out hB); clear hR hB) | ((with_reducible refine gate_store (t := 36) (p := 4) rfl ?_); refine store_all (g := qa) (vs := [.slice none 0 0, .slice none 0 0, .slice none 0 0, .slice A2 l.length c2, .int .i64 0, .string ⟨#[]⟩, .string s, .int .i64 0, .int .i64 0, .string ⟨#[]⟩, .int .i64 0, .string ⟨#[]⟩, .slice none 0 0, .int .i64 0, .int .i64 0, .bool false, .bool false, .int .i64 0, .slice none 0 0, .slice none 0 0, .string ⟨#[]⟩]) rfl rfl rfl ?hp ?hv HN2.out ?hz ?ht ?h1 ?_; (case hp => first | rfl | (go_simp; done)); (case hv => first | rfl | (go_simp; done)); (case hz => rfl); (case ht => kernel_rfl); (case h1 => rfl); intro W3 hW; have HN3 : Aside0 (W3.heap[qa]? = some (.cells #[.slice none 0 0, .slice none 0 0, .slice none 0 0, .slice A2 l.length c2, .int .i64 0, .string ⟨#[]⟩, .string s, .int .i64 0, .int .i64 0, .string ⟨#[]⟩, .int .i64 0, .string ⟨#[]⟩, .slice none 0 0, .int .i64 0, .int .i64 0, .bool false, .bool false, .int .i64 0, .slice none 0 0, .slice none 0 0, .string ⟨#[]⟩] 36 (0, 0))) := ⟨by rw [hW]; exact setCells_all HN2.out rfl⟩; have HR3 : Aside0 (Kd.R k56 56 W3 w.heap.size (fun _ => True) (.slice A2 l.length c2) l) := ⟨by rw [hW]; exact R_setCells (by decide) _ _ _ _ HN2.out HR2.out⟩; have HB3 : Aside0 (Below w.heap.size w W3) := ⟨by rw [hW]; exact HB2.out.trans (below_setCells (Nat.le_of_eq HQA.out) _ _ _)⟩; clear hW))
  refine bodyPost_ret (results_single (by kernel_rfl) (Vals.cell (p := 4) (ty := 36) qa 36 #[.slice none 0 0, .slice none 0 0, .slice none 0 0, .slice A2 l.length c2, .int .i64 0, .string ⟨#[]⟩, .string s, .int .i64 0, .int .i64 0, .string ⟨#[]⟩, .int .i64 0, .string ⟨#[]⟩, .slice none 0 0, .int .i64 0, .int .i64 0, .bool false, .bool false, .int .i64 0, .slice none 0 0, .slice none 0 0, .string ⟨#[]⟩] (0, 0) _ rfl HN3.out Try.underlying36 rfl (by kernel_rfl) Vals.nil)) rfl ⟨A2, c2, rfl, HR3.out, HB3.out⟩
theorem fI1 : findI ⟨#[102]⟩ [⟨⟨#[102]⟩, ⟨#[]⟩⟩] 0 = 0 := by simp [findI]
theorem fI2 : findI ⟨#[103]⟩ [⟨⟨#[102]⟩, ⟨#[]⟩⟩] 0 = -1 := by
  rw [findI, if_neg (by show ¬ ((⟨#[102]⟩ : ByteArray).toList == (⟨#[103]⟩ : ByteArray).toList) = true; rw [Lib.toList_data, Lib.toList_data]; decide)]
  rfl
set_option maxHeartbeats 8000000 in
set_option maxRecDepth 100000 in
theorem known19_c (w : World) : Calls Try.prog 8 #[] w fun e w' => e = .returned (.bool true) ∧ Below w.heap.size w w' := by
  have hx : ((⟨#[120]⟩ : ByteArray).toList == (⟨#[120]⟩ : ByteArray).toList) = true := by simp
  go_enter Try.func8, Try.ntmps8
  go_upto_region 2 with (first | ((with_reducible refine gate_store (t := 36) (p := 1) rfl ?_); refine store_all (g := w3.heap.size) (vs := [.slice none 0 0, .slice none 0 0, .slice none 0 0, .slice A4 1 c4, .int .i64 0, .string ⟨#[]⟩, .string ⟨#[120]⟩, .int .i64 0, .int .i64 0, .string ⟨#[]⟩, .int .i64 0, .string ⟨#[]⟩, .slice none 0 0, .int .i64 0, .int .i64 0, .bool false, .bool false, .int .i64 0, .slice none 0 0, .slice none 0 0, .string ⟨#[]⟩]) rfl rfl rfl ?hp ?hv HN4.out ?hz ?ht ?h1 ?_; (case hp => first | rfl | (go_simp; done)); (case hv => first | rfl | (go_simp; done)); (case hz => rfl); (case ht => kernel_rfl); (case h1 => rfl); intro W4 hW; have HN5 : Aside0 (W4.heap[w3.heap.size]? = some (.cells #[.slice none 0 0, .slice none 0 0, .slice none 0 0, .slice A4 1 c4, .int .i64 0, .string ⟨#[]⟩, .string ⟨#[120]⟩, .int .i64 0, .int .i64 0, .string ⟨#[]⟩, .int .i64 0, .string ⟨#[]⟩, .slice none 0 0, .int .i64 0, .int .i64 0, .bool false, .bool false, .int .i64 0, .slice none 0 0, .slice none 0 0, .string ⟨#[]⟩] 36 (0, 0))) := ⟨by rw [hW]; exact setCells_all HN4.out rfl⟩; have HR4 : Aside0 (Kd.R k56 56 W4 w.heap.size (fun _ => True) (.slice A4 1 c4) [⟨⟨#[102]⟩, ⟨#[]⟩⟩]) := ⟨by rw [hW]; exact R_setCells (by decide) _ _ _ _ HN4.out (Kd.R_below HR3.out HB4.out)⟩; have HB5 : Aside0 (Below w.heap.size w W4) := ⟨by rw [hW]; exact (HB3.out.trans (HB4.out.mono HB3.out.size)).trans (below_setCells HB3.out.size _ _ _)⟩; have n4 := HN5.out; clear hW) | (go_at_call 33; refine (new_c (l := [⟨⟨#[102]⟩, ⟨#[]⟩⟩]) HCL.out.2 HCL.out.1 (by simp)).mono ?_; rintro e w3 ⟨A4, c4, rfl, hR, hB⟩; have HR3 := Aside0.mk (Kd.R_lower hR HB2.out.size); have HB3 := Aside0.mk (HB2.out.trans (hB.mono HB2.out.size)); have hb4 := below_alloc (Below.refl w3.heap.size w3) (.cells #[.slice none 0 0, .slice none 0 0, .slice none 0 0, .slice none 0 0, .int .i64 0, .string ⟨#[]⟩, .string ⟨#[]⟩, .int .i64 0, .int .i64 0, .string ⟨#[]⟩, .int .i64 0, .string ⟨#[]⟩, .slice none 0 0, .int .i64 0, .int .i64 0, .bool false, .bool false, .int .i64 0, .slice none 0 0, .slice none 0 0, .string ⟨#[]⟩] 36); have hn4 := blk_new w3 (.cells #[.slice none 0 0, .slice none 0 0, .slice none 0 0, .slice none 0 0, .int .i64 0, .string ⟨#[]⟩, .string ⟨#[]⟩, .int .i64 0, .int .i64 0, .string ⟨#[]⟩, .int .i64 0, .string ⟨#[]⟩, .slice none 0 0, .int .i64 0, .int .i64 0, .bool false, .bool false, .int .i64 0, .slice none 0 0, .slice none 0 0, .string ⟨#[]⟩] 36); have HB4 := Aside0.mk hb4; have HN4 := Aside0.mk hn4; clear hR hB hb4 hn4) | ((with_reducible refine gate_dst (N := 3) rfl ?_); refine Kd.R_lit k56 _ 56 ?hg (N := 3) ?hd (xs := [⟨⟨#[102]⟩, ⟨#[]⟩⟩]) (inner := [.string ⟨#[102]⟩, .string ⟨#[]⟩]) (ok := fun _ => True) (okp := fun _ => True) ?hr ?hp (fun _ hk => hk) trivial (Below.refl _ _) (Nat.le_refl _) (by simp) ?_; (case hd => rfl); (case hg => rfl); (case hr => first | (go_simp; done) | (go_simp; rfl)); (case hp => exact Reps.c2 (k56_mkM _ _ _ _) (Reps.none _ _)); intro v3 w2 ho hb hg hnew; obtain ⟨A3, c3, e3, l3, C3⟩ := Kd.R_reads ho; subst e3; have HCL := Aside0.mk (And.intro l3 C3); have HB2 := Aside0.mk hb; clear ho hb hg hnew l3 C3))
  have u3 : W4.cell? ⟨w3.heap.size, 3, none⟩ = some (.slice A4 1 c4) := (blk_cell n4 3).trans rfl
  have u6 : W4.cell? ⟨w3.heap.size, 6, none⟩ = some (.string ⟨#[120]⟩) := (blk_cell n4 6).trans rfl
  have u13 : W4.cell? ⟨w3.heap.size, 13, none⟩ = some (.int .i64 0) := (blk_cell n4 13).trans rfl
  clear n4
  obtain ⟨-, -, C4⟩ := Kd.R_reads' HR4.out
  have HC4 := Aside0.mk C4
  clear C4 HCL
  go_wp2_with (first | (go_at_call 34; refine (find_c (n := ⟨#[103]⟩) (Kd.C_below HC4.out HB6.out) (by simp)).mono ?_; rw [fI2]; rintro e w7 ⟨rfl, hB⟩; have HB7 := Aside0.mk (HB6.out.trans (hB.mono HB6.out.size)); clear hB) | (go_at_call 34; refine (find_c (n := ⟨#[102]⟩) HC4.out (by simp)).mono ?_; rw [fI1]; rintro e w6 ⟨rfl, hB⟩; have HB6 := Aside0.mk hB; have hn6 := blk_below HN5.out hB; have x3 : w6.cell? ⟨w3.heap.size, 3, none⟩ = some (.slice A4 1 c4) := (blk_cell hn6 3).trans rfl; have x6 : w6.cell? ⟨w3.heap.size, 6, none⟩ = some (.string ⟨#[120]⟩) := (blk_cell hn6 6).trans rfl; have x13 : w6.cell? ⟨w3.heap.size, 13, none⟩ = some (.int .i64 0) := (blk_cell hn6 13).trans rfl; clear hB hn6))
  go_ret
  exact ⟨rfl, HB5.out.trans (HB7.out.mono HB5.out.size)⟩
end Go.Proofs.Ytekebjkcolhcoaa.Hnd
