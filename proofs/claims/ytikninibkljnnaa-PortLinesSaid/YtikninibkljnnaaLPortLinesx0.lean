/- The contract of the law PortLines, by hand. -/
import Derived.Test.YtikninibkljnnaaPl2
import Derived.Test.YtikninibkljnnaaPl3
import Derived.Test.YtikninibkljnnaaPlL
import Derived.RangeFuncNested
import Derived.StillTail
import Derived.Deep.RegionHeld
import Derived.StillTailTactics
namespace Go.Proofs.Ytikninibkljnnaa.LPortLines
open Go.RowKit Go.Proofs.Ytikninibkljnnaa.QPortLines Go.Proofs.Ytikninibkljnnaa.Hnd Go.Proofs.YtikninibkljnnaaW.PrintWords Go.Proofs.YtikninibkljnnaaW.PrintLast  Go
set_option linter.unusedVariables false
set_option linter.unusedSimpArgs false
attribute [local go_sem] Oper.semAt_some
def lazaruslaw18_PortLines.f (_ : ByteArray) (_ : Int) : Option Bool := some true
theorem pext_size (s : ByteArray) (a b : Nat) : (s.extract a b).size = min (b - a) (s.size - a) := by rw [ByteArray.size_extract]; omega
theorem pba_ext {a b : ByteArray} (h : a.data.toList = b.data.toList) : a = b := tl_inj (by rw [Lib.toList_data, Lib.toList_data, h])
theorem pext_data (s : ByteArray) (a b : Nat) : (s.extract a b).data.toList = (s.data.toList.drop a).take (b - a) := by
  rw [ByteArray.data_extract, Array.toList_extract, List.extract_eq_take_drop]
theorem papp_data (a b : ByteArray) : (a ++ b).data.toList = a.data.toList ++ b.data.toList := by simp [ByteArray.data_append]
theorem ext_join (s : ByteArray) {a b : Nat} (h : a ≤ b) : s.extract 0 a ++ s.extract a b = s.extract 0 b := by
  apply pba_ext
  rw [papp_data, pext_data, pext_data, pext_data, List.drop_zero, Nat.sub_zero, Nat.sub_zero]
  conv => rhs; rw [show b = a + (b - a) by omega, List.take_add]
theorem ext_all (s : ByteArray) : s.extract 0 s.size = s := by
  apply pba_ext
  rw [pext_data, List.drop_zero, Nat.sub_zero]
  exact List.take_of_length_le (by rw [← Lib.size_eq]; exact Nat.le_refl _)
theorem ext_line {s ln rst : ByteArray} {a b : Nat} (ha : a ≤ s.size) (hb : b + rst.size = s.size) (h : (ln ++ ⟨#[10]⟩) ++ rst = s.extract a s.size) (hz : ln.size + rst.size + 1 = (s.extract a s.size).size) : s.extract a b = ln ++ ⟨#[10]⟩ := by
  have hs := pext_size s a s.size
  have h1 : ((ln ++ ⟨#[10]⟩) ++ rst).data.toList = (s.extract a s.size).data.toList := by rw [h]
  rw [papp_data, pext_data, List.take_of_length_le (by rw [List.length_drop, ← Lib.size_eq]; omega)] at h1
  apply pba_ext
  rw [pext_data, ← h1]
  have h2 : (ln ++ ⟨#[10]⟩ : ByteArray).data.toList.length = b - a := by rw [← Lib.size_eq, ByteArray.size_append]; show ln.size + 1 = _; omega
  rw [← h2, List.take_left' rfl]
set_option maxHeartbeats 8000000 in
set_option maxRecDepth 100000 in
theorem lines_core (a0 : ByteArray) (a1 : Int) (w : World) :
    Calls Try.prog 5 #[.string a0, .int .i64 a1] w fun e w' => e = .returned (.bool true) ∧ Below w.heap.size w w' := by
  go_enter Try.func5, Try.ntmps5
  by_cases hA : a0.size ≤ 200
  case neg =>
    have p1 : decide ((a0.size : Int) > 200) = true := decide_eq_true (by omega)
    have p2 : decide ((200 : Int) < (a0.size : Int)) = true := decide_eq_true (by omega)
    have p3 : decide (200 < a0.size) = true := decide_eq_true (by omega)
    clear hA
    go_wp2
    go_ret
    exact ⟨rfl, Below.refl _ _⟩
  have p1 : decide ((a0.size : Int) > 200) = false := decide_eq_false (by omega)
  have p2 : decide ((200 : Int) < (a0.size : Int)) = false := decide_eq_false (by omega)
  have p3 : decide (200 < a0.size) = false := decide_eq_false (by omega)
  by_cases hN : 0 ≤ a1
  case neg =>
    have q1 : decide (a1 < 0) = true := decide_eq_true (by omega)
    clear hA hN
    go_wp2
    go_ret
    exact ⟨rfl, Below.refl _ _⟩
  have q1 : decide (a1 < 0) = false := decide_eq_false (by omega)
  by_cases hM : a1 ≤ 30
  case neg =>
    have r1 : decide ((a1 : Int) > 30) = true := decide_eq_true (by omega)
    have r2 : decide ((30 : Int) < (a1 : Int)) = true := decide_eq_true (by omega)
    clear hA hN hM
    go_wp2
    go_ret
    exact ⟨rfl, Below.refl _ _⟩
  have r1 : decide ((a1 : Int) > 30) = false := decide_eq_false (by omega)
  have r2 : decide ((30 : Int) < (a1 : Int)) = false := decide_eq_false (by omega)
  have HA := Aside0.mk hA
  have HN1 := Aside0.mk hN
  have HM := Aside0.mk hM
  clear hA hN hM
  have HD0 := Aside0.mk (below_alloc (Below.refl w.heap.size w) (.cells #[.slice none 0 0, .slice none 0 0, .slice none 0 0, .slice none 0 0, .int .i64 0, .string ⟨#[]⟩, .string ⟨#[]⟩, .int .i64 0, .int .i64 0, .string ⟨#[]⟩, .int .i64 0, .string ⟨#[]⟩, .slice none 0 0, .int .i64 0, .int .i64 0, .bool false, .bool false, .int .i64 0, .slice none 0 0, .slice none 0 0, .string ⟨#[]⟩] 38))
  have HA0 := Aside0.mk (blk_new w (.cells #[.slice none 0 0, .slice none 0 0, .slice none 0 0, .slice none 0 0, .int .i64 0, .string ⟨#[]⟩, .string ⟨#[]⟩, .int .i64 0, .int .i64 0, .string ⟨#[]⟩, .int .i64 0, .string ⟨#[]⟩, .slice none 0 0, .int .i64 0, .int .i64 0, .bool false, .bool false, .int .i64 0, .slice none 0 0, .slice none 0 0, .string ⟨#[]⟩] 38))
  go_wp2_with (first | ((with_reducible refine gate_store (t := 38) (p := 5) rfl ?_); refine store_all (g := w.heap.size) (vs := [.slice none 0 0, .slice none 0 0, .slice none 0 0, .slice none 0 0, .int .i64 0, .string ⟨#[]⟩, .string a0, .int .i64 0, .int .i64 0, .string ⟨#[]⟩, .int .i64 0, .string ⟨#[]⟩, .slice none 0 0, .int .i64 0, .int .i64 0, .bool false, .bool false, .int .i64 0, .slice none 0 0, .slice none 0 0, .string ⟨#[]⟩]) rfl rfl rfl ?hp ?hv HA0.out ?hz ?ht ?h1 ?_; (case hp => first | rfl | (go_simp; done)); (case hv => first | rfl | (go_simp; done)); (case hz => rfl); (case ht => kernel_rfl); (case h1 => rfl); intro v0 hW; have HN0 : Aside0 (v0.heap[w.heap.size]? = some (.cells #[.slice none 0 0, .slice none 0 0, .slice none 0 0, .slice none 0 0, .int .i64 0, .string ⟨#[]⟩, .string a0, .int .i64 0, .int .i64 0, .string ⟨#[]⟩, .int .i64 0, .string ⟨#[]⟩, .slice none 0 0, .int .i64 0, .int .i64 0, .bool false, .bool false, .int .i64 0, .slice none 0 0, .slice none 0 0, .string ⟨#[]⟩] 38 (0, 0))) := ⟨by rw [hW]; exact setCells_all HA0.out rfl⟩; have HB0 : Aside0 (Below w.heap.size w v0) := ⟨by rw [hW]; exact HD0.out.trans (Go.Proofs.Ytikninibkljnnaa.Hnd.below_setCells (Nat.le_refl _) _ _ _)⟩; clear hW))
  clear p1 p2 p3 q1 r1 r2
  obtain ⟨q5, hq5⟩ : ∃ q5, w.heap.size = q5 := ⟨_, rfl⟩
  have HQ5 : Aside0 (w.heap.size ≤ q5) := ⟨Nat.le_of_eq hq5⟩
  rw [hq5] at HN0 ⊢
  clear hq5 HA0 HD0
  have HL0 : Aside0 ((⟨#[]⟩ : ByteArray) = a0.extract 0 0) := ⟨(nil_of (by rw [pext_size]; omega)).symm⟩
  go_loopw [6, 7] (fun u6 u7 wr => ∃ (k i : Nat) (all : ByteArray), u6 = .string all ∧ u7 = .int .i64 (k : Int) ∧ Aside0 (i ≤ a0.size) ∧ Aside0 ((k : Int) ≤ a1) ∧ Aside0 (all = a0.extract 0 i) ∧ Aside0 (wr.heap[q5]? = some (.cells #[.slice none 0 0, .slice none 0 0, .slice none 0 0, .slice none 0 0, .int .i64 0, .string ⟨#[]⟩, .string a0, .int .i64 (i : Int), .int .i64 0, .string ⟨#[]⟩, .int .i64 0, .string ⟨#[]⟩, .slice none 0 0, .int .i64 0, .int .i64 0, .bool false, .bool false, .int .i64 0, .slice none 0 0, .slice none 0 0, .string ⟨#[]⟩] 38 (0, 0))) ∧ Aside0 (Below w.heap.size w wr)) (fun _ u7 _ => (a1 + 1).toNat - (intOf u7).toNat)
  case atStart => exact ⟨0, 0, ⟨#[]⟩, rfl, rfl, ⟨Nat.zero_le _⟩, HN1, HL0, HN0, HB0⟩
  case round =>
    obtain ⟨k, i, all, rfl, rfl, HI, HK, HAL, HN, HB⟩ := hrel
    have hk := HK.out
    have hm := HM.out
    have hp0 : (0 : Int) ≤ (k : Int) := by omega
    have hp1 : (k : Int) ≤ 30 := by omega
    by_cases hlt : (k : Int) < a1
    · have dl : decide ((k : Int) < a1) = true := decide_eq_true hlt
      have HLT := Aside0.mk hlt
      have u7 : wr.cell? ⟨q5, 7, none⟩ = some (.int .i64 (i : Int)) := (blk_cell HN.out 7).trans rfl
      clear hlt hk hm
      by_cases hI : i = a0.size
      · have hl : split_Lines.f (a0.extract i a0.size) = some (⟨#[]⟩, ⟨#[]⟩, false) := by rw [hI, show a0.extract a0.size a0.size = ⟨#[]⟩ from nil_of (by rw [pext_size]; omega)]; exact lines_nil
        have HLN := Aside0.mk hl
        clear hl hI
        go_upto_region 15 with (first | ((with_reducible refine gate_store (t := 38) (p := 10) rfl ?_); refine store_all (g := w3.heap.size) (vs := [.slice none 0 0, .slice none 0 0, .slice none 0 0, .slice none 0 0, .int .i64 0, .string ⟨#[]⟩, .string a0, .int .i64 (i : Int), .int .i64 0, .string ⟨#[]⟩, .int .i64 0, .string ⟨#[]⟩, .slice none 0 0, .int .i64 0, .int .i64 0, .bool false, .bool false, .int .i64 0, .slice none 0 0, .slice none 0 0, .string ⟨#[]⟩]) rfl rfl rfl ?hp ?hv HE3.out ?hz ?ht ?h1 ?_; (case hp => first | rfl | (go_simp; done)); (case hv => first | rfl | (go_simp; done)); (case hz => rfl); (case ht => kernel_rfl); (case h1 => rfl); intro v4 hW; have HV4 : Aside0 (v4.heap[w3.heap.size]? = some (.cells #[.slice none 0 0, .slice none 0 0, .slice none 0 0, .slice none 0 0, .int .i64 0, .string ⟨#[]⟩, .string a0, .int .i64 (i : Int), .int .i64 0, .string ⟨#[]⟩, .int .i64 0, .string ⟨#[]⟩, .slice none 0 0, .int .i64 0, .int .i64 0, .bool false, .bool false, .int .i64 0, .slice none 0 0, .slice none 0 0, .string ⟨#[]⟩] 38 (0, 0))) := ⟨by rw [hW]; exact setCells_all HE3.out rfl⟩; have HN4 : Aside0 (v4.heap[q5]? = some (.cells #[.slice none 0 0, .slice none 0 0, .slice none 0 0, .slice none 0 0, .int .i64 0, .string ⟨#[]⟩, .string a0, .int .i64 (i : Int), .int .i64 0, .string ⟨#[]⟩, .int .i64 0, .string ⟨#[]⟩, .slice none 0 0, .int .i64 0, .int .i64 0, .bool false, .bool false, .int .i64 0, .slice none 0 0, .slice none 0 0, .string ⟨#[]⟩] 38 (0, 0))) := ⟨by rw [hW]; exact (far_setCells (Nat.ne_of_lt (blk_lt HN3.out)) _ _ _).trans (blk_below HN3.out HC3.out)⟩; have HB4 : Aside0 (Below w.heap.size w v4) := ⟨by rw [hW]; exact (T3.out.trans (HC3.out.mono T3.out.size)).trans (Go.Proofs.Ytikninibkljnnaa.Hnd.below_setCells T3.out.size _ _ _)⟩; have n4 := HV4.out; have z8 : v4.cell? ⟨w3.heap.size, 7, none⟩ = some (.int .i64 (i : Int)) := (blk_cell n4 7).trans rfl; clear n4; clear hW) | (go_at_call 11; refine (line_no HI.out HA.out HLN.out).mono ?_; rintro e w3 ⟨rfl, hB⟩; have T3 := Aside0.mk (HB.out.trans (hB.mono HB.out.size)); have HC3 := Aside0.mk (below_alloc (Below.refl w3.heap.size w3) (.cells #[.slice none 0 0, .slice none 0 0, .slice none 0 0, .slice none 0 0, .int .i64 0, .string ⟨#[]⟩, .string ⟨#[]⟩, .int .i64 0, .int .i64 0, .string ⟨#[]⟩, .int .i64 0, .string ⟨#[]⟩, .slice none 0 0, .int .i64 0, .int .i64 0, .bool false, .bool false, .int .i64 0, .slice none 0 0, .slice none 0 0, .string ⟨#[]⟩] 38)); have HE3 := Aside0.mk (blk_new w3 (.cells #[.slice none 0 0, .slice none 0 0, .slice none 0 0, .slice none 0 0, .int .i64 0, .string ⟨#[]⟩, .string ⟨#[]⟩, .int .i64 0, .int .i64 0, .string ⟨#[]⟩, .int .i64 0, .string ⟨#[]⟩, .slice none 0 0, .int .i64 0, .int .i64 0, .bool false, .bool false, .int .i64 0, .slice none 0 0, .slice none 0 0, .string ⟨#[]⟩] 38)); have HN3 := Aside0.mk (blk_below HN.out hB); clear hB) | ((with_reducible refine gate_dst (N := 39) rfl ?_); refine load_event (p := 5) (ty := 38) rfl rfl rfl ?hp HN.out Try.underlying38 rfl (by kernel_rfl) ?_; (case hp => first | rfl | (go_simp; done))))
        have y0 : all ++ a0.extract i a0.size = a0 := by rw [HAL.out, ext_join a0 HI.out, ext_all]
        have y1 : ((all ++ a0.extract i a0.size).toList == a0.toList) = true := by rw [y0]; simp
        have y4 : a0.extract a0.size a0.size = ⟨#[]⟩ := nil_of (by rw [pext_size]; omega)
        have y2 : ((a0.extract a0.size a0.size).toList == (⟨#[]⟩ : ByteArray).toList) = true := by rw [y4]; simp
        have y3 : all.size + (a0.extract i a0.size).size ≤ 9223372036854775807 := by rw [HAL.out, pext_size, pext_size]; have := HI.out; have := HA.out; omega
        have y5 : (a0.extract a0.size a0.size).toList = ([] : List UInt8) := by rw [y4, Lib.toList_data]
        clear y0 y4
        go_wp2_with (first | (go_at_call 10; refine (known18_c _).mono ?_; rintro e w9 ⟨rfl, hB⟩; have T9 := Aside0.mk (TV2.out.trans (hB.mono TV2.out.size)); clear hB) | ((with_reducible refine gate_store (t := 38) (p := 15) rfl ?_); refine store_all (g := w2.heap.size) (vs := [.slice none 0 0, .slice none 0 0, .slice none 0 0, .slice none 0 0, .int .i64 0, .string ⟨#[]⟩, .string a0, .int .i64 (a0.size : Int), .int .i64 0, .string ⟨#[]⟩, .int .i64 0, .string ⟨#[]⟩, .slice none 0 0, .int .i64 0, .int .i64 0, .bool false, .bool false, .int .i64 0, .slice none 0 0, .slice none 0 0, .string ⟨#[]⟩]) rfl rfl rfl ?hp ?hv HE2.out ?hz ?ht ?h1 ?_; (case hp => first | rfl | (go_simp; done)); (case hv => first | rfl | (go_simp; done)); (case hz => rfl); (case ht => kernel_rfl); (case h1 => rfl); intro v2 hW; have TV2 : Aside0 (Below w.heap.size w v2) := ⟨by rw [hW]; exact (T2.out.trans (HC2.out.mono T2.out.size)).trans (Go.Proofs.Ytikninibkljnnaa.Hnd.below_setCells T2.out.size _ _ _)⟩; have HV3 : Aside0 (v2.heap[w1.heap.size]? = some (.cells #[.slice none 0 0, .slice none 0 0, .slice none 0 0, .slice none 0 0, .int .i64 0, .string ⟨#[]⟩, .string a0, .int .i64 (a0.size : Int), .int .i64 0, .string ⟨#[]⟩, .int .i64 0, .string ⟨#[]⟩, .slice none 0 0, .int .i64 0, .int .i64 0, .bool false, .bool false, .int .i64 0, .slice none 0 0, .slice none 0 0, .string ⟨#[]⟩] 38 (0, 0))) := ⟨by rw [hW]; exact (far_setCells (Nat.ne_of_lt (blk_lt HV2.out)) _ _ _).trans (blk_below HV2.out HC2.out)⟩; have n3 := HV3.out; have z7 : v2.cell? ⟨w1.heap.size, 7, none⟩ = some (.int .i64 (a0.size : Int)) := (blk_cell n3 7).trans rfl; clear n3; clear hW) | (go_at_call 12; have hTV := TV1.out; clear hTV; refine (rest_c (i := a0.size) (Nat.le_refl _)).mono ?_; rintro e w2 ⟨rfl, hB⟩; have T2 := Aside0.mk (TV1.out.trans (hB.mono TV1.out.size)); have HC2 := Aside0.mk (below_alloc (Below.refl w2.heap.size w2) (.cells #[.slice none 0 0, .slice none 0 0, .slice none 0 0, .slice none 0 0, .int .i64 0, .string ⟨#[]⟩, .string ⟨#[]⟩, .int .i64 0, .int .i64 0, .string ⟨#[]⟩, .int .i64 0, .string ⟨#[]⟩, .slice none 0 0, .int .i64 0, .int .i64 0, .bool false, .bool false, .int .i64 0, .slice none 0 0, .slice none 0 0, .string ⟨#[]⟩] 38)); have HE2 := Aside0.mk (blk_new w2 (.cells #[.slice none 0 0, .slice none 0 0, .slice none 0 0, .slice none 0 0, .int .i64 0, .string ⟨#[]⟩, .string ⟨#[]⟩, .int .i64 0, .int .i64 0, .string ⟨#[]⟩, .int .i64 0, .string ⟨#[]⟩, .slice none 0 0, .int .i64 0, .int .i64 0, .bool false, .bool false, .int .i64 0, .slice none 0 0, .slice none 0 0, .string ⟨#[]⟩] 38)); have HV2 := Aside0.mk (blk_below HV1.out hB); clear hB) | ((with_reducible refine gate_dst (N := 99) rfl ?_); refine load_event (p := 13) (ty := 38) rfl rfl rfl ?hp HV1.out Try.underlying38 rfl (by kernel_rfl) ?_; (case hp => first | rfl | (go_simp; done))) | ((with_reducible refine gate_store (t := 38) (p := 13) rfl ?_); refine store_all (g := w1.heap.size) (vs := [.slice none 0 0, .slice none 0 0, .slice none 0 0, .slice none 0 0, .int .i64 0, .string ⟨#[]⟩, .string a0, .int .i64 (a0.size : Int), .int .i64 0, .string ⟨#[]⟩, .int .i64 0, .string ⟨#[]⟩, .slice none 0 0, .int .i64 0, .int .i64 0, .bool false, .bool false, .int .i64 0, .slice none 0 0, .slice none 0 0, .string ⟨#[]⟩]) rfl rfl rfl ?hp ?hv HE1.out ?hz ?ht ?h1 ?_; (case hp => first | rfl | (go_simp; done)); (case hv => first | rfl | (go_simp; done)); (case hz => rfl); (case ht => kernel_rfl); (case h1 => rfl); intro v1 hW; have HV1 : Aside0 (v1.heap[w1.heap.size]? = some (.cells #[.slice none 0 0, .slice none 0 0, .slice none 0 0, .slice none 0 0, .int .i64 0, .string ⟨#[]⟩, .string a0, .int .i64 (a0.size : Int), .int .i64 0, .string ⟨#[]⟩, .int .i64 0, .string ⟨#[]⟩, .slice none 0 0, .int .i64 0, .int .i64 0, .bool false, .bool false, .int .i64 0, .slice none 0 0, .slice none 0 0, .string ⟨#[]⟩] 38 (0, 0))) := ⟨by rw [hW]; exact setCells_all HE1.out rfl⟩; have TV1 : Aside0 (Below w.heap.size w v1) := ⟨by rw [hW]; exact (T1.out.trans (HC1.out.mono T1.out.size)).trans (Go.Proofs.Ytikninibkljnnaa.Hnd.below_setCells T1.out.size _ _ _)⟩; clear hW) | (go_at_call 12; refine (rest_c HI.out).mono ?_; rintro e w1 ⟨rfl, hB⟩; have T1 := Aside0.mk (HB4.out.trans (hB.mono HB4.out.size)); have HC1 := Aside0.mk (below_alloc (Below.refl w1.heap.size w1) (.cells #[.slice none 0 0, .slice none 0 0, .slice none 0 0, .slice none 0 0, .int .i64 0, .string ⟨#[]⟩, .string ⟨#[]⟩, .int .i64 0, .int .i64 0, .string ⟨#[]⟩, .int .i64 0, .string ⟨#[]⟩, .slice none 0 0, .int .i64 0, .int .i64 0, .bool false, .bool false, .int .i64 0, .slice none 0 0, .slice none 0 0, .string ⟨#[]⟩] 38)); have HE1 := Aside0.mk (blk_new w1 (.cells #[.slice none 0 0, .slice none 0 0, .slice none 0 0, .slice none 0 0, .int .i64 0, .string ⟨#[]⟩, .string ⟨#[]⟩, .int .i64 0, .int .i64 0, .string ⟨#[]⟩, .int .i64 0, .string ⟨#[]⟩, .slice none 0 0, .int .i64 0, .int .i64 0, .bool false, .bool false, .int .i64 0, .slice none 0 0, .slice none 0 0, .string ⟨#[]⟩] 38)); clear hB) | ((with_reducible refine gate_dst (N := 94) rfl ?_); refine load_event (p := 5) (ty := 38) rfl rfl rfl ?hp HN4.out Try.underlying38 rfl (by kernel_rfl) ?_; (case hp => first | rfl | (go_simp; done))))
        go_ret
        exact ⟨rfl, T9.out⟩
      · obtain ⟨ln, rst, hl, hc⟩ := lines_some (a0.extract i a0.size) (by rw [pext_size]; have := HA.out; omega) (by rw [pext_size]; have := HI.out; omega)
        have hI2 : i < a0.size := Nat.lt_of_le_of_ne HI.out hI
        have hsz := pext_size a0 i a0.size
        have hA := HA.out
        obtain ⟨i', h', hi1, hi2, hseg⟩ : ∃ i' : Nat, i' + rst.size = a0.size ∧ i < i' ∧ i' ≤ a0.size ∧ (a0.extract i i' = ln ∨ (a0.extract i i' ≠ ln ∧ a0.extract i i' = ln ++ ⟨#[10]⟩)) := by
          rcases hc with ⟨hz, hj⟩ | ⟨rfl, rfl⟩
          · refine ⟨a0.size - rst.size, by omega, by omega, by omega, .inr ?_⟩
            have hx := ext_line (b := a0.size - rst.size) HI.out (by omega) hj hz
            refine ⟨fun hy => ?_, hx⟩
            have h3 := congrArg ByteArray.size (hx.symm.trans hy)
            rw [ByteArray.size_append] at h3
            have h4 : (⟨#[10]⟩ : ByteArray).size = 1 := rfl
            omega
          · exact ⟨a0.size, by show a0.size + 0 = _; omega, hI2, Nat.le_refl _, .inl rfl⟩
        have hln : ln.size ≤ 200 := by
          have h5 := pext_size a0 i i'
          rcases hseg with hq | ⟨_, hq⟩
          · rw [hq] at h5; omega
          · rw [hq, ByteArray.size_append] at h5; omega
        have HLN := Aside0.mk hl
        have HP := Aside0.mk h'
        have HI1 := Aside0.mk hi1
        have HI2 := Aside0.mk hi2
        have HSG := Aside0.mk hseg
        have d1 : decide ((i' : Int) ≤ (i : Int)) = false := decide_eq_false (by omega)
        have d2 : decide (i' ≤ i) = false := decide_eq_false (by omega)
        have d3 : decide ((i' : Int) > (a0.size : Int)) = false := decide_eq_false (by omega)
        have d4 : decide ((a0.size : Int) < (i' : Int)) = false := decide_eq_false (by omega)
        have d5 : decide (a0.size < i') = false := decide_eq_false (by omega)
        have d6 : decide ((i : Int) < 0) = false := decide_eq_false (by omega)
        have d7 : (0 : Int) ≤ (i : Int) := by omega
        have d8 : (i : Int) ≤ (i' : Int) := by omega
        have d9 : (i' : Int) ≤ (a0.size : Int) := by omega
        have s1 : ln.size + 1 ≤ 9223372036854775807 := by omega
        have s2 : all.size + (a0.extract i i').size ≤ 9223372036854775807 := by rw [HAL.out, pext_size, pext_size]; omega
        clear hl hc hI hI2 hsz hA h' hi1 hi2 hln
        go_upto_region 11 with (first | ((with_reducible refine gate_store (t := 38) (p := 10) rfl ?_); refine store_all (g := w3.heap.size) (vs := [.slice none 0 0, .slice none 0 0, .slice none 0 0, .slice none 0 0, .int .i64 0, .string ⟨#[]⟩, .string a0, .int .i64 (i' : Int), .int .i64 0, .string ⟨#[]⟩, .int .i64 0, .string ⟨#[]⟩, .slice none 0 0, .int .i64 0, .int .i64 0, .bool false, .bool false, .int .i64 0, .slice none 0 0, .slice none 0 0, .string ⟨#[]⟩]) rfl rfl rfl ?hp ?hv HE3.out ?hz ?ht ?h1 ?_; (case hp => first | rfl | (go_simp; done)); (case hv => first | rfl | (go_simp; done)); (case hz => rfl); (case ht => kernel_rfl); (case h1 => rfl); intro v4 hW; have HV4 : Aside0 (v4.heap[w3.heap.size]? = some (.cells #[.slice none 0 0, .slice none 0 0, .slice none 0 0, .slice none 0 0, .int .i64 0, .string ⟨#[]⟩, .string a0, .int .i64 (i' : Int), .int .i64 0, .string ⟨#[]⟩, .int .i64 0, .string ⟨#[]⟩, .slice none 0 0, .int .i64 0, .int .i64 0, .bool false, .bool false, .int .i64 0, .slice none 0 0, .slice none 0 0, .string ⟨#[]⟩] 38 (0, 0))) := ⟨by rw [hW]; exact setCells_all HE3.out rfl⟩; have HN4 : Aside0 (v4.heap[q5]? = some (.cells #[.slice none 0 0, .slice none 0 0, .slice none 0 0, .slice none 0 0, .int .i64 0, .string ⟨#[]⟩, .string a0, .int .i64 (i : Int), .int .i64 0, .string ⟨#[]⟩, .int .i64 0, .string ⟨#[]⟩, .slice none 0 0, .int .i64 0, .int .i64 0, .bool false, .bool false, .int .i64 0, .slice none 0 0, .slice none 0 0, .string ⟨#[]⟩] 38 (0, 0))) := ⟨by rw [hW]; exact (far_setCells (Nat.ne_of_lt (blk_lt HN3.out)) _ _ _).trans (blk_below HN3.out HC3.out)⟩; have HB4 : Aside0 (Below w.heap.size w v4) := ⟨by rw [hW]; exact (T3.out.trans (HC3.out.mono T3.out.size)).trans (Go.Proofs.Ytikninibkljnnaa.Hnd.below_setCells T3.out.size _ _ _)⟩; have n4 := HV4.out; have z8 : v4.cell? ⟨w3.heap.size, 7, none⟩ = some (.int .i64 (i' : Int)) := (blk_cell n4 7).trans rfl; clear n4; clear hW) | (go_at_call 11; refine (line_yes (i' := i') HI.out HA.out HLN.out HP.out).mono ?_; rintro e w3 ⟨rfl, hB⟩; have T3 := Aside0.mk (HB.out.trans (hB.mono HB.out.size)); have HC3 := Aside0.mk (below_alloc (Below.refl w3.heap.size w3) (.cells #[.slice none 0 0, .slice none 0 0, .slice none 0 0, .slice none 0 0, .int .i64 0, .string ⟨#[]⟩, .string ⟨#[]⟩, .int .i64 0, .int .i64 0, .string ⟨#[]⟩, .int .i64 0, .string ⟨#[]⟩, .slice none 0 0, .int .i64 0, .int .i64 0, .bool false, .bool false, .int .i64 0, .slice none 0 0, .slice none 0 0, .string ⟨#[]⟩] 38)); have HE3 := Aside0.mk (blk_new w3 (.cells #[.slice none 0 0, .slice none 0 0, .slice none 0 0, .slice none 0 0, .int .i64 0, .string ⟨#[]⟩, .string ⟨#[]⟩, .int .i64 0, .int .i64 0, .string ⟨#[]⟩, .int .i64 0, .string ⟨#[]⟩, .slice none 0 0, .int .i64 0, .int .i64 0, .bool false, .bool false, .int .i64 0, .slice none 0 0, .slice none 0 0, .string ⟨#[]⟩] 38)); have HN3 := Aside0.mk (blk_below HN.out hB); clear hB) | ((with_reducible refine gate_dst (N := 39) rfl ?_); refine load_event (p := 5) (ty := 38) rfl rfl rfl ?hp HN.out Try.underlying38 rfl (by kernel_rfl) ?_; (case hp => first | rfl | (go_simp; done))))
        rcases hseg with hq | ⟨hn, hq⟩
        · have g1 : ((a0.extract i i').toList == ln.toList) = true := by rw [hq]; simp
          clear hq
          go_wp2_with (first | ((with_reducible refine gate_store (t := 38) (p := 5) rfl ?_); refine store_all (g := q5) (vs := [.slice none 0 0, .slice none 0 0, .slice none 0 0, .slice none 0 0, .int .i64 0, .string ⟨#[]⟩, .string a0, .int .i64 (i' : Int), .int .i64 0, .string ⟨#[]⟩, .int .i64 0, .string ⟨#[]⟩, .slice none 0 0, .int .i64 0, .int .i64 0, .bool false, .bool false, .int .i64 0, .slice none 0 0, .slice none 0 0, .string ⟨#[]⟩]) rfl rfl rfl ?hp ?hv HN4.out ?hz ?ht ?h1 ?_; (case hp => first | rfl | (go_simp; done)); (case hv => first | rfl | (go_simp; done)); (case hz => rfl); (case ht => kernel_rfl); (case h1 => rfl); intro v9 hW; have HN9 : Aside0 (v9.heap[q5]? = some (.cells #[.slice none 0 0, .slice none 0 0, .slice none 0 0, .slice none 0 0, .int .i64 0, .string ⟨#[]⟩, .string a0, .int .i64 (i' : Int), .int .i64 0, .string ⟨#[]⟩, .int .i64 0, .string ⟨#[]⟩, .slice none 0 0, .int .i64 0, .int .i64 0, .bool false, .bool false, .int .i64 0, .slice none 0 0, .slice none 0 0, .string ⟨#[]⟩] 38 (0, 0))) := ⟨by rw [hW]; exact setCells_all HN4.out rfl⟩; have HB9 : Aside0 (Below w.heap.size w v9) := ⟨by rw [hW]; exact HB4.out.trans (Go.Proofs.Ytikninibkljnnaa.Hnd.below_setCells HQ5.out _ _ _)⟩; clear hW) | ((with_reducible refine gate_dst (N := 92) rfl ?_); refine load_event (p := 10) (ty := 38) rfl rfl rfl ?hp HV4.out Try.underlying38 rfl (by kernel_rfl) ?_; (case hp => first | rfl | (go_simp; done))))
          exact ⟨⟨k + 1, i', _, rfl, by go_num, HI2, ⟨by have := HLT.out; omega⟩, ⟨by rw [HAL.out]; exact ext_join a0 (Nat.le_of_lt HI1.out)⟩, HN9, HB9⟩, by have := HLT.out; simp [intOf]; omega⟩
        · have g1 : ((a0.extract i i').toList == ln.toList) = false := by rw [beq_eq_false_iff_ne]; exact fun h => hn (tl_inj h)
          have g2 : ((a0.extract i i').toList == (ln ++ ⟨#[10]⟩ : ByteArray).toList) = true := by rw [hq]; simp
          clear hq hn
          go_wp2_with (first | ((with_reducible refine gate_store (t := 38) (p := 5) rfl ?_); refine store_all (g := q5) (vs := [.slice none 0 0, .slice none 0 0, .slice none 0 0, .slice none 0 0, .int .i64 0, .string ⟨#[]⟩, .string a0, .int .i64 (i' : Int), .int .i64 0, .string ⟨#[]⟩, .int .i64 0, .string ⟨#[]⟩, .slice none 0 0, .int .i64 0, .int .i64 0, .bool false, .bool false, .int .i64 0, .slice none 0 0, .slice none 0 0, .string ⟨#[]⟩]) rfl rfl rfl ?hp ?hv HN4.out ?hz ?ht ?h1 ?_; (case hp => first | rfl | (go_simp; done)); (case hv => first | rfl | (go_simp; done)); (case hz => rfl); (case ht => kernel_rfl); (case h1 => rfl); intro v9 hW; have HN9 : Aside0 (v9.heap[q5]? = some (.cells #[.slice none 0 0, .slice none 0 0, .slice none 0 0, .slice none 0 0, .int .i64 0, .string ⟨#[]⟩, .string a0, .int .i64 (i' : Int), .int .i64 0, .string ⟨#[]⟩, .int .i64 0, .string ⟨#[]⟩, .slice none 0 0, .int .i64 0, .int .i64 0, .bool false, .bool false, .int .i64 0, .slice none 0 0, .slice none 0 0, .string ⟨#[]⟩] 38 (0, 0))) := ⟨by rw [hW]; exact setCells_all HN4.out rfl⟩; have HB9 : Aside0 (Below w.heap.size w v9) := ⟨by rw [hW]; exact HB4.out.trans (Go.Proofs.Ytikninibkljnnaa.Hnd.below_setCells HQ5.out _ _ _)⟩; clear hW) | ((with_reducible refine gate_dst (N := 92) rfl ?_); refine load_event (p := 10) (ty := 38) rfl rfl rfl ?hp HV4.out Try.underlying38 rfl (by kernel_rfl) ?_; (case hp => first | rfl | (go_simp; done))))
          exact ⟨⟨k + 1, i', _, rfl, by go_num, HI2, ⟨by have := HLT.out; omega⟩, ⟨by rw [HAL.out]; exact ext_join a0 (Nat.le_of_lt HI1.out)⟩, HN9, HB9⟩, by have := HLT.out; simp [intOf]; omega⟩
    · have dl : decide ((k : Int) < a1) = false := decide_eq_false hlt
      clear hlt hk hm
      go_upto_region 15 with (fail)
      have y0 : all ++ a0.extract i a0.size = a0 := by rw [HAL.out, ext_join a0 HI.out, ext_all]
      have y1 : ((all ++ a0.extract i a0.size).toList == a0.toList) = true := by rw [y0]; simp
      have y4 : a0.extract a0.size a0.size = ⟨#[]⟩ := nil_of (by rw [pext_size]; omega)
      have y2 : ((a0.extract a0.size a0.size).toList == (⟨#[]⟩ : ByteArray).toList) = true := by rw [y4]; simp
      have y3 : all.size + (a0.extract i a0.size).size ≤ 9223372036854775807 := by rw [HAL.out, pext_size, pext_size]; have := HI.out; have := HA.out; omega
      have y5 : (a0.extract a0.size a0.size).toList = ([] : List UInt8) := by rw [y4, Lib.toList_data]
      clear y0 y4
      go_wp2_with (first | (go_at_call 10; refine (known18_c _).mono ?_; rintro e w9 ⟨rfl, hB⟩; have T9 := Aside0.mk (TV2.out.trans (hB.mono TV2.out.size)); clear hB) | ((with_reducible refine gate_store (t := 38) (p := 15) rfl ?_); refine store_all (g := w2.heap.size) (vs := [.slice none 0 0, .slice none 0 0, .slice none 0 0, .slice none 0 0, .int .i64 0, .string ⟨#[]⟩, .string a0, .int .i64 (a0.size : Int), .int .i64 0, .string ⟨#[]⟩, .int .i64 0, .string ⟨#[]⟩, .slice none 0 0, .int .i64 0, .int .i64 0, .bool false, .bool false, .int .i64 0, .slice none 0 0, .slice none 0 0, .string ⟨#[]⟩]) rfl rfl rfl ?hp ?hv HE2.out ?hz ?ht ?h1 ?_; (case hp => first | rfl | (go_simp; done)); (case hv => first | rfl | (go_simp; done)); (case hz => rfl); (case ht => kernel_rfl); (case h1 => rfl); intro v2 hW; have TV2 : Aside0 (Below w.heap.size w v2) := ⟨by rw [hW]; exact (T2.out.trans (HC2.out.mono T2.out.size)).trans (Go.Proofs.Ytikninibkljnnaa.Hnd.below_setCells T2.out.size _ _ _)⟩; have HV3 : Aside0 (v2.heap[w1.heap.size]? = some (.cells #[.slice none 0 0, .slice none 0 0, .slice none 0 0, .slice none 0 0, .int .i64 0, .string ⟨#[]⟩, .string a0, .int .i64 (a0.size : Int), .int .i64 0, .string ⟨#[]⟩, .int .i64 0, .string ⟨#[]⟩, .slice none 0 0, .int .i64 0, .int .i64 0, .bool false, .bool false, .int .i64 0, .slice none 0 0, .slice none 0 0, .string ⟨#[]⟩] 38 (0, 0))) := ⟨by rw [hW]; exact (far_setCells (Nat.ne_of_lt (blk_lt HV2.out)) _ _ _).trans (blk_below HV2.out HC2.out)⟩; have n3 := HV3.out; have z7 : v2.cell? ⟨w1.heap.size, 7, none⟩ = some (.int .i64 (a0.size : Int)) := (blk_cell n3 7).trans rfl; clear n3; clear hW) | (go_at_call 12; have hTV := TV1.out; clear hTV; refine (rest_c (i := a0.size) (Nat.le_refl _)).mono ?_; rintro e w2 ⟨rfl, hB⟩; have T2 := Aside0.mk (TV1.out.trans (hB.mono TV1.out.size)); have HC2 := Aside0.mk (below_alloc (Below.refl w2.heap.size w2) (.cells #[.slice none 0 0, .slice none 0 0, .slice none 0 0, .slice none 0 0, .int .i64 0, .string ⟨#[]⟩, .string ⟨#[]⟩, .int .i64 0, .int .i64 0, .string ⟨#[]⟩, .int .i64 0, .string ⟨#[]⟩, .slice none 0 0, .int .i64 0, .int .i64 0, .bool false, .bool false, .int .i64 0, .slice none 0 0, .slice none 0 0, .string ⟨#[]⟩] 38)); have HE2 := Aside0.mk (blk_new w2 (.cells #[.slice none 0 0, .slice none 0 0, .slice none 0 0, .slice none 0 0, .int .i64 0, .string ⟨#[]⟩, .string ⟨#[]⟩, .int .i64 0, .int .i64 0, .string ⟨#[]⟩, .int .i64 0, .string ⟨#[]⟩, .slice none 0 0, .int .i64 0, .int .i64 0, .bool false, .bool false, .int .i64 0, .slice none 0 0, .slice none 0 0, .string ⟨#[]⟩] 38)); have HV2 := Aside0.mk (blk_below HV1.out hB); clear hB) | ((with_reducible refine gate_dst (N := 99) rfl ?_); refine load_event (p := 13) (ty := 38) rfl rfl rfl ?hp HV1.out Try.underlying38 rfl (by kernel_rfl) ?_; (case hp => first | rfl | (go_simp; done))) | ((with_reducible refine gate_store (t := 38) (p := 13) rfl ?_); refine store_all (g := w1.heap.size) (vs := [.slice none 0 0, .slice none 0 0, .slice none 0 0, .slice none 0 0, .int .i64 0, .string ⟨#[]⟩, .string a0, .int .i64 (a0.size : Int), .int .i64 0, .string ⟨#[]⟩, .int .i64 0, .string ⟨#[]⟩, .slice none 0 0, .int .i64 0, .int .i64 0, .bool false, .bool false, .int .i64 0, .slice none 0 0, .slice none 0 0, .string ⟨#[]⟩]) rfl rfl rfl ?hp ?hv HE1.out ?hz ?ht ?h1 ?_; (case hp => first | rfl | (go_simp; done)); (case hv => first | rfl | (go_simp; done)); (case hz => rfl); (case ht => kernel_rfl); (case h1 => rfl); intro v1 hW; have HV1 : Aside0 (v1.heap[w1.heap.size]? = some (.cells #[.slice none 0 0, .slice none 0 0, .slice none 0 0, .slice none 0 0, .int .i64 0, .string ⟨#[]⟩, .string a0, .int .i64 (a0.size : Int), .int .i64 0, .string ⟨#[]⟩, .int .i64 0, .string ⟨#[]⟩, .slice none 0 0, .int .i64 0, .int .i64 0, .bool false, .bool false, .int .i64 0, .slice none 0 0, .slice none 0 0, .string ⟨#[]⟩] 38 (0, 0))) := ⟨by rw [hW]; exact setCells_all HE1.out rfl⟩; have TV1 : Aside0 (Below w.heap.size w v1) := ⟨by rw [hW]; exact (T1.out.trans (HC1.out.mono T1.out.size)).trans (Go.Proofs.Ytikninibkljnnaa.Hnd.below_setCells T1.out.size _ _ _)⟩; clear hW) | (go_at_call 12; refine (rest_c HI.out).mono ?_; rintro e w1 ⟨rfl, hB⟩; have T1 := Aside0.mk (HB.out.trans (hB.mono HB.out.size)); have HC1 := Aside0.mk (below_alloc (Below.refl w1.heap.size w1) (.cells #[.slice none 0 0, .slice none 0 0, .slice none 0 0, .slice none 0 0, .int .i64 0, .string ⟨#[]⟩, .string ⟨#[]⟩, .int .i64 0, .int .i64 0, .string ⟨#[]⟩, .int .i64 0, .string ⟨#[]⟩, .slice none 0 0, .int .i64 0, .int .i64 0, .bool false, .bool false, .int .i64 0, .slice none 0 0, .slice none 0 0, .string ⟨#[]⟩] 38)); have HE1 := Aside0.mk (blk_new w1 (.cells #[.slice none 0 0, .slice none 0 0, .slice none 0 0, .slice none 0 0, .int .i64 0, .string ⟨#[]⟩, .string ⟨#[]⟩, .int .i64 0, .int .i64 0, .string ⟨#[]⟩, .int .i64 0, .string ⟨#[]⟩, .slice none 0 0, .int .i64 0, .int .i64 0, .bool false, .bool false, .int .i64 0, .slice none 0 0, .slice none 0 0, .string ⟨#[]⟩] 38)); clear hB) | ((with_reducible refine gate_dst (N := 94) rfl ?_); refine load_event (p := 5) (ty := 38) rfl rfl rfl ?hp HN.out Try.underlying38 rfl (by kernel_rfl) ?_; (case hp => first | rfl | (go_simp; done))))
      go_ret
      exact ⟨rfl, T9.out⟩
theorem lazaruslaw18_PortLines.calls (a0 : ByteArray) (a1 : Int) (r : Bool) (w : World) (h : lazaruslaw18_PortLines.f a0 a1 = some r) :
    Calls Try.prog 5 #[.string a0, .int .i64 a1] w fun e w' => e = .returned (.bool r) ∧ Below w.heap.size w w' := by
  obtain rfl : true = r := Option.some.inj h
  exact lines_core a0 a1 w
end Go.Proofs.Ytikninibkljnnaa.LPortLines
