/- The contract of the law NetRow, by hand. -/
import Derived.Test.YtelmpfkfnmaibaaDoorNet5
import Derived.RangeFuncNested
import Derived.RangeFuncBound
import Derived.RangeFuncCalls
import Derived.RangeFuncLeaves
import Derived.RangeFuncBox
import Derived.Shelf.Abstract
import Derived.Shelf.RegionOpen
import Derived.OwnWalkIn
import Derived.TacticsInMore
import Derived.LoopNIn
import Derived.LoopIn
namespace Go.Proofs.YtelmpfkfnmaibaaDoor.LNetRow
open Go.RowKit Go.Proofs.YtelmpfkfnmaibaaDoor.QNetReads Go.Proofs.YtelmpfkfnmaibaaDoor.Hnd Go.Proofs.YtelmpfkfnmaibaaDoorW.PrintWords Go.Proofs.YtelmpfkfnmaibaaDoorW.PrintLast  Go.Shelf
set_option linter.unusedVariables false
set_option linter.unusedSimpArgs false
attribute [local go_sem] Oper.semAt_some
def lazaruslaw1_NetRow.f (l0 : List ByteArray) : Option Bool := some true
set_option maxHeartbeats 8000000 in
set_option maxRecDepth 100000 in
theorem lazaruslaw1_NetRow.calls (A0 : Option Addr) (c0 : Nat) (l0 : List ByteArray) (r : Bool) (w : World) (hr0 : Kd.C Kd.string w A0 l0.length l0) (hc0 : l0.length ≤ c0) (h : lazaruslaw1_NetRow.f l0 = some r) (hT : NTabs w) :
    Calls Tryd.prog 3 #[.slice A0 l0.length c0] w fun e w' => e = .returned (.bool r) ∧ Below w.heap.size w w' := by
  obtain rfl : true = r := Option.some.inj h
  clear h
  by_cases h20 : l0.length ≤ 20
  · have d0 : decide ((l0.length : Int) > 20) = false := decide_eq_false (by omega)
    have d0' : decide ((20 : Int) < (l0.length : Int)) = false := decide_eq_false (by omega)
    have d0'' : decide (20 < l0.length) = false := decide_eq_false (by omega)
    have HR := Aside0.mk hr0
    have H20 := Aside0.mk h20
    have HT := Aside0.mk hT
    clear hr0 hc0 hT h20
    go_enter Tryd.func3, Tryd.ntmps3
    go_wp2
    go_loopw [3, 4] (fun u3 u4 wr => ∃ (k : Nat), u4 = .int .i64 (k : Int) ∧ Aside0 (k ≤ l0.length) ∧ Aside0 ((Kd.int .u8).R 5 wr w.heap.size (fun _ => True) u3 (cat (l0.take k))) ∧ Aside0 ((cat (l0.take k)).length ≤ 200 * k) ∧ Aside0 (Below w.heap.size w wr)) (fun u3 u4 _ => l0.length + 1 - (intOf u4).toNat)
    case atStart => exact ⟨0, rfl, ⟨Nat.zero_le _⟩, ⟨Kd.R_nil _ _ _ _ _⟩, ⟨Nat.le_refl _⟩, ⟨Below.refl _ _⟩⟩
    case round =>
      obtain ⟨k, rfl, HK, HV, HL, HB⟩ := hrel
      by_cases hlt : k < l0.length
      · have hd : decide ((k : Int) < (l0.length : Int)) = true := decide_eq_true (by omega)
        have hd2 : decide (k < l0.length) = true := decide_eq_true hlt
        obtain ⟨ad, e1, hlb, y0⟩ := str_at HR.out k hlt
        subst e1
        have x0 := (HB.out.cell (p := ad.add k) (by rw [add_block]; exact hlb)).trans y0
        have hp0 : (0 : Int) ≤ (k : Int) := by omega
        have hp1 : (k : Int) < (l0.length : Int) := by omega
        have hkk : (k : Int) + 1 ≤ 9223372036854775807 := by have := H20.out; omega
        have HLT := Aside0.mk hlt
        obtain ⟨s, hs⟩ : ∃ s, strAt l0 k = s := ⟨_, rfl⟩
        rw [hs] at x0
        have HS := Aside0.mk hs
        clear hlt hlb y0 hs
        by_cases hb : s.size ≤ 100
        · have b1 : decide ((s.size : Int) > 100) = false := decide_eq_false (by omega)
          have b1' : decide ((100 : Int) < (s.size : Int)) = false := decide_eq_false (by omega)
          have b1'' : decide (100 < s.size) = false := decide_eq_false (by omega)
          have HSZ := Aside0.mk hb
          have HTL := Aside0.mk (text_len_le (s := s) (by omega))
          clear hb
          obtain ⟨xs, hxs⟩ : ∃ xs, cat (l0.take k) = xs := ⟨_, rfl⟩
          rw [hxs] at HV HL
          have HXS := Aside0.mk hxs
          clear hxs
          go_wp2_with (first
            | ((with_reducible refine gate_builtin (b := .append) (xs := #[.tmp 24, .tmp 29]) rfl ?_); at_builtin; refine Kd.R_append_rows (Kd.int .u8) (w0 := w) w.heap.size rfl (.tmp 24) (.tmp 29) 23 5 (.int .u8 0) 1 rfl Tryd.underlying23 info5 rfl (by decide) (by omega) u3 xs (NT.text (strL s)) _ _ _ (fun _ => True) (fun _ => False) rfl rfl ?aO ?aR (fun _ _ h => h) (fun _ h => h.elim) (fun _ _ => trivial) B1.out B1.out.size ?aL ?_; (case aR => exact C1.out); (case aO => exact V1.out); (case aL => have := HL.out; have := HTL.out; have := HLT.out; have := H20.out; have := HSZ.out; omega); intro v5 w5 ho hb hg hat; have R5 := Aside0.mk ho; have B5 := Aside0.mk hb; clear ho hb hg hat)
            | (go_at_call 8; refine (text_c s (by have := HSZ.out; omega) wr (HT.out.on HB.out)).mono ?_; rintro e w1 ⟨v1, rfl, hR, hB⟩; (obtain ⟨A1, c1, rfl, hl1, hC1, hp1', hm1⟩ := R_plain hR); have C1 := Aside0.mk hC1; have V1 := Aside0.mk (Kd.R_below HV.out hB); have B1 := Aside0.mk (HB.out.trans (hB.mono HB.out.size)); clear hR hB hl1 hC1 hp1' hm1))
          all_goals exact ⟨⟨k + 1, by go_num, ⟨by have := HLT.out; omega⟩, ⟨by rw [take_at HLT.out, HS.out, cat_snoc, HXS.out]; exact R5.out⟩, ⟨by rw [take_at HLT.out, HS.out, cat_snoc, HXS.out, List.length_append]; have := HL.out; have := HTL.out; have := HSZ.out; omega⟩, B5⟩, by have := HLT.out; simp [intOf]; omega⟩
        · have b1 : decide ((s.size : Int) > 100) = true := decide_eq_true (by omega)
          have b1' : decide ((100 : Int) < (s.size : Int)) = true := decide_eq_true (by omega)
          have b1'' : decide (100 < s.size) = true := decide_eq_true (by omega)
          clear hb
          go_wp2
          go_ret
          exact ⟨rfl, HB.out⟩
      · obtain rfl : k = l0.length := by have := HK.out; omega
        have hd : decide ((l0.length : Int) < (l0.length : Int)) = false := decide_eq_false (by omega)
        have hd2 : decide (l0.length < l0.length) = false := decide_eq_false (by omega)
        have HV2 : Aside0 ((Kd.int .u8).R 5 wr w.heap.size (fun _ => True) u3 (cat l0)) := ⟨by have := HV.out; rwa [List.take_length] at this⟩
        have HL2 : Aside0 ((cat l0).length ≤ 200 * l0.length) := ⟨by have := HL.out; rwa [List.take_length] at this⟩
        clear hlt HV HL
        have hv := HV2.out
        obtain ⟨A1, c1, rfl, hl1, hC1, hp1, hm1⟩ := R_plain hv
        have C1 := Aside0.mk hC1
        have L1 := Aside0.mk hl1
        clear hv hl1 hC1 hp1 hm1
        go_wp2_with (go_at_call 9; refine (new_c C1.out L1.out (cat_bytes l0) (by have := HL2.out; have := H20.out; omega)).mono ?_; rintro e w1 ⟨g, rfl, hg, hN, hB⟩; have N1 := Aside0.mk hN; have B1 := Aside0.mk (HB.out.trans (hB.mono HB.out.size)); have G1 := Aside0.mk (Nat.le_trans HB.out.size hg); clear hg hN hB)
        have HN0 : Aside0 (NR 47 True w1 [g] g (cat (l0.drop 0))) := ⟨by rw [List.drop_zero]; exact N1.out⟩
        have HL0 : Aside0 ((cat (l0.drop 0)).length ≤ 4000) := ⟨by rw [List.drop_zero]; have := HL2.out; have := H20.out; omega⟩
        clear HV2 HL2 C1 L1 N1
        go_loopw [6] (fun u6 wr => ∃ (k : Nat), u6 = .int .i64 (k : Int) ∧ Aside0 (k ≤ l0.length) ∧ Aside0 (NR 47 True wr [g] g (cat (l0.drop k))) ∧ Aside0 ((cat (l0.drop k)).length ≤ 4000) ∧ Aside0 (Below w.heap.size w wr)) (fun u6 _ => l0.length + 1 - (intOf u6).toNat)
        case atStart => exact ⟨0, rfl, ⟨Nat.zero_le _⟩, HN0, HL0, B1⟩
        case round =>
          obtain ⟨k, rfl, HK', HN, HL, HB'⟩ := hrel
          by_cases hlt : k < l0.length
          · have hd : decide ((k : Int) < (l0.length : Int)) = true := decide_eq_true (by omega)
            have hd2 : decide (k < l0.length) = true := decide_eq_true hlt
            obtain ⟨ad, e1, hlb, y0⟩ := str_at HR.out k hlt
            subst e1
            have X0 := Aside0.mk ((HB'.out.cell (p := ad.add k) (by rw [add_block]; exact hlb)).trans y0)
            have HAD := Aside0.mk hlb
            have hp0 : (0 : Int) ≤ (k : Int) := by omega
            have hp1 : (k : Int) < (l0.length : Int) := by omega
            have hkk : (k : Int) + 1 ≤ 9223372036854775807 := by have := H20.out; omega
            have HLT := Aside0.mk hlt
            have hn := HN.out
            have hl := HL.out
            rw [drop_at hlt, cat_cons] at hn hl
            obtain ⟨s, hs⟩ : ∃ s, strAt l0 k = s := ⟨_, rfl⟩
            have hx := X0.out
            rw [hs] at hn hl hx
            have HX := Aside0.mk hx
            have hsl : (strL s).length ≤ 1099511627776 := by
              rw [List.length_append] at hl
              unfold NT.text at hl
              rw [List.length_append] at hl
              omega
            have HTT := Aside0.mk (tT_text (s := strL s) (t := cat (l0.drop (k + 1))) hsl)
            have HLN : Aside0 ((cat (l0.drop (k + 1))).length ≤ 4000) := ⟨by rw [List.length_append] at hl; omega⟩
            have HNN := Aside0.mk hn
            have HLL : Aside0 ((NT.text (strL s) ++ cat (l0.drop (k + 1))).length ≤ 1099511627776) := ⟨by omega⟩
            clear hlt hlb y0 hs hn hl hx hsl
            go_wp2_with (go_at_call 10; refine (rtext_c HNN.out (HT.out.on HB'.out) HLL.out).mono ?_; rw [HTT.out]; unfold TextPost; dsimp only; rw [List.drop_left, strOf_strL]; rintro e w2 ⟨rfl, hN, hK⟩; have N2 := Aside0.mk hN; have hb2 := hK.below HB'.out HB'.out.size (fun k hk => by rw [hk]; exact G1.out); have B2 := Aside0.mk hb2; have x2 := (hb2.cell (p := ad.add k) (by rw [add_block]; exact HAD.out)).trans ((HB'.out.cell (p := ad.add k) (by rw [add_block]; exact HAD.out)).symm.trans HX.out); clear hN hK hb2)
            all_goals exact ⟨⟨k + 1, by go_num, ⟨by have := HLT.out; omega⟩, N2, HLN, B2⟩, by have := HLT.out; simp [intOf]; omega⟩
          · obtain rfl : k = l0.length := by have := HK'.out; omega
            have hd : decide ((l0.length : Int) < (l0.length : Int)) = false := decide_eq_false (by omega)
            have hd2 : decide (l0.length < l0.length) = false := decide_eq_false (by omega)
            have N3 : Aside0 (NR 47 True wr [g] g []) := ⟨by have := HN.out; rwa [List.drop_length] at this⟩
            clear hlt
            go_wp2_with (first
              | (go_at_call 12; refine (known1_any _ (HT.out.on HB'.out)).mono ?_; rintro e w9 ⟨rfl, hB⟩; have B9 := Aside0.mk (HB'.out.trans (hB.mono HB'.out.size)); clear hB)
              | (go_at_call 11; refine (left_c N3.out).mono ?_; rintro e w8 ⟨rfl, rfl⟩))
            go_ret
            exact ⟨rfl, B9.out⟩
  · have d0 : decide ((l0.length : Int) > 20) = true := decide_eq_true (by omega)
    have d0' : decide ((20 : Int) < (l0.length : Int)) = true := decide_eq_true (by omega)
    have d0'' : decide (20 < l0.length) = true := decide_eq_true (by omega)
    clear hr0 hc0 h20
    go_enter Tryd.func3, Tryd.ntmps3
    go_wp2
    go_ret
    exact ⟨rfl, Below.refl _ _⟩
end Go.Proofs.YtelmpfkfnmaibaaDoor.LNetRow
