/- Contracts of the calls, by hand. -/
import Derived.Test.YtkicekddkgehoaaQSlotLastx1
import Derived.Test.YtkicekddkgehoaaSpan1
namespace Go.Proofs.Ytkicekddkgehoaa.Hnd
open Go.RowKit Go.Proofs.Ytkicekddkgehoaa.QSlotLast Go.Proofs.YtkicekddkgehoaaW.PrintWords Go.Proofs.YtkicekddkgehoaaW.PrintLast Go.Proofs.YtkicekddkgehoaaW.Dk 
set_option linter.unusedVariables false
set_option linter.unusedSimpArgs false
attribute [local go_sem] Oper.semAt_some
theorem infoU8 : (Try.prog.info? 5).map (fun i => (i.zero, i.size, i.bytes)) = some (some (.int .u8 0), 1, 1) := by kernel_rfl
set_option maxHeartbeats 2000000 in
set_option maxRecDepth 100000 in
theorem grow_any (n : Nat) (h0 : 0 < n) (hn : n < 1099511627776) (w : World) :
    Calls Try.prog 56 #[.slice none 0 0, .int .i64 (n : Int)] w fun e w' => ∃ v0, e = .returned v0 ∧ (Kd.int .u8).R 5 w' w.heap.size (fun _ => True) v0 [] ∧ Below w.heap.size w w' := by
  have hd0 : decide ((n : Int) < 0) = false := decide_eq_false (by omega)
  have hd1 : decide ((n : Int) > 0) = true := decide_eq_true (by omega)
  have hd2 : decide ((0 : Int) < (n : Int)) = true := decide_eq_true (by omega)
  have hd3 : decide (0 < n) = true := decide_eq_true h0
  have hp1 : (n : Int) ≤ 9223372036854775807 := by omega
  have HN := Aside0.mk hn
  have H0 := Aside0.mk h0
  clear hn h0
  go_enter Try.func56, Try.ntmps56
  go_wp2_with ((with_reducible refine gate_builtin (b := .append) (xs := #[.tmp 20, .tmp 21]) rfl ?_); at_builtin; refine Kd.R_append_zeros (Kd.int .u8) (w0 := w) w.heap.size rfl (.tmp 20) (.tmp 21) 22 3 5 (.int .u8 0) 1 rfl Try.underlying22 Try.underlying3 infoU8 rfl (by decide) (by decide) (.slice none 0 0) [] 0 (n : Int) (fun _ => True) rfl rfl rfl (fun _ _ => trivial) (Kd.R_nil _ _ _ _ _) (by omega) (Below.refl _ _) (Nat.le_refl _) (by have := HN.out; simp <;> omega) ?_; intro v1 w1 ho hb hg hat; (obtain ⟨q, c, hv, hlc⟩ := Kd.own_some ho (by have := H0.out; simp <;> omega)); subst hv; (have hlc0 : (0 : Int) ≤ (c : Int) := by omega); have HO := Aside0.mk (Kd.R_take (m := 0) ho (Nat.zero_le _)); have HB := Aside0.mk hb; clear ho hb hg hat hlc)
  go_ret
  exact ⟨_, rfl, HO.out, HB.out⟩
def tot (ls : List (List Int)) : Nat := ls.flatten.length
theorem tot_take (ls : List (List Int)) (k : Nat) (hk : k < ls.length) : (ls.take (k + 1)).flatten = (ls.take k).flatten ++ ls.getD k [] := by
  rw [List.take_add_one, List.getElem?_eq_getElem hk, List.flatten_append, List.getD_eq_getElem?_getD, List.getElem?_eq_getElem hk]
  simp
theorem tot_le (ls : List (List Int)) (k : Nat) : (ls.take k).flatten.length ≤ ls.flatten.length := by
  conv => rhs; rw [← List.take_append_drop k ls, List.flatten_append, List.length_append]
  omega
set_option maxHeartbeats 4000000 in
set_option maxRecDepth 100000 in
theorem concat_any (A : Option Addr) (c : Nat) (ls : List (List Int)) (h0 : 0 < ls.flatten.length) (hn : ls.flatten.length < 1099511627776) (w : World) (hr : Kd.C (Kd.slice 5 (Kd.int .u8)) w A ls.length ls) (hc : ls.length ≤ c) :
    Calls Try.prog 50 #[.slice A ls.length c] w fun e w' => ∃ v0, e = .returned v0 ∧ (Kd.int .u8).R 5 w' w.heap.size (fun _ => True) v0 ls.flatten ∧ Below w.heap.size w w' := by
  have HR := Aside0.mk hr
  have HN := Aside0.mk hn
  have H0 := Aside0.mk h0
  clear hr hn h0 hc
  go_enter Try.func50, Try.ntmps50
  go_wp2
  go_loopw [3, 11] (fun u3 u11 wr => wr = w ∧ ∃ k : Nat, u11 = .int .i64 (k : Int) ∧ Aside0 (k ≤ ls.length) ∧ u3 = .int .i64 (((ls.take k).flatten.length : Nat) : Int)) (fun u3 u11 _ => ls.length + 1 - (intOf u11).toNat)
  case atStart => exact ⟨rfl, 0, rfl, ⟨Nat.zero_le _⟩, by simp⟩
  case round =>
    obtain ⟨rfl, k, rfl, HK, rfl⟩ := hrel
    by_cases hlt : k < ls.length
    · have hd : decide ((k : Int) < (ls.length : Int)) = true := decide_eq_true (by omega)
      have hd2 : decide (k < ls.length) = true := decide_eq_true hlt
      obtain ⟨ad, A1, c1, e1, hx, hl, hC⟩ := at_L3 HR.out (k : Int) (by omega) (by omega)
      subst e1
      have hrd : rd_L3 ls (k : Int) = ls.getD k [] := rfl
      rw [hrd, Int.toNat_natCast] at hx
      have ht := tot_take ls k hlt
      have hle := tot_le ls (k + 1)
      rw [ht, List.length_append] at hle
      have hp0 : (0 : Int) ≤ (k : Int) := by omega
      have hp1 : (k : Int) < (ls.length : Int) := by omega
      have hp2 : (k : Int) + 1 ≤ 9223372036854775807 := by have := HR.out.2.1; omega
      have hp3 : (((ls.take k).flatten.length : Nat) : Int) + ((ls.getD k []).length : Int) ≤ 9223372036854775807 := by have := HN.out; omega
      have HT : Aside0 (((ls.take (k + 1)).flatten.length : Nat) = (ls.take k).flatten.length + (ls.getD k []).length) := ⟨by rw [ht, List.length_append]⟩
      generalize (ls.getD k []).length = m at *
      generalize (ls.take k).flatten.length = t at *
      have hp4 : decide (((t : Int) + (m : Int)) < 0) = false := decide_eq_false (by omega)
      have hp5 : (0 : Int) ≤ (t : Int) + (m : Int) := by omega
      have HLT := Aside0.mk hlt
      clear hlt hle ht hrd hl hC
      go_wp2
      all_goals exact ⟨⟨by first | rfl | trivial, k + 1, by go_num, ⟨by have := HLT.out; omega⟩, by rw [HT.out]; go_num⟩, by have := HLT.out; simp [intOf]; omega⟩
    · obtain rfl : k = ls.length := by have := HK.out; omega
      have hd : decide ((ls.length : Int) < (ls.length : Int)) = false := decide_eq_false (by omega)
      clear hlt
      rw [List.take_length]
      generalize hT : ls.flatten.length = t at HN H0 ⊢
      have HTT := Aside0.mk hT
      clear hT
      obtain ⟨W0, hW0⟩ : ∃ W0, W0 = wr := ⟨_, rfl⟩
      subst hW0
      go_wp2_with (go_at_call 56; refine (grow_any _ H0.out HN.out W0).mono ?_; rintro e w1 ⟨v0, rfl, hR, hB⟩; have R1 := Aside0.mk hR; have B1 := Aside0.mk hB; clear hR hB)
      obtain ⟨v1, hv1⟩ : ∃ v, v = v0 := ⟨_, rfl⟩
      go_loopw [6, 27] (fun u6 u27 wq => ∃ k : Nat, u27 = .int .i64 (k : Int) ∧ Aside0 (k ≤ ls.length) ∧ Aside0 ((Kd.int .u8).R 5 wq W0.heap.size (fun _ => True) u6 (ls.take k).flatten) ∧ Aside0 (Below W0.heap.size W0 wq)) (fun u6 u27 _ => ls.length + 1 - (intOf u27).toNat)
      case atStart => exact ⟨0, rfl, ⟨Nat.zero_le _⟩, R1, B1⟩
      case round =>
        obtain ⟨k, rfl, HK, HV, HB⟩ := hrel
        by_cases hlt : k < ls.length
        · have hd : decide ((k : Int) < (ls.length : Int)) = true := decide_eq_true (by omega)
          have hd2 : decide (k < ls.length) = true := decide_eq_true hlt
          have HRq := Kd.C_below HR.out HB.out
          obtain ⟨ad, A1, c1, e1, hx, hl, hC⟩ := at_L3 HRq (k : Int) (by omega) (by omega)
          subst e1
          have hrd : rd_L3 ls (k : Int) = ls.getD k [] := rfl
          rw [hrd] at hx hl hC
          rw [Int.toNat_natCast] at hx
          have HC := Aside0.mk hC
          have ht := tot_take ls k hlt
          have hle := tot_le ls (k + 1)
          rw [ht, List.length_append] at hle
          have HLE : Aside0 (((ls.take k).flatten.length + (ls.getD k []).length) * 1 ≤ 140737488355328) := ⟨by have := HN.out; have := HTT.out; omega⟩
          have HT := Aside0.mk ht
          have hp0 : (0 : Int) ≤ (k : Int) := by omega
          have hp1 : (k : Int) < (ls.length : Int) := by omega
          have hp2 : (k : Int) + 1 ≤ 9223372036854775807 := by have := HR.out.2.1; omega
          have HLT := Aside0.mk hlt
          clear hlt hle ht hrd hl hC HRq
          go_wp2_with ((with_reducible refine gate_builtin (b := .append) (xs := #[.tmp 31, .tmp 32]) rfl ?_); at_builtin; go_must (refine Kd.R_append_rows (Kd.int .u8) (w0 := W0) W0.heap.size rfl (.tmp 31) (.tmp 32) 22 5 (.int .u8 0) 1 rfl Try.underlying22 infoU8 rfl (by decide) (by decide) _ (ls.take k).flatten (ls.getD k []) _ _ _ (fun _ => True) (fun _ => False) rfl rfl HV.out HC.out (fun _ _ h => h) (fun _ h => h.elim) (fun _ _ => trivial) HB.out HB.out.size HLE.out ?_; intro v3 w3 ho hb hg hat; rw [← HT.out] at ho; have HO3 := Aside0.mk ho; have HB3 := Aside0.mk hb; clear ho hb hg hat))
          all_goals exact ⟨⟨k + 1, by go_num, ⟨by have := HLT.out; omega⟩, HO3, HB3⟩, by have := HLT.out; simp [intOf]; omega⟩
        · obtain rfl : k = ls.length := by have := HK.out; omega
          have hd : decide ((ls.length : Int) < (ls.length : Int)) = false := decide_eq_false (by omega)
          have HV2 := HV.out
          rw [List.take_length] at HV2
          have HV3 := Aside0.mk HV2
          clear hlt HV2
          go_wp2
          go_ret
          exact ⟨_, rfl, HV3.out, HB.out⟩
end Go.Proofs.Ytkicekddkgehoaa.Hnd
