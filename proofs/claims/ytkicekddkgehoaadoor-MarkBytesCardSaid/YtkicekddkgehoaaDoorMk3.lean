/- Contracts of the calls, by hand. -/
import Derived.Test.YtkicekddkgehoaaDoorQMarkBytesx2
import Derived.Test.YtkicekddkgehoaaDoorMk2
import Derived.RangeFuncNested
import Derived.RangeFuncBound
import Derived.RangeFuncCalls
import Derived.RangeFuncLeaves
import Derived.RangeFuncBox
import Derived.Shelf.Abstract
import Derived.Shelf.RegionOpen
import Derived.OwnWalkIn
import Derived.TacticsInMore
import Derived.LoopNIn
import Derived.LoopIn
import Derived.Sort.QuietIn
import Derived.Sort.CutIn
import Derived.Stop.RegionWithIn
import Derived.StillTailTactics
import Derived.Shelf.Strconv.AppendIntPublic10
import Derived.Shelf.Strconv.ErrVarParseInt
import Derived.Shelf.Bytes.IndexByte
import Derived.Lib.ItoaLen
import Derived.Lib.ParseIntBTie
import Derived.Lib.AtoiBound
import Derived.Deep.Upon
namespace Go.Proofs.YtkicekddkgehoaaDoor.Hnd
open Go.RowKit Go.Proofs.YtkicekddkgehoaaDoor.QMarkBytes Go.Proofs.YtkicekddkgehoaaDoorW.PrintWords Go.Proofs.YtkicekddkgehoaaDoorW.PrintLast  Go.Shelf
set_option linter.unusedVariables false
set_option linter.unusedSimpArgs false
attribute [local go_sem] Oper.semAt_some
/-! slices.Grow of nil, slices.Concat. -/
theorem R_none {W : World} {base : Nat} {v : Value} {xs : List Int} (h : (Kd.int .u8).R 5 W base (fun _ => True) v xs) : ∀ c g, v = .slice (some ⟨g, 0, none⟩) xs.length c → (Kd.int .u8).R 5 W base (fun _ => True) (.slice (some ⟨g, 0, none⟩) 0 c) [] := fun c g e => by
  subst e
  have ho := Kd.own_of_R h
  rcases ho.2 with ⟨e, _⟩ | ⟨g', cap, cur, e, h1, h2, h3, h4, h5, h6⟩
  · cases e
  · injection e with e1 e2 e3
    injection e1 with e1
    injection e1 with e1 _ _
    subst e1 e3
    exact Kd.R_of_own (enc := Value.int .u8) ⟨rfl, .inr ⟨g, c, cur, rfl, h1, h2, Nat.zero_le _, h4, h5, by simp [encs]⟩⟩ (fun _ _ => trivial)
set_option maxHeartbeats 2000000 in
set_option maxRecDepth 100000 in
theorem grow_c (n : Nat) (hn : n ≤ 1099511627776) (w : World) :
    Calls Tryd.prog 41 #[.slice none 0 0, .int .i64 (n : Int)] w fun e w' => ∃ v, e = .returned v ∧ (Kd.int .u8).R 5 w' w.heap.size (fun _ => True) v [] ∧ Below w.heap.size w w' := by
  have HN := Aside0.mk hn
  have a0 : decide ((n : Int) < 0) = false := decide_eq_false (by omega)
  by_cases h0 : n = 0
  · subst h0
    clear hn
    go_enter Tryd.func41, Tryd.ntmps41
    go_wp2
    go_ret
    exact ⟨_, rfl, Kd.R_nil _ _ _ _ _, Below.refl _ _⟩
  · have a1 : decide ((n : Int) > 0) = true := decide_eq_true (by omega)
    have a1' : decide ((0 : Int) < (n : Int)) = true := decide_eq_true (by omega)
    have a1'' : decide (0 < n) = true := decide_eq_true (by omega)
    have HP : Aside0 (0 < n) := ⟨by omega⟩
    have hwn : wrap64 (n : Int) = (n : Int) := by unfold wrap64; omega
    have hwn2 : IntKind.i64.wrap (n : Int) = (n : Int) := by rw [IntKind.wrap_i64]; omega
    clear hn h0
    go_enter Tryd.func41, Tryd.ntmps41
    go_wp2_with ((with_reducible refine gate_builtin (b := .append) (xs := #[.tmp 20, .tmp 21]) rfl ?_); at_builtin; refine Kd.R_append_zeros (Kd.int .u8) (w0 := w) w.heap.size rfl (.tmp 20) (.tmp 21) 26 3 5 (.int .u8 0) 1 rfl Tryd.underlying26 Tryd.underlying3 info5 rfl (by decide) (by decide) (.slice none 0 0) ([] : List Int) 0 (n : Int) (fun _ => True) rfl rfl rfl (fun _ _ => trivial) (Kd.R_nil _ _ _ _ _) (by omega) (Below.refl _ _) (Nat.le_refl _) (by have := HN.out; simp; omega) ?_; intro v1 w1 hR hB _ _; rw [Int.toNat_natCast, List.nil_append] at hR; (obtain ⟨g, c, e1, h1, h2, -⟩ := Kd.R_form hR (by rw [List.length_replicate]; exact HP.out)); have hN0 := R_none hR c g e1; rw [List.length_replicate] at e1; subst e1; have htk := run_take (some ⟨g, 0, none⟩) c n 0 (Nat.zero_le _); have R1 := Aside0.mk hN0; have B1 := Aside0.mk hB; clear hR hB h1 h2 hN0)
    go_ret
    exact ⟨_, rfl, R1.out, B1.out⟩
theorem row_at {w : World} {A : Option Addr} {n : Nat} {ls : List (List Int)} (h : Kd.C (Kd.slice 5 (Kd.int .u8)) w A n ls) (k : Nat) (hk : k < n) : ∃ ad Ak ck, A = some ad ∧ ad.block < w.heap.size ∧ w.cell? (ad.add k) = some (.slice Ak (ls.getD k []).length ck) ∧ (Kd.int .u8).C w Ak (ls.getD k []).length (ls.getD k []) := by
  have hlt : ∀ ad, A = some ad → ad.block < w.heap.size := fun ad e => by subst e; exact Kd.C_lt h (by omega) (by decide)
  obtain ⟨ad, e, hc⟩ := h.2.2 (by omega)
  have hl : k < ls.length := by rw [h.1]; exact hk
  obtain ⟨cs, h1, ⟨Ak, ck, h2, h5, h6⟩, h3⟩ := hc k _ (List.getElem?_eq_getElem hl)
  have e2 : ls.getD k [] = ls[k] := by rw [List.getD_eq_getElem?_getD, List.getElem?_eq_getElem hl]; rfl
  rw [e2]
  have h4 := h3 0 (.slice Ak ls[k].length ck) (by rw [show cs = [.slice Ak ls[k].length ck] from h2]; rfl)
  rw [Nat.add_zero, show (Kd.slice 5 (Kd.int .u8)).sz = 1 from rfl, Nat.mul_one] at h4
  exact ⟨ad, Ak, ck, e, hlt ad e, h4, h6⟩
theorem flat_at {ls : List (List Int)} {k : Nat} (hk : k < ls.length) : (ls.take (k + 1)).flatten = (ls.take k).flatten ++ ls.getD k [] := by
  rw [List.take_add_one, List.getElem?_eq_getElem hk, List.flatten_append, List.getD_eq_getElem?_getD, List.getElem?_eq_getElem hk]
  simp
theorem flat_le (ls : List (List Int)) (k : Nat) : (ls.take k).flatten.length ≤ ls.flatten.length := by
  conv => rhs; rw [← List.take_append_drop k ls, List.flatten_append, List.length_append]
  exact Nat.le_add_right _ _
def flen (ls : List (List Int)) : Nat := ls.flatten.length
set_option maxHeartbeats 4000000 in
set_option maxRecDepth 100000 in
theorem concat_c {w : World} {A : Option Addr} {c : Nat} {ls : List (List Int)} (hC : Kd.C (Kd.slice 5 (Kd.int .u8)) w A ls.length ls) (hn : ls.length ≤ 1000) (hs : flen ls ≤ 1099511627776) :
    Calls Tryd.prog 22 #[.slice A ls.length c] w fun e w' => ∃ v, e = .returned v ∧ (Kd.int .u8).R 5 w' w.heap.size (fun _ => True) v ls.flatten ∧ Below w.heap.size w w' := by
  have HC := Aside0.mk hC
  have HN := Aside0.mk hn
  have HS := Aside0.mk hs
  clear hC hn hs
  go_enter Tryd.func22, Tryd.ntmps22
  go_wp2
  go_loopw [3, 11] (fun u3 u11 wr => ∃ (k : Nat), u11 = .int .i64 (k : Int) ∧ u3 = .int .i64 (flen (ls.take k) : Int) ∧ w = wr ∧ Aside0 (k ≤ ls.length)) (fun u3 u11 _ => ls.length + 1 - (intOf u11).toNat)
  case atStart => exact ⟨0, rfl, rfl, rfl, ⟨Nat.zero_le _⟩⟩
  case round =>
    obtain ⟨k, rfl, rfl, rfl, HK⟩ := hrel
    by_cases hlt : k < ls.length
    · have hd : decide ((k : Int) < (ls.length : Int)) = true := decide_eq_true (by omega)
      have hd2 : decide (k < ls.length) = true := decide_eq_true hlt
      obtain ⟨ad, Ak, ck, e1, hlb, x0, hCk⟩ := row_at HC.out k hlt
      subst e1
      have hfa := flat_at hlt
      have hfl : flen (ls.take (k + 1)) ≤ flen ls := flat_le ls (k + 1)
      obtain ⟨x, hx⟩ : ∃ x, ls.getD k [] = x := ⟨_, rfl⟩
      rw [hx] at x0 hCk hfa
      obtain ⟨m, hm⟩ : ∃ m, flen (ls.take k) = m := ⟨_, rfl⟩
      have hnn : flen (ls.take (k + 1)) = m + x.length := by unfold flen at hm ⊢; rw [hfa, List.length_append, hm]
      have hml : m + x.length ≤ 1099511627776 := by rw [hnn] at hfl; have := HS.out; omega
      have hnx : (flen (ls.take (k + 1)) : Int) = (m : Int) + (x.length : Int) := by rw [hnn]; omega
      obtain ⟨hw1, hw2⟩ := wrap_two m x.length hml
      have hg0 : decide ((m : Int) + (x.length : Int) < 0) = false := decide_eq_false (by clear hw1 hw2; omega)
      have hp1 : (k : Int) < (ls.length : Int) := by clear hw1 hw2; omega
      have hp0 : (0 : Int) ≤ (k : Int) := by clear hw1 hw2; omega
      have hkk : (k : Int) + 1 ≤ 9223372036854775807 := by have := HN.out; clear hw1 hw2; omega
      have HLT := Aside0.mk hlt
      have HNX := Aside0.mk hnx
      rw [hm]
      clear hlt hlb hCk hfa hfl hx hm hml hnx hnn
      go_wp2
      all_goals exact ⟨⟨k + 1, by go_num, by rw [HNX.out], by first | rfl | trivial, ⟨by have := HLT.out; clear hw1 hw2; omega⟩⟩, by clear hw1 hw2; have := HLT.out; simp [intOf]; omega⟩
    · obtain rfl : k = ls.length := by have := HK.out; omega
      have hd : decide ((ls.length : Int) < (ls.length : Int)) = false := decide_eq_false (by omega)
      have hd2 : decide (ls.length < ls.length) = false := decide_eq_false (by omega)
      rw [List.take_length]
      clear hlt
      go_wp2_with (go_at_call 41; refine (grow_c (flen ls) HS.out w).mono ?_; rintro e w1 ⟨v1, rfl, hR, hB⟩; have R1 := Aside0.mk hR; have B1 := Aside0.mk hB; clear hR hB)
      go_loopw [6, 27] (fun u6 u27 wr => ∃ (k : Nat), u27 = .int .i64 (k : Int) ∧ Aside0 ((Kd.int .u8).R 5 wr w.heap.size (fun _ => True) u6 (ls.take k).flatten) ∧ Aside0 (Below w.heap.size w wr) ∧ Aside0 (k ≤ ls.length)) (fun u6 u27 _ => ls.length + 1 - (intOf u27).toNat)
      case atStart => exact ⟨0, rfl, R1, B1, ⟨Nat.zero_le _⟩⟩
      case round =>
        obtain ⟨k, rfl, HR, HB, HK'⟩ := hrel
        by_cases hlt : k < ls.length
        · have hd : decide ((k : Int) < (ls.length : Int)) = true := decide_eq_true (by omega)
          have hd2 : decide (k < ls.length) = true := decide_eq_true hlt
          obtain ⟨ad, Ak, ck, e1, hlb, x0, hCk⟩ := row_at HC.out k hlt
          subst e1
          have x0 := (HB.out.cell (p := ad.add k) (by rw [add_block]; exact hlb)).trans x0
          have hCk := Kd.C_below hCk HB.out
          have hfa := flat_at hlt
          have hfl : flen (ls.take (k + 1)) ≤ flen ls := flat_le ls (k + 1)
          obtain ⟨x, hx⟩ : ∃ x, ls.getD k [] = x := ⟨_, rfl⟩
          rw [hx] at x0 hCk hfa
          obtain ⟨ys, hys⟩ : ∃ ys, (ls.take k).flatten = ys := ⟨_, rfl⟩
          rw [hys] at hfa HR
          have hml : ys.length + x.length ≤ 1099511627776 := by unfold flen at hfl; rw [hfa, List.length_append] at hfl; have := HS.out; unfold flen at this; omega
          have hp1 : (k : Int) < (ls.length : Int) := by omega
          have hp0 : (0 : Int) ≤ (k : Int) := by omega
          have hkk : (k : Int) + 1 ≤ 9223372036854775807 := by have := HN.out; omega
          have HLT := Aside0.mk hlt
          have HFA := Aside0.mk hfa
          have HML := Aside0.mk hml
          have CK := Aside0.mk hCk
          clear hlt hlb hCk hfa hfl hx hys hml
          go_wp2_with ((with_reducible refine gate_builtin (b := .append) (xs := #[.tmp 31, .tmp 32]) rfl ?_); at_builtin; refine Kd.R_append_rows (Kd.int .u8) (w0 := w) w.heap.size rfl (.tmp 31) (.tmp 32) 26 5 (.int .u8 0) 1 rfl Tryd.underlying26 info5 rfl (by decide) (by omega) u6 ys x _ _ _ (fun _ => True) (fun _ => False) rfl rfl ?aO ?aR (fun _ _ h => h) (fun _ h => h.elim) (fun _ _ => trivial) HB.out HB.out.size ?aL ?_; (case aR => exact CK.out); (case aO => exact HR.out); (case aL => have := HML.out; omega); intro v5 w5 ho hb hg hat; have R5 := Aside0.mk ho; have B5 := Aside0.mk hb; clear ho hb hg hat)
          all_goals exact ⟨⟨k + 1, by go_num, ⟨by rw [HFA.out]; exact R5.out⟩, B5, ⟨by have := HLT.out; omega⟩⟩, by have := HLT.out; simp [intOf]; omega⟩
        · obtain rfl : k = ls.length := by have := HK'.out; omega
          have hd : decide ((ls.length : Int) < (ls.length : Int)) = false := decide_eq_false (by omega)
          have hd2 : decide (ls.length < ls.length) = false := decide_eq_false (by omega)
          have hr := HR.out
          rw [List.take_length] at hr
          have HR2 := Aside0.mk hr
          clear hlt hr
          go_wp2
          go_ret
          exact ⟨_, rfl, HR2.out, HB.out⟩
end Go.Proofs.YtkicekddkgehoaaDoor.Hnd
