/- Contracts of the calls, by hand. -/
import Derived.Test.YtkicekddkgehoaaGreatDoorQMarkPlaysx
import Derived.Test.YtkicekddkgehoaaGreatDoorNetA
import Derived.RangeFuncNested
import Derived.RangeFuncBound
import Derived.RangeFuncCalls
import Derived.RangeFuncLeaves
import Derived.RangeFuncBox
import Derived.Shelf.Abstract
import Derived.Shelf.RegionOpen
import Derived.OwnWalkIn
import Derived.TacticsInMore
import Derived.LoopNIn
import Derived.LoopIn
import Derived.Sort.QuietIn
import Derived.Sort.CutIn
import Derived.Stop.RegionWithIn
import Derived.StillTailTactics
import Derived.Shelf.Strconv.AppendIntPublic10
import Derived.Shelf.Strconv.ErrVarParseInt
import Derived.Shelf.Bytes.IndexByte
import Derived.Lib.ItoaLen
import Derived.Lib.ParseIntBTie
import Derived.Lib.AtoiBound
import Derived.Deep.Upon
namespace Go.Proofs.YtkicekddkgehoaaGreatDoor.Hnd
open Go.RowKit Go.Proofs.YtkicekddkgehoaaGreatDoor.QMarkPlays Go.Proofs.YtkicekddkgehoaaGreatDoorW.PrintWords Go.Proofs.YtkicekddkgehoaaGreatDoorW.PrintLast  Go.Shelf
set_option linter.unusedVariables false
set_option linter.unusedSimpArgs false
set_option linter.unusedVariables false
set_option linter.unusedSimpArgs false
attribute [local go_sem] Oper.semAt_some
/-! Bytes of a text, converted. -/
theorem conv_C (W : World) (s : ByteArray) (hs : s.size ≤ 140737488355328) : (Kd.int .u8).C (Lib.bytesWorld W 5 s) (some ⟨W.heap.size, 0, none⟩) s.size (strL s) :=
  ⟨strL_len s, by omega, fun _ => ⟨_, rfl, fun j p hj => by
    have hl : j < s.size := by
      have := (List.getElem?_eq_some_iff.1 hj).1
      rwa [strL_len] at this
    refine ⟨[.int .u8 p], rfl, rfl, fun i u hu => ?_⟩
    have hi : i = 0 := by have := (List.getElem?_eq_some_iff.1 hu).1; simpa using this
    subst hi
    obtain rfl : Value.int .u8 p = u := by simpa using hu
    rw [show (Kd.int .u8).sz = 1 from rfl, Nat.mul_one, Nat.add_zero, Kd.add_plain2, Nat.zero_add, Lib.bytesWorld_cell W 5 s j hl]
    unfold strL NT.ints at hj
    rw [List.getElem?_map] at hj
    obtain ⟨c, hc, rfl⟩ := Option.map_eq_some_iff.1 hj
    rw [List.getD_eq_getElem?_getD, hc]
    rfl⟩⟩
theorem conv_bytes (s : ByteArray) (W : World) : (convert 9 52 (.string s)).run Tryz.prog W = .ok (.slice (some ⟨W.heap.size, 0, none⟩) s.size (grownCap W s.size 0 5)) (Lib.bytesWorld W 5 s) :=
  Lib.run_convert_string_bytes W 9 52 5 s Tryz.underlying9 Tryz.underlying52 Tryz.underlying5
/-- A Reader of a text's bytes. -/
theorem new_str (w W : World) (s : ByteArray) (hs : s.size ≤ 1099511627776) (hb : Below w.heap.size w W) :
    Calls Tryz.prog 55 #[.slice (some ⟨W.heap.size, 0, none⟩) s.size (grownCap W s.size 0 5)] (Lib.bytesWorld W 5 s) fun e w' => ∃ g, e = .returned (.pointer (some ⟨g, 0, none⟩)) ∧ W.heap.size ≤ g ∧ NR 115 True w' [g] g (strL s) ∧ Below W.heap.size W w' := by
  have hC := conv_C W s (by omega)
  have hl := strL_len s
  rw [← hl] at hC
  have h := new_c (c := grownCap W s.size 0 5) hC (by rw [hl]; exact grownCap_ge W s.size 0 5) (strL_bytes s) (by rw [hl]; omega)
  rw [hl] at h
  exact h.mono fun e w' ⟨g, e1, hg, hR, hB⟩ => ⟨g, e1, Nat.le_trans (Lib.bytesWorld_below W 5 s).size hg, hR, (Lib.bytesWorld_below W 5 s).trans (hB.mono (Lib.bytesWorld_below W 5 s).size)⟩
/-! What is no number. -/
def oddL : List (List Int) := [[], [59], [48, 49, 59], [45, 48, 59], [45, 59], [49], [43, 49, 59], [32, 49, 59], [57, 50, 50, 51, 51, 55, 50, 48, 51, 54, 56, 53, 52, 55, 55, 53, 56, 48, 56, 59], [45, 57, 50, 50, 51, 51, 55, 50, 48, 51, 54, 56, 53, 52, 55, 55, 53, 56, 48, 57, 59], [49, 44], [45, 45, 49, 59], [48, 48, 59]]
theorem tk_of_none {b : List Int} (h : NT.take b = none) : tk b = (0, 0, false) := by unfold tk; rw [h]
theorem odd_a : ∀ b ∈ ([[], [49], [49, 44]] : List (List Int)), NT.take b = none := fun b hb => by
  refine NT.take_none ?_
  revert b
  decide
theorem odd_b : ∀ b ∈ ([[59], [45, 59], [32, 49, 59], [57, 50, 50, 51, 51, 55, 50, 48, 51, 54, 56, 53, 52, 55, 55, 53, 56, 48, 56, 59], [45, 57, 50, 50, 51, 51, 55, 50, 48, 51, 54, 56, 53, 52, 55, 55, 53, 56, 48, 57, 59], [45, 45, 49, 59]] : List (List Int)), NT.take b = none := fun b hb => by
  have h : NT.stop b < b.length ∧ (match Lib.parseIntB 64 (NT.u8s (b.take (NT.stop b))) with | .ok _ => false | _ => true) = true := by
    revert b
    decide +kernel
  refine NT.take_bad h.1 (fun n e => ?_)
  have h2 := h.2
  rw [e] at h2
  cases h2
theorem odd_c (b : List Int) (n : Nat) (hn : n < 10) (h : NT.stop b < b.length) (hp : Lib.parseIntB 64 (NT.u8s (b.take (NT.stop b))) = .ok (n : Int)) (hne : [(48 + n : Int), 59] ≠ b.take (NT.stop b + 1)) : NT.take b = none := by
  rw [NT.take_ok h hp, num_small hn, if_neg hne]
theorem odd_none : ∀ b ∈ oddL, tk b = (0, 0, false) := fun b hb => by
  refine tk_of_none ?_
  unfold oddL at hb
  simp only [List.mem_cons, List.not_mem_nil, or_false] at hb
  rcases hb with rfl | rfl | rfl | rfl | rfl | rfl | rfl | rfl | rfl | rfl | rfl | rfl | rfl
  · exact odd_a _ (by simp)
  · exact odd_b _ (by simp)
  · exact odd_c _ 1 (by decide) (by decide) (by decide +kernel) (by decide)
  · exact odd_c _ 0 (by decide) (by decide) (by decide +kernel) (by decide)
  · exact odd_b _ (by simp)
  · exact odd_a _ (by simp)
  · exact odd_c _ 1 (by decide) (by decide) (by decide +kernel) (by decide)
  · exact odd_b _ (by simp)
  · exact odd_b _ (by simp)
  · exact odd_b _ (by simp)
  · exact odd_a _ (by simp)
  · exact odd_b _ (by simp)
  · exact odd_c _ 0 (by decide) (by decide) (by decide +kernel) (by decide)
theorem least_num : NT.num (-9223372036854775808) = [45, 57, 50, 50, 51, 51, 55, 50, 48, 51, 54, 56, 53, 52, 55, 55, 53, 56, 48, 56, 59] := by decide +kernel
theorem least_take : tk [45, 57, 50, 50, 51, 51, 55, 50, 48, 51, 54, 56, 53, 52, 55, 55, 53, 56, 48, 56, 59] = (-9223372036854775808, 21, true) := by
  have h := NT.take_of (b := [45, 57, 50, 50, 51, 51, 55, 50, 48, 51, 54, 56, 53, 52, 55, 55, 53, 56, 48, 56, 59]) (n := -9223372036854775808) ⟨by decide, by decide⟩ (by rw [least_num]; rfl)
  unfold tk
  rw [h, least_num]
  rfl
attribute [local go_sem] Oper.semAt_some
/-! The document's numbers. -/
theorem str_app (a b : List Int) : strOfNums (a ++ b) = strOfNums a ++ strOfNums b := by
  apply ByteArray.ext
  rw [ByteArray.data_append]
  apply Array.ext'
  rw [Array.toList_append]
  show NT.u8s (a ++ b) = NT.u8s a ++ NT.u8s b
  unfold NT.u8s
  rw [List.map_append]
theorem str_size (a : List Int) : (strOfNums a).size = a.length := by
  have h : (strOfNums a).data.toList.length = a.length := by rw [strOf_data]; exact List.length_map _
  rw [Array.length_toList] at h
  exact h
theorem dec_len {u : Nat} (h : u < 18446744073709551616) : (NT.ints (Lib.decDigits u)).length ≤ 20 := by
  rw [NT.ints_len, Lib.decDigits_length]
  exact Lib.nDigits_le20 u h
theorem digits_f : ∀ (u : Nat), u < 18446744073709551616 → ∀ k : Nat, u < k → lazarusref1_digits.f k (u : Int) = some (strOfNums (NT.ints (Lib.decDigits u))) := by
  intro u
  induction u using Nat.strongRecOn with
  | ind u ih =>
    intro hu k hk
    obtain ⟨k, rfl⟩ : ∃ j, k = j + 1 := ⟨k - 1, by omega⟩
    rw [lazarusref1_digits.f, Option.bind_some]
    have hy : IntKind.u64.wrap (48 + Int.tmod (u : Int) 10) % 256 = ((48 + u % 10 : Nat) : Int) := by
      rw [Int.tmod_eq_emod_of_nonneg (by omega), IntKind.wrap_u64]
      omega
    rw [hy]
    have hone : ∀ x : Nat, x < 256 → NT.ints [UInt8.ofNat x] = [(x : Int)] := fun x hx => by
      show [((UInt8.ofNat x).toNat : Int)] = _
      rw [NT.ofNat_nat hx]
    by_cases h10 : u < 10
    · rw [if_neg (by omega), NT.dec_small h10, hone _ (by omega)]
      rw [show u % 10 = u by omega]
    · rw [if_pos (by omega)]
      have hd : IntKind.u64.wrap (Int.tdiv (u : Int) 10) = ((u / 10 : Nat) : Int) := by
        rw [Int.tdiv_eq_ediv_of_nonneg (by omega), IntKind.wrap_u64]
        omega
      rw [hd, ih (u / 10) (by omega) (by omega) k (by omega), Option.bind_some]
      have hl := dec_len (u := u / 10) (by omega)
      rw [if_pos (by rw [str_size, str_size]; show _ + 1 ≤ _; omega), ← str_app, NT.dec_big h10, NT.ints_app, hone _ (by omega)]
theorem itoa_f (n : Int) (hn : NT.Rng n) : ∃ k, lazarusref1_Itoa.f k n = some (strOfNums (NT.ints (Lib.itoa n))) := by
  obtain ⟨h0, h1⟩ := hn
  by_cases hneg : n < 0
  · obtain ⟨u, rfl⟩ : ∃ u : Nat, n = -(u : Int) := ⟨n.natAbs, by omega⟩
    refine ⟨u + 1, ?_⟩
    unfold lazarusref1_Itoa.f
    rw [if_pos hneg]
    have e : IntKind.u64.wrap (IntKind.u64.wrap (wrap64 (-(wrap64 (-(u : Int) + 1)))) + 1) = (u : Int) := by
      unfold wrap64
      rw [IntKind.wrap_u64, IntKind.wrap_u64]
      omega
    rw [e, digits_f u (by omega) _ (by omega), Option.bind_some]
    have hl := dec_len (u := u) (by omega)
    rw [if_pos (by rw [str_size]; omega), Lib.itoa_neg u (by omega)]
    have e2 : NT.ints (45 :: Lib.decDigits u) = [45] ++ NT.ints (Lib.decDigits u) := rfl
    rw [e2, str_app]
    rfl
  · obtain ⟨u, rfl⟩ : ∃ u : Nat, n = u := ⟨n.toNat, by omega⟩
    refine ⟨u + 1, ?_⟩
    unfold lazarusref1_Itoa.f
    rw [if_neg hneg]
    have e : IntKind.u64.wrap (u : Int) = (u : Int) := by rw [IntKind.wrap_u64]; omega
    rw [e, digits_f u (by omega) _ (by omega), Option.bind_some, Lib.itoa_nonneg]
theorem refitoa_c (n : Int) (hn : NT.Rng n) (w : World) : Calls Tryz.prog 70 #[.int .i64 n] w fun e w' => e = .returned (.string (strOfNums (NT.ints (Lib.itoa n)))) ∧ Below w.heap.size w w' := by
  obtain ⟨k, hk⟩ := itoa_f n hn
  exact lazarusref1_Itoa.calls k n _ w hk
def RefNum (w : World) (n : Int) (e : Ending) (w' : World) : Prop :=
  ∃ W1, Below w.heap.size w W1 ∧ w' = Lib.bytesWorld W1 5 (strOfNums (NT.num n)) ∧ e = .returned (.slice (some ⟨W1.heap.size, 0, none⟩) (strOfNums (NT.num n)).size (grownCap W1 (strOfNums (NT.num n)).size 0 5))
set_option maxHeartbeats 2000000 in
theorem refnum_c (n : Int) (hn : NT.Rng n) (w : World) : Calls Tryz.prog 45 #[.int .i64 n] w (RefNum w n) := by
  have HN := Aside0.mk hn
  have hs : strOfNums (NT.ints (Lib.itoa n)) ++ ⟨#[59]⟩ = strOfNums (NT.num n) := by unfold NT.num; rw [str_app]; rfl
  have hz := itoa_le hn
  obtain ⟨s, hsq⟩ : ∃ s, strOfNums (NT.ints (Lib.itoa n)) = s := ⟨_, rfl⟩
  obtain ⟨t, htq⟩ : ∃ t, strOfNums (NT.num n) = t := ⟨_, rfl⟩
  have hsz : s.size ≤ 21 := by rw [← hsq, str_size]; exact hz
  have HSQ := Aside0.mk hsq
  have HTQ := Aside0.mk htq
  rw [hsq, htq] at hs
  have hcb := conv_bytes t
  have hsz2 : (9223372036854775807 < s.size + 1) = False := eq_false (by omega)
  unfold RefNum
  rw [htq]
  clear hn hz hsq htq hsz
  go_enter Tryz.func45, Tryz.ntmps45
  go_wp2_with (go_at_call 70; refine (refitoa_c n HN.out w).mono ?_; rw [HSQ.out]; rintro e w1 ⟨rfl, hB⟩; have B1 := Aside0.mk hB; clear hB)
  go_ret
  exact ⟨w1, B1.out, rfl, rfl⟩
/-- Of a number's bytes, converted. -/
theorem refnum_row {w w' : World} {n : Int} {e : Ending} (hn : NT.Rng n) (h : RefNum w n e w') : ∃ q c, e = .returned (.slice (some ⟨q, 0, none⟩) (NT.num n).length c) ∧ w.heap.size ≤ q ∧ (NT.num n).length ≤ c ∧ (Kd.int .u8).C w' (some ⟨q, 0, none⟩) (NT.num n).length (NT.num n) ∧ Below w.heap.size w w' := by
  obtain ⟨W1, hB, rfl, rfl⟩ := h
  have hl := num_len_le hn
  have hC := conv_C W1 (strOfNums (NT.num n)) (by rw [str_size]; omega)
  rw [strL_strOf (NT.num_bytes n), str_size] at hC
  refine ⟨W1.heap.size, grownCap W1 (strOfNums (NT.num n)).size 0 5, by rw [str_size], hB.size, ?_, hC, hB.trans ((Lib.bytesWorld_below W1 _ _).mono hB.size)⟩
  have := grownCap_ge W1 (strOfNums (NT.num n)).size 0 5
  rw [str_size] at this ⊢
  exact this
theorem at_byte {w : World} {A : Option Addr} {n : Nat} {xs : List Int} (h : (Kd.int .u8).C w A n xs) (k : Nat) (hk : k < n) : ∃ ad, A = some ad ∧ w.cell? (ad.add k) = some (.int .u8 (xs.getD k 0)) := by
  obtain ⟨ad, e, hc⟩ := h.2.2 (by omega)
  have hl : k < xs.length := by rw [h.1]; exact hk
  obtain ⟨cs, h1, h2, h3⟩ := hc k _ (List.getElem?_eq_getElem hl)
  have h4 := h3 0 (.int .u8 xs[k]) (by rw [show cs = [.int .u8 xs[k]] from h2]; rfl)
  rw [Nat.add_zero, show (Kd.int .u8).sz = 1 from rfl, Nat.mul_one] at h4
  refine ⟨ad, e, ?_⟩
  rw [h4, List.getD_eq_getElem?_getD, List.getElem?_eq_getElem hl]
  rfl
theorem rloop_drop {b : List Int} {j : Nat} (hj : j < b.length) (a : Int) : NT.rloop (b.drop j) j a = if NT.dig (b.getD j 0) = true ∧ j < 21 then NT.rloop (b.drop (j + 1)) (j + 1) (NT.wU (10 * a + (b.getD j 0 - 48))) else a := by
  rw [List.drop_eq_getElem_cons hj, NT.rloop, List.getD_eq_getElem?_getD, List.getElem?_eq_getElem hj]
  rfl
theorem rloop_end {b : List Int} {j : Nat} (hj : ¬ j < b.length) (a : Int) : NT.rloop (b.drop j) j a = a := by
  rw [List.drop_eq_nil_of_le (by omega)]
  rfl
theorem step_u64 (a c p q : Int) (hp : IntKind.u64.wrap (10 * a) = p) (hq : IntKind.u64.wrap (p + (c - 48)) = q) : q = NT.wU (10 * a + (c - 48)) := by
  rw [← hq, ← hp, IntKind.wrap_u64, IntKind.wrap_u64]
  unfold NT.wU
  omega
theorem wU_rng (x : Int) : 0 ≤ NT.wU x ∧ NT.wU x < 18446744073709551616 := by
  unfold NT.wU
  omega
theorem i64_wS (x : Int) : IntKind.i64.wrap x = NT.wS x := by
  rw [IntKind.wrap_i64]
  unfold NT.wS
  omega
theorem w64_wS (x : Int) : wrap64 x = NT.wS x := by
  unfold wrap64 NT.wS
  omega
attribute [local go_sem] Oper.semAt_some
theorem getD_bytes {b : List Int} (h : NBytes b) {j : Nat} (hj : j < b.length) : 0 ≤ b.getD j 0 ∧ b.getD j 0 < 256 := by
  rw [List.getD_eq_getElem?_getD, List.getElem?_eq_getElem hj]
  exact h _ (List.getElem_mem hj)
theorem tk_ref {b : List Int} {v : Int} (hv : NT.rval b = v) : tk b = if (NT.num v).length ≤ b.length ∧ b.take (NT.num v).length = NT.num v then (v, (NT.num v).length, true) else (0, 0, false) := by
  unfold tk
  rw [← NT.rtake_eq, NT.rtake, hv]
  by_cases h : (NT.num v).length ≤ b.length ∧ b.take (NT.num v).length = NT.num v
  · rw [if_pos h, if_pos h]
  · rw [if_neg h, if_neg h]
theorem str_ne {a b : List Int} (ha : NBytes a) (hb : NBytes b) (h : a ≠ b) : strOfNums a ≠ strOfNums b := fun e => h (by
  have := congrArg strL e
  rwa [strL_strOf ha, strL_strOf hb] at this)
theorem at_byte' {w : World} {ad : Addr} {n : Nat} {xs : List Int} (h : (Kd.int .u8).C w (some ad) n xs) (k : Nat) (hk : k < n) : w.cell? (ad.add k) = some (.int .u8 (xs.getD k 0)) := by
  obtain ⟨ad2, e, h2⟩ := at_byte h k hk
  injection e with e
  subst e
  exact h2
theorem list_ne {a b : List Int} (ha : NBytes a) (hb : NBytes b) (h : a ≠ b) : ((strOfNums a).toList == (strOfNums b).toList) = false := by
  rw [Lib.strOfNums_toList, Lib.strOfNums_toList, beq_eq_false_iff_ne]
  intro e
  apply h
  have := congrArg NT.ints e
  rwa [show NT.ints (Lib.bytesOf a) = a from NT.ints_u8s ha, show NT.ints (Lib.bytesOf b) = b from NT.ints_u8s hb] at this
def RNPost (W : World) (bad : List Nat) (g : Nat) (b : List Int) (r : Int × Nat × Bool) (e : Ending) (w' : World) : Prop :=
  e = .returned (.tuple #[.int .i64 r.1, .bool r.2.2]) ∧ NR 100 False w' bad g (b.drop r.2.1) ∧ KeptB (fun k => k = g) W w'
set_option maxHeartbeats 8000000 in
set_option maxRecDepth 100000 in
theorem refrnum_c {W : World} {bad : List Nat} {g : Nat} {b : List Int} (h : NR 100 False W bad g b) :
    Calls Tryz.prog 62 #[.pointer (some ⟨g, 0, none⟩)] W (RNPost W bad g b (tk b)) := by
  have HW := Aside0.mk h
  obtain ⟨A, c, h1, h2, h3, h4, h5, h6, h7⟩ := h
  obtain ⟨v, hv⟩ : ∃ v, NT.rval b = v := ⟨_, rfl⟩
  have htk := tk_ref hv
  obtain ⟨nm, hnm⟩ : ∃ nm, NT.num v = nm := ⟨_, rfl⟩
  obtain ⟨m, hm⟩ : ∃ m, nm.length = m := ⟨_, rfl⟩
  rw [hnm, hm] at htk
  have HTK := Aside0.mk htk
  have HNM := Aside0.mk hnm
  have HMQ : Aside0 ((NT.num v).length = m) := ⟨by rw [hnm, hm]⟩
  rcases A with _ | ad
  · have hb0 : b = [] := Kd.C_none h4
    have hvv : NT.wS (NT.rloop (b.drop 0) 0 0) = v := by rw [← hv, hb0]; rfl
    obtain ⟨R, hR⟩ : ∃ R, NT.rloop (b.drop 0) 0 0 = R := ⟨_, rfl⟩
    rw [hR] at hvv
    have HR0 := Aside0.mk hR
    have HV0 : Aside0 (∀ a, a = R → NT.wS a = v) := ⟨fun a e => by rw [e]; exact hvv⟩
    have HE0 : Aside0 (b.length = 0) := ⟨by rw [hb0]; rfl⟩
    have HI0 : Aside0 (0 ≤ b.length) := ⟨Nat.zero_le _⟩
    have hvl : decide ((b.length : Int) > 0) = false := by rw [hb0]; rfl
    have hvl2 : decide ((0 : Int) < (b.length : Int)) = false := by rw [hb0]; rfl
    have hvl3 : decide (0 < b.length) = false := by rw [hb0]; rfl
    have hlt0 : g < W.heap.size := (Array.getElem?_eq_some_iff.1 h1).1
    have z : W.cell? ⟨g, 0, none⟩ = some (.slice none b.length c) := (blk_cell h1 0).trans rfl
    have HLT := Aside0.mk hlt0
    have H1 := Aside0.mk h1
    have H2 := Aside0.mk h2
    have H3 := Aside0.mk h3
    have H4 := Aside0.mk h4
    have H5 := Aside0.mk h5
    have H7 := Aside0.mk h7
    clear hvv hR h1 h2 h3 h4 h5 h6 h7 hv htk hnm hm hlt0 hb0
    go_enter Tryz.func62, Tryz.ntmps62
    go_wp2
    go_loopw [4, 6] (fun u4 u6 wr => ∃ (j : Nat) (a : Int), u4 = .int .i64 (j : Int) ∧ u6 = .int .u64 a ∧ W = wr ∧ Aside0 (j ≤ b.length) ∧ Aside0 (NT.rloop (b.drop j) j a = R) ∧ Aside0 (0 ≤ a ∧ a < 18446744073709551616)) (fun u4 u6 _ => b.length + 1 - (intOf u4).toNat)
    case atStart => exact ⟨0, 0, rfl, rfl, rfl, HI0, HR0, ⟨by decide, by decide⟩⟩
    case round =>
      obtain ⟨j, a, rfl, rfl, rfl, HJ, HRL, HA⟩ := hrel
      by_cases hlt : j < b.length
      · exact absurd hlt (by rw [HE0.out]; exact Nat.not_lt_zero _)
      · have hd : decide ((j : Int) < (b.length : Int)) = false := decide_eq_false (by omega)
        have hd2 : decide (j < b.length) = false := decide_eq_false hlt
        have hra := (rloop_end hlt a).symm.trans HRL.out
        clear hlt HRL HA
        have hv2 : IntKind.i64.wrap a = NT.wS a := i64_wS a
        have hvv : NT.wS a = v := HV0.out a hra
        have HV := Aside0.mk (show NT.Rng v from hvv ▸ NT.wS_rng _)
        rw [hvv] at hv2
        clear hra
        by_cases hm : m ≤ b.length
        · have ht := run_take none c b.length m (Nat.le_trans hm H3.out)
          have HC1 := Aside0.mk (take_C H4.out hm)
          have hd1 : decide ((m : Int) > (b.length : Int)) = false := decide_eq_false (by omega)
          have hd1' : decide ((b.length : Int) < (m : Int)) = false := decide_eq_false (by omega)
          have hd1'' : decide (b.length < m) = false := decide_eq_false (by omega)
          have HM := Aside0.mk hm
          have hdr := run_drop none c b.length m hm
          go_upto_region 12 with (go_at_call 45; refine (refnum_c v HV.out W).mono ?_; rintro e w2 hN; (obtain ⟨q, c2, he, hq, hlc, hC2, hB⟩ := refnum_row HV.out hN); rw [HMQ.out] at he hlc hC2; subst he; have B2 := Aside0.mk hB; have C2 := Aside0.mk hC2; (have hh := (hB.block g HLT.out).trans H1.out); have z2 : w2.cell? ⟨g, 0, none⟩ = some (.slice none b.length c) := (blk_cell hh 0).trans rfl; have fz := blk_frozen hh 0; have HH := Aside0.mk hh; have Z2 := Aside0.mk z2; have D1 := Aside0.mk (Kd.C_drew (Kd.C_below HC1.out hB)); have D2 := Aside0.mk (Kd.C_drew hC2); clear hN hq hlc hC2 hB hh)
          go_region_held (fun w' => w'.cell? ⟨g, 0, none⟩ = some (.slice none b.length c) ∧ (convert 52 9 (.slice none m c)).run Tryz.prog w' = .ok (.string (strOfNums (b.take m))) w' ∧ (convert 52 9 (.slice (some ⟨q, 0, none⟩) m c2)).run Tryz.prog w' = .ok (.string (strOfNums nm)) w') (exact ⟨Z2.out, conv_str D1.out, conv_str (by rw [← HNM.out]; exact D2.out)⟩) (fail)
          have hcut := NR.cut (W := w2) (g := g) (bad := bad) (pl := False) (T := 100) HH.out H2.out H3.out (Kd.C_below H4.out B2.out) H5.out (fun h => h.elim) (fun ad e hp => ⟨(H7.out ad e hp).1, Nat.lt_of_lt_of_le (H7.out ad e hp).2 B2.out.size⟩) m HM.out
          have HCUT := Aside0.mk hcut
          clear hcut
          have HKB := Aside0.mk (KeptB.of_below (B2.out.trans ((below_drew1 (Below.refl w2.heap.size w2)).mono B2.out.size)) (fun k => k = g))
          have HWN : Aside0 (NR 100 False w2.drew bad g b) := ⟨HW.out.after (B2.out.trans ((below_drew1 (Below.refl w2.heap.size w2)).mono B2.out.size))⟩
          by_cases hq2 : b.take m = nm
          · rw [hq2]
            have hse1 : ((strOfNums nm).toList == (strOfNums nm).toList) = true := beq_self_eq_true _
            have hse2 : (!((strOfNums nm).toList == (strOfNums nm).toList)) = false := by rw [hse1]; rfl
            go_wp2
            all_goals first | exact bodyPost_ret (v := .tuple #[.int .i64 v, .bool true]) (by simp [results, Tryz.results62, go_sem]) rfl (by show RNPost W bad g b (tk b) _ _; rw [HTK.out, if_pos ⟨HM.out, hq2⟩]; exact ⟨rfl, HCUT.out.1.after (below_drew1 (Below.refl _ _)), ((KeptB.of_below B2.out _).trans HCUT.out.2).drew⟩) | (exfalso; rename_i hx; first | (rw [hse1] at hx; cases hx; done) | (simp at hx; done) | (simp at hx; exact hse3 hx))
          · have hse1 := list_ne (bytes_take H5.out m) (HNM.out ▸ NT.num_bytes v) hq2
            have hse2 : (!((strOfNums (b.take m)).toList == (strOfNums nm).toList)) = true := by rw [hse1]; rfl
            have hse3 : ¬ (strOfNums (b.take m)).toList = (strOfNums nm).toList := beq_eq_false_iff_ne.1 hse1
            go_wp2
            all_goals first | exact bodyPost_ret (v := .tuple #[.int .i64 0, .bool false]) (by simp [results, Tryz.results62, go_sem]) rfl (by show RNPost W bad g b (tk b) _ _; rw [HTK.out, if_neg (fun h => hq2 h.2)]; exact ⟨rfl, HWN.out, HKB.out⟩) | (exfalso; rename_i hx; first | (rw [hse1] at hx; cases hx; done) | (simp at hx; done) | (simp at hx; exact hse3 hx))
        · have hd1 : decide ((m : Int) > (b.length : Int)) = true := decide_eq_true (by omega)
          have hd1' : decide ((b.length : Int) < (m : Int)) = true := decide_eq_true (by omega)
          have hd1'' : decide (b.length < m) = true := decide_eq_true (by omega)
          have HTK2 : Aside0 (tk b = (0, 0, false)) := ⟨by rw [HTK.out, if_neg (fun h => hm h.1)]⟩
          clear hm
          go_upto_region 12 with (go_at_call 45; refine (refnum_c v HV.out W).mono ?_; rintro e w2 hN; (obtain ⟨q, c2, he, hq, hlc, hC2, hB⟩ := refnum_row HV.out hN); rw [HMQ.out] at he hlc hC2; subst he; have B2 := Aside0.mk hB; (have hh := (hB.block g HLT.out).trans H1.out); have z2 : w2.cell? ⟨g, 0, none⟩ = some (.slice none b.length c) := (blk_cell hh 0).trans rfl; clear hN hq hlc hC2 hB hh)
          go_quiet (first | fail)
          go_wp2
          have HB3 := (B2.out.trans ((pw_below_drewN (Below.refl w2.heap.size w2) nq).mono B2.out.size))
          exact bodyPost_ret (v := .tuple #[.int .i64 0, .bool false]) (by simp [results, Tryz.results62, go_sem]) rfl (by show RNPost W bad g b (tk b) _ _; rw [HTK2.out]; exact ⟨rfl, HW.out.after HB3, KeptB.of_below HB3 _⟩)
  have hlt0 : g < W.heap.size := (Array.getElem?_eq_some_iff.1 h1).1
  have z : W.cell? ⟨g, 0, none⟩ = some (.slice (some ad) b.length c) := (blk_cell h1 0).trans rfl
  have HLT := Aside0.mk hlt0
  have H1 := Aside0.mk h1
  have H2 := Aside0.mk h2
  have H3 := Aside0.mk h3
  have H4 := Aside0.mk h4
  have H5 := Aside0.mk h5
  have H7 := Aside0.mk h7
  by_cases hneg : b.head? = some 45
  · have hvv : NT.wS (-(NT.wS (NT.rloop (b.drop 1) 1 0))) = v := by rw [← hv, NT.rval, if_pos hneg]
    have hpos : 0 < b.length := by
      cases b with
      | nil => cases hneg
      | cons x r => exact Nat.succ_pos _
    have hg45 : b.getD 0 0 = 45 := by
      cases b with
      | nil => cases hneg
      | cons x r =>
        rw [List.head?_cons] at hneg
        injection hneg with e
    obtain ⟨R, hR⟩ : ∃ R, NT.rloop (b.drop 1) 1 0 = R := ⟨_, rfl⟩
    rw [hR] at hvv
    have HR0 := Aside0.mk hR
    have HV0 : Aside0 (∀ a, a = R → NT.wS (-(NT.wS a)) = v) := ⟨fun a e => by rw [e]; exact hvv⟩
    have x0 : W.cell? (ad.add 0) = some (.int .u8 45) := hg45 ▸ at_byte' h4 0 hpos
    have ea : ad.add 0 = ad := by simp [Addr.add]
    have x1 : W.cell? ad = some (.int .u8 45) := by rw [ea] at x0; exact x0
    have g0 : decide ((b.length : Int) > 0) = true := decide_eq_true (by omega)
    have g0' : decide ((0 : Int) < (b.length : Int)) = true := decide_eq_true (by omega)
    have g0'' : (0 : Int) < (b.length : Int) := by omega
    have g1 : decide (0 < b.length) = true := decide_eq_true hpos
    have HI0 : Aside0 (1 ≤ b.length) := ⟨hpos⟩
    clear hneg hvv hR h1 h2 h3 h4 h5 h6 h7 hv htk hnm hm hlt0 ea hpos hg45
    go_enter Tryz.func62, Tryz.ntmps62
    go_wp2
    go_loopw [4, 6] (fun u4 u6 wr => ∃ (j : Nat) (a : Int), u4 = .int .i64 (j : Int) ∧ u6 = .int .u64 a ∧ W = wr ∧ Aside0 (j ≤ b.length) ∧ Aside0 (NT.rloop (b.drop j) j a = R) ∧ Aside0 (0 ≤ a ∧ a < 18446744073709551616)) (fun u4 u6 _ => b.length + 1 - (intOf u4).toNat)
    case atStart => exact ⟨1, 0, rfl, rfl, rfl, HI0, HR0, ⟨by decide, by decide⟩⟩
    case round =>
      obtain ⟨j, a, rfl, rfl, rfl, HJ, HRL, HA⟩ := hrel
      by_cases hlt : j < b.length
      · have hd : decide ((j : Int) < (b.length : Int)) = true := decide_eq_true (by omega)
        have hd2 : decide (j < b.length) = true := decide_eq_true hlt
        have x0 := at_byte' H4.out j hlt
        have hrl := rloop_drop hlt a
        rw [HRL.out] at hrl
        have hbr := getD_bytes H5.out hlt
        obtain ⟨ch, hch⟩ : ∃ ch, b.getD j 0 = ch := ⟨_, rfl⟩
        rw [hch] at x0 hrl hbr
        have HLTJ := Aside0.mk hlt
        have hp1 : (j : Int) < (b.length : Int) := by omega
        have hp0 : (0 : Int) ≤ (j : Int) := by omega
        clear hch
        by_cases c1 : 48 ≤ ch
        · have e1 : decide (ch ≥ 48) = true := decide_eq_true c1
          have e1' : decide (48 ≤ ch) = true := decide_eq_true c1
          by_cases c2 : ch ≤ 57
          · have e2 : decide (ch ≤ 57) = true := decide_eq_true c2
            by_cases c3 : j < 21
            · have e3 : decide ((j : Int) < 21) = true := decide_eq_true (by omega)
              have e3' : decide (j < 21) = true := decide_eq_true c3
              rw [if_pos ⟨by unfold NT.dig; rw [e1', e2]; rfl, c3⟩] at hrl
              obtain ⟨p, hp⟩ : ∃ p, IntKind.u64.wrap (10 * a) = p := ⟨_, rfl⟩
              obtain ⟨q, hq⟩ : ∃ q, IntKind.u64.wrap (p + (ch - 48)) = q := ⟨_, rfl⟩
              have hqq := step_u64 a ch p q hp hq
              have hs8 : IntKind.u8.wrap (ch - 48) = ch - 48 := by rw [IntKind.wrap_u8]; omega
              have hs64 : IntKind.u64.wrap (ch - 48) = ch - 48 := by rw [IntKind.wrap_u64]; omega
              rw [← hqq] at hrl
              have HQR : Aside0 (0 ≤ q ∧ q < 18446744073709551616) := ⟨hqq ▸ wU_rng _⟩
              have HRL2 := Aside0.mk hrl.symm
              have hjj : (j : Int) + 1 ≤ 9223372036854775807 := by omega
              clear hqq hrl hbr c1 c2 c3 hlt HRL HA hp0
              go_wp2
              all_goals exact ⟨⟨j + 1, q, by go_num, by first | rfl | trivial, by first | rfl | trivial, ⟨by have := HLTJ.out; omega⟩, HRL2, HQR⟩, by clear hp hq hs8 hs64; have := HLTJ.out; simp [intOf]; omega⟩
            · have e3 : decide ((j : Int) < 21) = false := decide_eq_false (by omega)
              have e3' : decide (j < 21) = false := decide_eq_false c3
              rw [if_neg (fun h => c3 h.2)] at hrl
              have hra := hrl.symm
              clear hrl hbr c1 c2 c3 hlt HRL HA hp0
              have hv2 : IntKind.i64.wrap a = NT.wS a := i64_wS a
              have hv3 : wrap64 (-(NT.wS a)) = NT.wS (-(NT.wS a)) := w64_wS _
              have hv4 : IntKind.i64.wrap (-(NT.wS a)) = NT.wS (-(NT.wS a)) := i64_wS _
              have hvv : NT.wS (-(NT.wS a)) = v := HV0.out a hra
              have HV := Aside0.mk (show NT.Rng v from hvv ▸ NT.wS_rng _)
              rw [hvv] at hv3 hv4
              clear hra
              by_cases hm : m ≤ b.length
              · have ht := run_take (some ad) c b.length m (Nat.le_trans hm H3.out)
                have HC1 := Aside0.mk (take_C H4.out hm)
                have hd1 : decide ((m : Int) > (b.length : Int)) = false := decide_eq_false (by omega)
                have hd1' : decide ((b.length : Int) < (m : Int)) = false := decide_eq_false (by omega)
                have hd1'' : decide (b.length < m) = false := decide_eq_false (by omega)
                have HM := Aside0.mk hm
                have hdr := run_drop (some ad) c b.length m hm
                go_upto_region 12 with (go_at_call 45; refine (refnum_c v HV.out W).mono ?_; rintro e w2 hN; (obtain ⟨q, c2, he, hq, hlc, hC2, hB⟩ := refnum_row HV.out hN); rw [HMQ.out] at he hlc hC2; subst he; have B2 := Aside0.mk hB; have C2 := Aside0.mk hC2; (have hh := (hB.block g HLT.out).trans H1.out); have z2 : w2.cell? ⟨g, 0, none⟩ = some (.slice (some ad) b.length c) := (blk_cell hh 0).trans rfl; have fz := blk_frozen hh 0; have HH := Aside0.mk hh; have Z2 := Aside0.mk z2; have D1 := Aside0.mk (Kd.C_drew (Kd.C_below HC1.out hB)); have D2 := Aside0.mk (Kd.C_drew hC2); clear hN hq hlc hC2 hB hh)
                go_region_held (fun w' => w'.cell? ⟨g, 0, none⟩ = some (.slice (some ad) b.length c) ∧ (convert 52 9 (.slice (some ad) m c)).run Tryz.prog w' = .ok (.string (strOfNums (b.take m))) w' ∧ (convert 52 9 (.slice (some ⟨q, 0, none⟩) m c2)).run Tryz.prog w' = .ok (.string (strOfNums nm)) w') (exact ⟨Z2.out, conv_str D1.out, conv_str (by rw [← HNM.out]; exact D2.out)⟩) (fail)
                have hcut := NR.cut (W := w2) (g := g) (bad := bad) (pl := False) (T := 100) HH.out H2.out H3.out (Kd.C_below H4.out B2.out) H5.out (fun h => h.elim) (fun ad e hp => ⟨(H7.out ad e hp).1, Nat.lt_of_lt_of_le (H7.out ad e hp).2 B2.out.size⟩) m HM.out
                have HCUT := Aside0.mk hcut
                clear hcut
                have HKB := Aside0.mk (KeptB.of_below (B2.out.trans ((below_drew1 (Below.refl w2.heap.size w2)).mono B2.out.size)) (fun k => k = g))
                have HWN : Aside0 (NR 100 False w2.drew bad g b) := ⟨HW.out.after (B2.out.trans ((below_drew1 (Below.refl w2.heap.size w2)).mono B2.out.size))⟩
                by_cases hq2 : b.take m = nm
                · rw [hq2]
                  have hse1 : ((strOfNums nm).toList == (strOfNums nm).toList) = true := beq_self_eq_true _
                  have hse2 : (!((strOfNums nm).toList == (strOfNums nm).toList)) = false := by rw [hse1]; rfl
                  go_wp2
                  all_goals first | exact bodyPost_ret (v := .tuple #[.int .i64 v, .bool true]) (by simp [results, Tryz.results62, go_sem]) rfl (by show RNPost W bad g b (tk b) _ _; rw [HTK.out, if_pos ⟨HM.out, hq2⟩]; exact ⟨rfl, HCUT.out.1.after (below_drew1 (Below.refl _ _)), ((KeptB.of_below B2.out _).trans HCUT.out.2).drew⟩) | (exfalso; rename_i hx; first | (rw [hse1] at hx; cases hx; done) | (simp at hx; done) | (simp at hx; exact hse3 hx))
                · have hse1 := list_ne (bytes_take H5.out m) (HNM.out ▸ NT.num_bytes v) hq2
                  have hse2 : (!((strOfNums (b.take m)).toList == (strOfNums nm).toList)) = true := by rw [hse1]; rfl
                  have hse3 : ¬ (strOfNums (b.take m)).toList = (strOfNums nm).toList := beq_eq_false_iff_ne.1 hse1
                  go_wp2
                  all_goals first | exact bodyPost_ret (v := .tuple #[.int .i64 0, .bool false]) (by simp [results, Tryz.results62, go_sem]) rfl (by show RNPost W bad g b (tk b) _ _; rw [HTK.out, if_neg (fun h => hq2 h.2)]; exact ⟨rfl, HWN.out, HKB.out⟩) | (exfalso; rename_i hx; first | (rw [hse1] at hx; cases hx; done) | (simp at hx; done) | (simp at hx; exact hse3 hx))
              · have hd1 : decide ((m : Int) > (b.length : Int)) = true := decide_eq_true (by omega)
                have hd1' : decide ((b.length : Int) < (m : Int)) = true := decide_eq_true (by omega)
                have hd1'' : decide (b.length < m) = true := decide_eq_true (by omega)
                have HTK2 : Aside0 (tk b = (0, 0, false)) := ⟨by rw [HTK.out, if_neg (fun h => hm h.1)]⟩
                clear hm
                go_upto_region 12 with (go_at_call 45; refine (refnum_c v HV.out W).mono ?_; rintro e w2 hN; (obtain ⟨q, c2, he, hq, hlc, hC2, hB⟩ := refnum_row HV.out hN); rw [HMQ.out] at he hlc hC2; subst he; have B2 := Aside0.mk hB; (have hh := (hB.block g HLT.out).trans H1.out); have z2 : w2.cell? ⟨g, 0, none⟩ = some (.slice (some ad) b.length c) := (blk_cell hh 0).trans rfl; clear hN hq hlc hC2 hB hh)
                go_quiet (first | fail)
                go_wp2
                have HB3 := (B2.out.trans ((pw_below_drewN (Below.refl w2.heap.size w2) nq).mono B2.out.size))
                exact bodyPost_ret (v := .tuple #[.int .i64 0, .bool false]) (by simp [results, Tryz.results62, go_sem]) rfl (by show RNPost W bad g b (tk b) _ _; rw [HTK2.out]; exact ⟨rfl, HW.out.after HB3, KeptB.of_below HB3 _⟩)
          · have e2 : decide (ch ≤ 57) = false := decide_eq_false c2
            rw [if_neg (fun h => by have := h.1; unfold NT.dig at this; rw [e1', e2] at this; cases this)] at hrl
            have hra := hrl.symm
            clear hrl hbr c1 c2 hlt HRL HA hp0
            have hv2 : IntKind.i64.wrap a = NT.wS a := i64_wS a
            have hv3 : wrap64 (-(NT.wS a)) = NT.wS (-(NT.wS a)) := w64_wS _
            have hv4 : IntKind.i64.wrap (-(NT.wS a)) = NT.wS (-(NT.wS a)) := i64_wS _
            have hvv : NT.wS (-(NT.wS a)) = v := HV0.out a hra
            have HV := Aside0.mk (show NT.Rng v from hvv ▸ NT.wS_rng _)
            rw [hvv] at hv3 hv4
            clear hra
            by_cases hm : m ≤ b.length
            · have ht := run_take (some ad) c b.length m (Nat.le_trans hm H3.out)
              have HC1 := Aside0.mk (take_C H4.out hm)
              have hd1 : decide ((m : Int) > (b.length : Int)) = false := decide_eq_false (by omega)
              have hd1' : decide ((b.length : Int) < (m : Int)) = false := decide_eq_false (by omega)
              have hd1'' : decide (b.length < m) = false := decide_eq_false (by omega)
              have HM := Aside0.mk hm
              have hdr := run_drop (some ad) c b.length m hm
              go_upto_region 12 with (go_at_call 45; refine (refnum_c v HV.out W).mono ?_; rintro e w2 hN; (obtain ⟨q, c2, he, hq, hlc, hC2, hB⟩ := refnum_row HV.out hN); rw [HMQ.out] at he hlc hC2; subst he; have B2 := Aside0.mk hB; have C2 := Aside0.mk hC2; (have hh := (hB.block g HLT.out).trans H1.out); have z2 : w2.cell? ⟨g, 0, none⟩ = some (.slice (some ad) b.length c) := (blk_cell hh 0).trans rfl; have fz := blk_frozen hh 0; have HH := Aside0.mk hh; have Z2 := Aside0.mk z2; have D1 := Aside0.mk (Kd.C_drew (Kd.C_below HC1.out hB)); have D2 := Aside0.mk (Kd.C_drew hC2); clear hN hq hlc hC2 hB hh)
              go_region_held (fun w' => w'.cell? ⟨g, 0, none⟩ = some (.slice (some ad) b.length c) ∧ (convert 52 9 (.slice (some ad) m c)).run Tryz.prog w' = .ok (.string (strOfNums (b.take m))) w' ∧ (convert 52 9 (.slice (some ⟨q, 0, none⟩) m c2)).run Tryz.prog w' = .ok (.string (strOfNums nm)) w') (exact ⟨Z2.out, conv_str D1.out, conv_str (by rw [← HNM.out]; exact D2.out)⟩) (fail)
              have hcut := NR.cut (W := w2) (g := g) (bad := bad) (pl := False) (T := 100) HH.out H2.out H3.out (Kd.C_below H4.out B2.out) H5.out (fun h => h.elim) (fun ad e hp => ⟨(H7.out ad e hp).1, Nat.lt_of_lt_of_le (H7.out ad e hp).2 B2.out.size⟩) m HM.out
              have HCUT := Aside0.mk hcut
              clear hcut
              have HKB := Aside0.mk (KeptB.of_below (B2.out.trans ((below_drew1 (Below.refl w2.heap.size w2)).mono B2.out.size)) (fun k => k = g))
              have HWN : Aside0 (NR 100 False w2.drew bad g b) := ⟨HW.out.after (B2.out.trans ((below_drew1 (Below.refl w2.heap.size w2)).mono B2.out.size))⟩
              by_cases hq2 : b.take m = nm
              · rw [hq2]
                have hse1 : ((strOfNums nm).toList == (strOfNums nm).toList) = true := beq_self_eq_true _
                have hse2 : (!((strOfNums nm).toList == (strOfNums nm).toList)) = false := by rw [hse1]; rfl
                go_wp2
                all_goals first | exact bodyPost_ret (v := .tuple #[.int .i64 v, .bool true]) (by simp [results, Tryz.results62, go_sem]) rfl (by show RNPost W bad g b (tk b) _ _; rw [HTK.out, if_pos ⟨HM.out, hq2⟩]; exact ⟨rfl, HCUT.out.1.after (below_drew1 (Below.refl _ _)), ((KeptB.of_below B2.out _).trans HCUT.out.2).drew⟩) | (exfalso; rename_i hx; first | (rw [hse1] at hx; cases hx; done) | (simp at hx; done) | (simp at hx; exact hse3 hx))
              · have hse1 := list_ne (bytes_take H5.out m) (HNM.out ▸ NT.num_bytes v) hq2
                have hse2 : (!((strOfNums (b.take m)).toList == (strOfNums nm).toList)) = true := by rw [hse1]; rfl
                have hse3 : ¬ (strOfNums (b.take m)).toList = (strOfNums nm).toList := beq_eq_false_iff_ne.1 hse1
                go_wp2
                all_goals first | exact bodyPost_ret (v := .tuple #[.int .i64 0, .bool false]) (by simp [results, Tryz.results62, go_sem]) rfl (by show RNPost W bad g b (tk b) _ _; rw [HTK.out, if_neg (fun h => hq2 h.2)]; exact ⟨rfl, HWN.out, HKB.out⟩) | (exfalso; rename_i hx; first | (rw [hse1] at hx; cases hx; done) | (simp at hx; done) | (simp at hx; exact hse3 hx))
            · have hd1 : decide ((m : Int) > (b.length : Int)) = true := decide_eq_true (by omega)
              have hd1' : decide ((b.length : Int) < (m : Int)) = true := decide_eq_true (by omega)
              have hd1'' : decide (b.length < m) = true := decide_eq_true (by omega)
              have HTK2 : Aside0 (tk b = (0, 0, false)) := ⟨by rw [HTK.out, if_neg (fun h => hm h.1)]⟩
              clear hm
              go_upto_region 12 with (go_at_call 45; refine (refnum_c v HV.out W).mono ?_; rintro e w2 hN; (obtain ⟨q, c2, he, hq, hlc, hC2, hB⟩ := refnum_row HV.out hN); rw [HMQ.out] at he hlc hC2; subst he; have B2 := Aside0.mk hB; (have hh := (hB.block g HLT.out).trans H1.out); have z2 : w2.cell? ⟨g, 0, none⟩ = some (.slice (some ad) b.length c) := (blk_cell hh 0).trans rfl; clear hN hq hlc hC2 hB hh)
              go_quiet (first | fail)
              go_wp2
              have HB3 := (B2.out.trans ((pw_below_drewN (Below.refl w2.heap.size w2) nq).mono B2.out.size))
              exact bodyPost_ret (v := .tuple #[.int .i64 0, .bool false]) (by simp [results, Tryz.results62, go_sem]) rfl (by show RNPost W bad g b (tk b) _ _; rw [HTK2.out]; exact ⟨rfl, HW.out.after HB3, KeptB.of_below HB3 _⟩)
        · have e1 : decide (ch ≥ 48) = false := decide_eq_false c1
          have e1' : decide (48 ≤ ch) = false := decide_eq_false c1
          rw [if_neg (fun h => by have := h.1; unfold NT.dig at this; rw [e1'] at this; cases this)] at hrl
          have hra := hrl.symm
          clear hrl hbr c1 hlt HRL HA hp0
          have hv2 : IntKind.i64.wrap a = NT.wS a := i64_wS a
          have hv3 : wrap64 (-(NT.wS a)) = NT.wS (-(NT.wS a)) := w64_wS _
          have hv4 : IntKind.i64.wrap (-(NT.wS a)) = NT.wS (-(NT.wS a)) := i64_wS _
          have hvv : NT.wS (-(NT.wS a)) = v := HV0.out a hra
          have HV := Aside0.mk (show NT.Rng v from hvv ▸ NT.wS_rng _)
          rw [hvv] at hv3 hv4
          clear hra
          by_cases hm : m ≤ b.length
          · have ht := run_take (some ad) c b.length m (Nat.le_trans hm H3.out)
            have HC1 := Aside0.mk (take_C H4.out hm)
            have hd1 : decide ((m : Int) > (b.length : Int)) = false := decide_eq_false (by omega)
            have hd1' : decide ((b.length : Int) < (m : Int)) = false := decide_eq_false (by omega)
            have hd1'' : decide (b.length < m) = false := decide_eq_false (by omega)
            have HM := Aside0.mk hm
            have hdr := run_drop (some ad) c b.length m hm
            go_upto_region 12 with (go_at_call 45; refine (refnum_c v HV.out W).mono ?_; rintro e w2 hN; (obtain ⟨q, c2, he, hq, hlc, hC2, hB⟩ := refnum_row HV.out hN); rw [HMQ.out] at he hlc hC2; subst he; have B2 := Aside0.mk hB; have C2 := Aside0.mk hC2; (have hh := (hB.block g HLT.out).trans H1.out); have z2 : w2.cell? ⟨g, 0, none⟩ = some (.slice (some ad) b.length c) := (blk_cell hh 0).trans rfl; have fz := blk_frozen hh 0; have HH := Aside0.mk hh; have Z2 := Aside0.mk z2; have D1 := Aside0.mk (Kd.C_drew (Kd.C_below HC1.out hB)); have D2 := Aside0.mk (Kd.C_drew hC2); clear hN hq hlc hC2 hB hh)
            go_region_held (fun w' => w'.cell? ⟨g, 0, none⟩ = some (.slice (some ad) b.length c) ∧ (convert 52 9 (.slice (some ad) m c)).run Tryz.prog w' = .ok (.string (strOfNums (b.take m))) w' ∧ (convert 52 9 (.slice (some ⟨q, 0, none⟩) m c2)).run Tryz.prog w' = .ok (.string (strOfNums nm)) w') (exact ⟨Z2.out, conv_str D1.out, conv_str (by rw [← HNM.out]; exact D2.out)⟩) (fail)
            have hcut := NR.cut (W := w2) (g := g) (bad := bad) (pl := False) (T := 100) HH.out H2.out H3.out (Kd.C_below H4.out B2.out) H5.out (fun h => h.elim) (fun ad e hp => ⟨(H7.out ad e hp).1, Nat.lt_of_lt_of_le (H7.out ad e hp).2 B2.out.size⟩) m HM.out
            have HCUT := Aside0.mk hcut
            clear hcut
            have HKB := Aside0.mk (KeptB.of_below (B2.out.trans ((below_drew1 (Below.refl w2.heap.size w2)).mono B2.out.size)) (fun k => k = g))
            have HWN : Aside0 (NR 100 False w2.drew bad g b) := ⟨HW.out.after (B2.out.trans ((below_drew1 (Below.refl w2.heap.size w2)).mono B2.out.size))⟩
            by_cases hq2 : b.take m = nm
            · rw [hq2]
              have hse1 : ((strOfNums nm).toList == (strOfNums nm).toList) = true := beq_self_eq_true _
              have hse2 : (!((strOfNums nm).toList == (strOfNums nm).toList)) = false := by rw [hse1]; rfl
              go_wp2
              all_goals first | exact bodyPost_ret (v := .tuple #[.int .i64 v, .bool true]) (by simp [results, Tryz.results62, go_sem]) rfl (by show RNPost W bad g b (tk b) _ _; rw [HTK.out, if_pos ⟨HM.out, hq2⟩]; exact ⟨rfl, HCUT.out.1.after (below_drew1 (Below.refl _ _)), ((KeptB.of_below B2.out _).trans HCUT.out.2).drew⟩) | (exfalso; rename_i hx; first | (rw [hse1] at hx; cases hx; done) | (simp at hx; done) | (simp at hx; exact hse3 hx))
            · have hse1 := list_ne (bytes_take H5.out m) (HNM.out ▸ NT.num_bytes v) hq2
              have hse2 : (!((strOfNums (b.take m)).toList == (strOfNums nm).toList)) = true := by rw [hse1]; rfl
              have hse3 : ¬ (strOfNums (b.take m)).toList = (strOfNums nm).toList := beq_eq_false_iff_ne.1 hse1
              go_wp2
              all_goals first | exact bodyPost_ret (v := .tuple #[.int .i64 0, .bool false]) (by simp [results, Tryz.results62, go_sem]) rfl (by show RNPost W bad g b (tk b) _ _; rw [HTK.out, if_neg (fun h => hq2 h.2)]; exact ⟨rfl, HWN.out, HKB.out⟩) | (exfalso; rename_i hx; first | (rw [hse1] at hx; cases hx; done) | (simp at hx; done) | (simp at hx; exact hse3 hx))
          · have hd1 : decide ((m : Int) > (b.length : Int)) = true := decide_eq_true (by omega)
            have hd1' : decide ((b.length : Int) < (m : Int)) = true := decide_eq_true (by omega)
            have hd1'' : decide (b.length < m) = true := decide_eq_true (by omega)
            have HTK2 : Aside0 (tk b = (0, 0, false)) := ⟨by rw [HTK.out, if_neg (fun h => hm h.1)]⟩
            clear hm
            go_upto_region 12 with (go_at_call 45; refine (refnum_c v HV.out W).mono ?_; rintro e w2 hN; (obtain ⟨q, c2, he, hq, hlc, hC2, hB⟩ := refnum_row HV.out hN); rw [HMQ.out] at he hlc hC2; subst he; have B2 := Aside0.mk hB; (have hh := (hB.block g HLT.out).trans H1.out); have z2 : w2.cell? ⟨g, 0, none⟩ = some (.slice (some ad) b.length c) := (blk_cell hh 0).trans rfl; clear hN hq hlc hC2 hB hh)
            go_quiet (first | fail)
            go_wp2
            have HB3 := (B2.out.trans ((pw_below_drewN (Below.refl w2.heap.size w2) nq).mono B2.out.size))
            exact bodyPost_ret (v := .tuple #[.int .i64 0, .bool false]) (by simp [results, Tryz.results62, go_sem]) rfl (by show RNPost W bad g b (tk b) _ _; rw [HTK2.out]; exact ⟨rfl, HW.out.after HB3, KeptB.of_below HB3 _⟩)
      · have hd : decide ((j : Int) < (b.length : Int)) = false := decide_eq_false (by omega)
        have hd2 : decide (j < b.length) = false := decide_eq_false hlt
        have hra := (rloop_end hlt a).symm.trans HRL.out
        clear hlt HRL HA
        have hv2 : IntKind.i64.wrap a = NT.wS a := i64_wS a
        have hv3 : wrap64 (-(NT.wS a)) = NT.wS (-(NT.wS a)) := w64_wS _
        have hv4 : IntKind.i64.wrap (-(NT.wS a)) = NT.wS (-(NT.wS a)) := i64_wS _
        have hvv : NT.wS (-(NT.wS a)) = v := HV0.out a hra
        have HV := Aside0.mk (show NT.Rng v from hvv ▸ NT.wS_rng _)
        rw [hvv] at hv3 hv4
        clear hra
        by_cases hm : m ≤ b.length
        · have ht := run_take (some ad) c b.length m (Nat.le_trans hm H3.out)
          have HC1 := Aside0.mk (take_C H4.out hm)
          have hd1 : decide ((m : Int) > (b.length : Int)) = false := decide_eq_false (by omega)
          have hd1' : decide ((b.length : Int) < (m : Int)) = false := decide_eq_false (by omega)
          have hd1'' : decide (b.length < m) = false := decide_eq_false (by omega)
          have HM := Aside0.mk hm
          have hdr := run_drop (some ad) c b.length m hm
          go_upto_region 12 with (go_at_call 45; refine (refnum_c v HV.out W).mono ?_; rintro e w2 hN; (obtain ⟨q, c2, he, hq, hlc, hC2, hB⟩ := refnum_row HV.out hN); rw [HMQ.out] at he hlc hC2; subst he; have B2 := Aside0.mk hB; have C2 := Aside0.mk hC2; (have hh := (hB.block g HLT.out).trans H1.out); have z2 : w2.cell? ⟨g, 0, none⟩ = some (.slice (some ad) b.length c) := (blk_cell hh 0).trans rfl; have fz := blk_frozen hh 0; have HH := Aside0.mk hh; have Z2 := Aside0.mk z2; have D1 := Aside0.mk (Kd.C_drew (Kd.C_below HC1.out hB)); have D2 := Aside0.mk (Kd.C_drew hC2); clear hN hq hlc hC2 hB hh)
          go_region_held (fun w' => w'.cell? ⟨g, 0, none⟩ = some (.slice (some ad) b.length c) ∧ (convert 52 9 (.slice (some ad) m c)).run Tryz.prog w' = .ok (.string (strOfNums (b.take m))) w' ∧ (convert 52 9 (.slice (some ⟨q, 0, none⟩) m c2)).run Tryz.prog w' = .ok (.string (strOfNums nm)) w') (exact ⟨Z2.out, conv_str D1.out, conv_str (by rw [← HNM.out]; exact D2.out)⟩) (fail)
          have hcut := NR.cut (W := w2) (g := g) (bad := bad) (pl := False) (T := 100) HH.out H2.out H3.out (Kd.C_below H4.out B2.out) H5.out (fun h => h.elim) (fun ad e hp => ⟨(H7.out ad e hp).1, Nat.lt_of_lt_of_le (H7.out ad e hp).2 B2.out.size⟩) m HM.out
          have HCUT := Aside0.mk hcut
          clear hcut
          have HKB := Aside0.mk (KeptB.of_below (B2.out.trans ((below_drew1 (Below.refl w2.heap.size w2)).mono B2.out.size)) (fun k => k = g))
          have HWN : Aside0 (NR 100 False w2.drew bad g b) := ⟨HW.out.after (B2.out.trans ((below_drew1 (Below.refl w2.heap.size w2)).mono B2.out.size))⟩
          by_cases hq2 : b.take m = nm
          · rw [hq2]
            have hse1 : ((strOfNums nm).toList == (strOfNums nm).toList) = true := beq_self_eq_true _
            have hse2 : (!((strOfNums nm).toList == (strOfNums nm).toList)) = false := by rw [hse1]; rfl
            go_wp2
            all_goals first | exact bodyPost_ret (v := .tuple #[.int .i64 v, .bool true]) (by simp [results, Tryz.results62, go_sem]) rfl (by show RNPost W bad g b (tk b) _ _; rw [HTK.out, if_pos ⟨HM.out, hq2⟩]; exact ⟨rfl, HCUT.out.1.after (below_drew1 (Below.refl _ _)), ((KeptB.of_below B2.out _).trans HCUT.out.2).drew⟩) | (exfalso; rename_i hx; first | (rw [hse1] at hx; cases hx; done) | (simp at hx; done) | (simp at hx; exact hse3 hx))
          · have hse1 := list_ne (bytes_take H5.out m) (HNM.out ▸ NT.num_bytes v) hq2
            have hse2 : (!((strOfNums (b.take m)).toList == (strOfNums nm).toList)) = true := by rw [hse1]; rfl
            have hse3 : ¬ (strOfNums (b.take m)).toList = (strOfNums nm).toList := beq_eq_false_iff_ne.1 hse1
            go_wp2
            all_goals first | exact bodyPost_ret (v := .tuple #[.int .i64 0, .bool false]) (by simp [results, Tryz.results62, go_sem]) rfl (by show RNPost W bad g b (tk b) _ _; rw [HTK.out, if_neg (fun h => hq2 h.2)]; exact ⟨rfl, HWN.out, HKB.out⟩) | (exfalso; rename_i hx; first | (rw [hse1] at hx; cases hx; done) | (simp at hx; done) | (simp at hx; exact hse3 hx))
        · have hd1 : decide ((m : Int) > (b.length : Int)) = true := decide_eq_true (by omega)
          have hd1' : decide ((b.length : Int) < (m : Int)) = true := decide_eq_true (by omega)
          have hd1'' : decide (b.length < m) = true := decide_eq_true (by omega)
          have HTK2 : Aside0 (tk b = (0, 0, false)) := ⟨by rw [HTK.out, if_neg (fun h => hm h.1)]⟩
          clear hm
          go_upto_region 12 with (go_at_call 45; refine (refnum_c v HV.out W).mono ?_; rintro e w2 hN; (obtain ⟨q, c2, he, hq, hlc, hC2, hB⟩ := refnum_row HV.out hN); rw [HMQ.out] at he hlc hC2; subst he; have B2 := Aside0.mk hB; (have hh := (hB.block g HLT.out).trans H1.out); have z2 : w2.cell? ⟨g, 0, none⟩ = some (.slice (some ad) b.length c) := (blk_cell hh 0).trans rfl; clear hN hq hlc hC2 hB hh)
          go_quiet (first | fail)
          go_wp2
          have HB3 := (B2.out.trans ((pw_below_drewN (Below.refl w2.heap.size w2) nq).mono B2.out.size))
          exact bodyPost_ret (v := .tuple #[.int .i64 0, .bool false]) (by simp [results, Tryz.results62, go_sem]) rfl (by show RNPost W bad g b (tk b) _ _; rw [HTK2.out]; exact ⟨rfl, HW.out.after HB3, KeptB.of_below HB3 _⟩)
  · have hvv : NT.wS (NT.rloop (b.drop 0) 0 0) = v := by rw [← hv, NT.rval, if_neg hneg, List.drop_zero]
    obtain ⟨R, hR⟩ : ∃ R, NT.rloop (b.drop 0) 0 0 = R := ⟨_, rfl⟩
    rw [hR] at hvv
    have HR0 := Aside0.mk hR
    have HV0 : Aside0 (∀ a, a = R → NT.wS a = v) := ⟨fun a e => by rw [e]; exact hvv⟩
    have HI0 : Aside0 (0 ≤ b.length) := ⟨Nat.zero_le _⟩
    by_cases hne : 0 < b.length
    · have x0 := at_byte' h4 0 hne
      have hch : b.getD 0 0 ≠ 45 := fun e => hneg (by
        cases b with
        | nil => cases hne
        | cons x r => rw [List.head?_cons]; exact congrArg some e)
      obtain ⟨ch0, hc0⟩ : ∃ ch, b.getD 0 0 = ch := ⟨_, rfl⟩
      rw [hc0] at x0 hch
      have ea : ad.add 0 = ad := by simp [Addr.add]
      have x1 : W.cell? ad = some (.int .u8 ch0) := by rw [ea] at x0; exact x0
      have g0 : decide ((b.length : Int) > 0) = true := decide_eq_true (by omega)
      have g0' : decide ((0 : Int) < (b.length : Int)) = true := decide_eq_true (by omega)
      have g0'' : (0 : Int) < (b.length : Int) := by omega
      have g1 : decide (0 < b.length) = true := decide_eq_true hne
      have g2 : (ch0 == 45) = false := beq_eq_false_iff_ne.2 hch
      clear hneg hvv hR h1 h2 h3 h4 h5 h6 h7 hv htk hnm hm hlt0 ea hc0 hne hch
      go_enter Tryz.func62, Tryz.ntmps62
      go_wp2
      go_loopw [4, 6] (fun u4 u6 wr => ∃ (j : Nat) (a : Int), u4 = .int .i64 (j : Int) ∧ u6 = .int .u64 a ∧ W = wr ∧ Aside0 (j ≤ b.length) ∧ Aside0 (NT.rloop (b.drop j) j a = R) ∧ Aside0 (0 ≤ a ∧ a < 18446744073709551616)) (fun u4 u6 _ => b.length + 1 - (intOf u4).toNat)
      case atStart => exact ⟨0, 0, rfl, rfl, rfl, HI0, HR0, ⟨by decide, by decide⟩⟩
      case round =>
        obtain ⟨j, a, rfl, rfl, rfl, HJ, HRL, HA⟩ := hrel
        by_cases hlt : j < b.length
        · have hd : decide ((j : Int) < (b.length : Int)) = true := decide_eq_true (by omega)
          have hd2 : decide (j < b.length) = true := decide_eq_true hlt
          have x0 := at_byte' H4.out j hlt
          have hrl := rloop_drop hlt a
          rw [HRL.out] at hrl
          have hbr := getD_bytes H5.out hlt
          obtain ⟨ch, hch⟩ : ∃ ch, b.getD j 0 = ch := ⟨_, rfl⟩
          rw [hch] at x0 hrl hbr
          have HLTJ := Aside0.mk hlt
          have hp1 : (j : Int) < (b.length : Int) := by omega
          have hp0 : (0 : Int) ≤ (j : Int) := by omega
          clear hch
          by_cases c1 : 48 ≤ ch
          · have e1 : decide (ch ≥ 48) = true := decide_eq_true c1
            have e1' : decide (48 ≤ ch) = true := decide_eq_true c1
            by_cases c2 : ch ≤ 57
            · have e2 : decide (ch ≤ 57) = true := decide_eq_true c2
              by_cases c3 : j < 21
              · have e3 : decide ((j : Int) < 21) = true := decide_eq_true (by omega)
                have e3' : decide (j < 21) = true := decide_eq_true c3
                rw [if_pos ⟨by unfold NT.dig; rw [e1', e2]; rfl, c3⟩] at hrl
                obtain ⟨p, hp⟩ : ∃ p, IntKind.u64.wrap (10 * a) = p := ⟨_, rfl⟩
                obtain ⟨q, hq⟩ : ∃ q, IntKind.u64.wrap (p + (ch - 48)) = q := ⟨_, rfl⟩
                have hqq := step_u64 a ch p q hp hq
                have hs8 : IntKind.u8.wrap (ch - 48) = ch - 48 := by rw [IntKind.wrap_u8]; omega
                have hs64 : IntKind.u64.wrap (ch - 48) = ch - 48 := by rw [IntKind.wrap_u64]; omega
                rw [← hqq] at hrl
                have HQR : Aside0 (0 ≤ q ∧ q < 18446744073709551616) := ⟨hqq ▸ wU_rng _⟩
                have HRL2 := Aside0.mk hrl.symm
                have hjj : (j : Int) + 1 ≤ 9223372036854775807 := by omega
                clear hqq hrl hbr c1 c2 c3 hlt HRL HA hp0
                go_wp2
                all_goals exact ⟨⟨j + 1, q, by go_num, by first | rfl | trivial, by first | rfl | trivial, ⟨by have := HLTJ.out; omega⟩, HRL2, HQR⟩, by clear hp hq hs8 hs64; have := HLTJ.out; simp [intOf]; omega⟩
              · have e3 : decide ((j : Int) < 21) = false := decide_eq_false (by omega)
                have e3' : decide (j < 21) = false := decide_eq_false c3
                rw [if_neg (fun h => c3 h.2)] at hrl
                have hra := hrl.symm
                clear hrl hbr c1 c2 c3 hlt HRL HA hp0
                have hv2 : IntKind.i64.wrap a = NT.wS a := i64_wS a
                have hvv : NT.wS a = v := HV0.out a hra
                have HV := Aside0.mk (show NT.Rng v from hvv ▸ NT.wS_rng _)
                rw [hvv] at hv2
                clear hra
                by_cases hm : m ≤ b.length
                · have ht := run_take (some ad) c b.length m (Nat.le_trans hm H3.out)
                  have HC1 := Aside0.mk (take_C H4.out hm)
                  have hd1 : decide ((m : Int) > (b.length : Int)) = false := decide_eq_false (by omega)
                  have hd1' : decide ((b.length : Int) < (m : Int)) = false := decide_eq_false (by omega)
                  have hd1'' : decide (b.length < m) = false := decide_eq_false (by omega)
                  have HM := Aside0.mk hm
                  have hdr := run_drop (some ad) c b.length m hm
                  go_upto_region 12 with (go_at_call 45; refine (refnum_c v HV.out W).mono ?_; rintro e w2 hN; (obtain ⟨q, c2, he, hq, hlc, hC2, hB⟩ := refnum_row HV.out hN); rw [HMQ.out] at he hlc hC2; subst he; have B2 := Aside0.mk hB; have C2 := Aside0.mk hC2; (have hh := (hB.block g HLT.out).trans H1.out); have z2 : w2.cell? ⟨g, 0, none⟩ = some (.slice (some ad) b.length c) := (blk_cell hh 0).trans rfl; have fz := blk_frozen hh 0; have HH := Aside0.mk hh; have Z2 := Aside0.mk z2; have D1 := Aside0.mk (Kd.C_drew (Kd.C_below HC1.out hB)); have D2 := Aside0.mk (Kd.C_drew hC2); clear hN hq hlc hC2 hB hh)
                  go_region_held (fun w' => w'.cell? ⟨g, 0, none⟩ = some (.slice (some ad) b.length c) ∧ (convert 52 9 (.slice (some ad) m c)).run Tryz.prog w' = .ok (.string (strOfNums (b.take m))) w' ∧ (convert 52 9 (.slice (some ⟨q, 0, none⟩) m c2)).run Tryz.prog w' = .ok (.string (strOfNums nm)) w') (exact ⟨Z2.out, conv_str D1.out, conv_str (by rw [← HNM.out]; exact D2.out)⟩) (fail)
                  have hcut := NR.cut (W := w2) (g := g) (bad := bad) (pl := False) (T := 100) HH.out H2.out H3.out (Kd.C_below H4.out B2.out) H5.out (fun h => h.elim) (fun ad e hp => ⟨(H7.out ad e hp).1, Nat.lt_of_lt_of_le (H7.out ad e hp).2 B2.out.size⟩) m HM.out
                  have HCUT := Aside0.mk hcut
                  clear hcut
                  have HKB := Aside0.mk (KeptB.of_below (B2.out.trans ((below_drew1 (Below.refl w2.heap.size w2)).mono B2.out.size)) (fun k => k = g))
                  have HWN : Aside0 (NR 100 False w2.drew bad g b) := ⟨HW.out.after (B2.out.trans ((below_drew1 (Below.refl w2.heap.size w2)).mono B2.out.size))⟩
                  by_cases hq2 : b.take m = nm
                  · rw [hq2]
                    have hse1 : ((strOfNums nm).toList == (strOfNums nm).toList) = true := beq_self_eq_true _
                    have hse2 : (!((strOfNums nm).toList == (strOfNums nm).toList)) = false := by rw [hse1]; rfl
                    go_wp2
                    all_goals first | exact bodyPost_ret (v := .tuple #[.int .i64 v, .bool true]) (by simp [results, Tryz.results62, go_sem]) rfl (by show RNPost W bad g b (tk b) _ _; rw [HTK.out, if_pos ⟨HM.out, hq2⟩]; exact ⟨rfl, HCUT.out.1.after (below_drew1 (Below.refl _ _)), ((KeptB.of_below B2.out _).trans HCUT.out.2).drew⟩) | (exfalso; rename_i hx; first | (rw [hse1] at hx; cases hx; done) | (simp at hx; done) | (simp at hx; exact hse3 hx))
                  · have hse1 := list_ne (bytes_take H5.out m) (HNM.out ▸ NT.num_bytes v) hq2
                    have hse2 : (!((strOfNums (b.take m)).toList == (strOfNums nm).toList)) = true := by rw [hse1]; rfl
                    have hse3 : ¬ (strOfNums (b.take m)).toList = (strOfNums nm).toList := beq_eq_false_iff_ne.1 hse1
                    go_wp2
                    all_goals first | exact bodyPost_ret (v := .tuple #[.int .i64 0, .bool false]) (by simp [results, Tryz.results62, go_sem]) rfl (by show RNPost W bad g b (tk b) _ _; rw [HTK.out, if_neg (fun h => hq2 h.2)]; exact ⟨rfl, HWN.out, HKB.out⟩) | (exfalso; rename_i hx; first | (rw [hse1] at hx; cases hx; done) | (simp at hx; done) | (simp at hx; exact hse3 hx))
                · have hd1 : decide ((m : Int) > (b.length : Int)) = true := decide_eq_true (by omega)
                  have hd1' : decide ((b.length : Int) < (m : Int)) = true := decide_eq_true (by omega)
                  have hd1'' : decide (b.length < m) = true := decide_eq_true (by omega)
                  have HTK2 : Aside0 (tk b = (0, 0, false)) := ⟨by rw [HTK.out, if_neg (fun h => hm h.1)]⟩
                  clear hm
                  go_upto_region 12 with (go_at_call 45; refine (refnum_c v HV.out W).mono ?_; rintro e w2 hN; (obtain ⟨q, c2, he, hq, hlc, hC2, hB⟩ := refnum_row HV.out hN); rw [HMQ.out] at he hlc hC2; subst he; have B2 := Aside0.mk hB; (have hh := (hB.block g HLT.out).trans H1.out); have z2 : w2.cell? ⟨g, 0, none⟩ = some (.slice (some ad) b.length c) := (blk_cell hh 0).trans rfl; clear hN hq hlc hC2 hB hh)
                  go_quiet (first | fail)
                  go_wp2
                  have HB3 := (B2.out.trans ((pw_below_drewN (Below.refl w2.heap.size w2) nq).mono B2.out.size))
                  exact bodyPost_ret (v := .tuple #[.int .i64 0, .bool false]) (by simp [results, Tryz.results62, go_sem]) rfl (by show RNPost W bad g b (tk b) _ _; rw [HTK2.out]; exact ⟨rfl, HW.out.after HB3, KeptB.of_below HB3 _⟩)
            · have e2 : decide (ch ≤ 57) = false := decide_eq_false c2
              rw [if_neg (fun h => by have := h.1; unfold NT.dig at this; rw [e1', e2] at this; cases this)] at hrl
              have hra := hrl.symm
              clear hrl hbr c1 c2 hlt HRL HA hp0
              have hv2 : IntKind.i64.wrap a = NT.wS a := i64_wS a
              have hvv : NT.wS a = v := HV0.out a hra
              have HV := Aside0.mk (show NT.Rng v from hvv ▸ NT.wS_rng _)
              rw [hvv] at hv2
              clear hra
              by_cases hm : m ≤ b.length
              · have ht := run_take (some ad) c b.length m (Nat.le_trans hm H3.out)
                have HC1 := Aside0.mk (take_C H4.out hm)
                have hd1 : decide ((m : Int) > (b.length : Int)) = false := decide_eq_false (by omega)
                have hd1' : decide ((b.length : Int) < (m : Int)) = false := decide_eq_false (by omega)
                have hd1'' : decide (b.length < m) = false := decide_eq_false (by omega)
                have HM := Aside0.mk hm
                have hdr := run_drop (some ad) c b.length m hm
                go_upto_region 12 with (go_at_call 45; refine (refnum_c v HV.out W).mono ?_; rintro e w2 hN; (obtain ⟨q, c2, he, hq, hlc, hC2, hB⟩ := refnum_row HV.out hN); rw [HMQ.out] at he hlc hC2; subst he; have B2 := Aside0.mk hB; have C2 := Aside0.mk hC2; (have hh := (hB.block g HLT.out).trans H1.out); have z2 : w2.cell? ⟨g, 0, none⟩ = some (.slice (some ad) b.length c) := (blk_cell hh 0).trans rfl; have fz := blk_frozen hh 0; have HH := Aside0.mk hh; have Z2 := Aside0.mk z2; have D1 := Aside0.mk (Kd.C_drew (Kd.C_below HC1.out hB)); have D2 := Aside0.mk (Kd.C_drew hC2); clear hN hq hlc hC2 hB hh)
                go_region_held (fun w' => w'.cell? ⟨g, 0, none⟩ = some (.slice (some ad) b.length c) ∧ (convert 52 9 (.slice (some ad) m c)).run Tryz.prog w' = .ok (.string (strOfNums (b.take m))) w' ∧ (convert 52 9 (.slice (some ⟨q, 0, none⟩) m c2)).run Tryz.prog w' = .ok (.string (strOfNums nm)) w') (exact ⟨Z2.out, conv_str D1.out, conv_str (by rw [← HNM.out]; exact D2.out)⟩) (fail)
                have hcut := NR.cut (W := w2) (g := g) (bad := bad) (pl := False) (T := 100) HH.out H2.out H3.out (Kd.C_below H4.out B2.out) H5.out (fun h => h.elim) (fun ad e hp => ⟨(H7.out ad e hp).1, Nat.lt_of_lt_of_le (H7.out ad e hp).2 B2.out.size⟩) m HM.out
                have HCUT := Aside0.mk hcut
                clear hcut
                have HKB := Aside0.mk (KeptB.of_below (B2.out.trans ((below_drew1 (Below.refl w2.heap.size w2)).mono B2.out.size)) (fun k => k = g))
                have HWN : Aside0 (NR 100 False w2.drew bad g b) := ⟨HW.out.after (B2.out.trans ((below_drew1 (Below.refl w2.heap.size w2)).mono B2.out.size))⟩
                by_cases hq2 : b.take m = nm
                · rw [hq2]
                  have hse1 : ((strOfNums nm).toList == (strOfNums nm).toList) = true := beq_self_eq_true _
                  have hse2 : (!((strOfNums nm).toList == (strOfNums nm).toList)) = false := by rw [hse1]; rfl
                  go_wp2
                  all_goals first | exact bodyPost_ret (v := .tuple #[.int .i64 v, .bool true]) (by simp [results, Tryz.results62, go_sem]) rfl (by show RNPost W bad g b (tk b) _ _; rw [HTK.out, if_pos ⟨HM.out, hq2⟩]; exact ⟨rfl, HCUT.out.1.after (below_drew1 (Below.refl _ _)), ((KeptB.of_below B2.out _).trans HCUT.out.2).drew⟩) | (exfalso; rename_i hx; first | (rw [hse1] at hx; cases hx; done) | (simp at hx; done) | (simp at hx; exact hse3 hx))
                · have hse1 := list_ne (bytes_take H5.out m) (HNM.out ▸ NT.num_bytes v) hq2
                  have hse2 : (!((strOfNums (b.take m)).toList == (strOfNums nm).toList)) = true := by rw [hse1]; rfl
                  have hse3 : ¬ (strOfNums (b.take m)).toList = (strOfNums nm).toList := beq_eq_false_iff_ne.1 hse1
                  go_wp2
                  all_goals first | exact bodyPost_ret (v := .tuple #[.int .i64 0, .bool false]) (by simp [results, Tryz.results62, go_sem]) rfl (by show RNPost W bad g b (tk b) _ _; rw [HTK.out, if_neg (fun h => hq2 h.2)]; exact ⟨rfl, HWN.out, HKB.out⟩) | (exfalso; rename_i hx; first | (rw [hse1] at hx; cases hx; done) | (simp at hx; done) | (simp at hx; exact hse3 hx))
              · have hd1 : decide ((m : Int) > (b.length : Int)) = true := decide_eq_true (by omega)
                have hd1' : decide ((b.length : Int) < (m : Int)) = true := decide_eq_true (by omega)
                have hd1'' : decide (b.length < m) = true := decide_eq_true (by omega)
                have HTK2 : Aside0 (tk b = (0, 0, false)) := ⟨by rw [HTK.out, if_neg (fun h => hm h.1)]⟩
                clear hm
                go_upto_region 12 with (go_at_call 45; refine (refnum_c v HV.out W).mono ?_; rintro e w2 hN; (obtain ⟨q, c2, he, hq, hlc, hC2, hB⟩ := refnum_row HV.out hN); rw [HMQ.out] at he hlc hC2; subst he; have B2 := Aside0.mk hB; (have hh := (hB.block g HLT.out).trans H1.out); have z2 : w2.cell? ⟨g, 0, none⟩ = some (.slice (some ad) b.length c) := (blk_cell hh 0).trans rfl; clear hN hq hlc hC2 hB hh)
                go_quiet (first | fail)
                go_wp2
                have HB3 := (B2.out.trans ((pw_below_drewN (Below.refl w2.heap.size w2) nq).mono B2.out.size))
                exact bodyPost_ret (v := .tuple #[.int .i64 0, .bool false]) (by simp [results, Tryz.results62, go_sem]) rfl (by show RNPost W bad g b (tk b) _ _; rw [HTK2.out]; exact ⟨rfl, HW.out.after HB3, KeptB.of_below HB3 _⟩)
          · have e1 : decide (ch ≥ 48) = false := decide_eq_false c1
            have e1' : decide (48 ≤ ch) = false := decide_eq_false c1
            rw [if_neg (fun h => by have := h.1; unfold NT.dig at this; rw [e1'] at this; cases this)] at hrl
            have hra := hrl.symm
            clear hrl hbr c1 hlt HRL HA hp0
            have hv2 : IntKind.i64.wrap a = NT.wS a := i64_wS a
            have hvv : NT.wS a = v := HV0.out a hra
            have HV := Aside0.mk (show NT.Rng v from hvv ▸ NT.wS_rng _)
            rw [hvv] at hv2
            clear hra
            by_cases hm : m ≤ b.length
            · have ht := run_take (some ad) c b.length m (Nat.le_trans hm H3.out)
              have HC1 := Aside0.mk (take_C H4.out hm)
              have hd1 : decide ((m : Int) > (b.length : Int)) = false := decide_eq_false (by omega)
              have hd1' : decide ((b.length : Int) < (m : Int)) = false := decide_eq_false (by omega)
              have hd1'' : decide (b.length < m) = false := decide_eq_false (by omega)
              have HM := Aside0.mk hm
              have hdr := run_drop (some ad) c b.length m hm
              go_upto_region 12 with (go_at_call 45; refine (refnum_c v HV.out W).mono ?_; rintro e w2 hN; (obtain ⟨q, c2, he, hq, hlc, hC2, hB⟩ := refnum_row HV.out hN); rw [HMQ.out] at he hlc hC2; subst he; have B2 := Aside0.mk hB; have C2 := Aside0.mk hC2; (have hh := (hB.block g HLT.out).trans H1.out); have z2 : w2.cell? ⟨g, 0, none⟩ = some (.slice (some ad) b.length c) := (blk_cell hh 0).trans rfl; have fz := blk_frozen hh 0; have HH := Aside0.mk hh; have Z2 := Aside0.mk z2; have D1 := Aside0.mk (Kd.C_drew (Kd.C_below HC1.out hB)); have D2 := Aside0.mk (Kd.C_drew hC2); clear hN hq hlc hC2 hB hh)
              go_region_held (fun w' => w'.cell? ⟨g, 0, none⟩ = some (.slice (some ad) b.length c) ∧ (convert 52 9 (.slice (some ad) m c)).run Tryz.prog w' = .ok (.string (strOfNums (b.take m))) w' ∧ (convert 52 9 (.slice (some ⟨q, 0, none⟩) m c2)).run Tryz.prog w' = .ok (.string (strOfNums nm)) w') (exact ⟨Z2.out, conv_str D1.out, conv_str (by rw [← HNM.out]; exact D2.out)⟩) (fail)
              have hcut := NR.cut (W := w2) (g := g) (bad := bad) (pl := False) (T := 100) HH.out H2.out H3.out (Kd.C_below H4.out B2.out) H5.out (fun h => h.elim) (fun ad e hp => ⟨(H7.out ad e hp).1, Nat.lt_of_lt_of_le (H7.out ad e hp).2 B2.out.size⟩) m HM.out
              have HCUT := Aside0.mk hcut
              clear hcut
              have HKB := Aside0.mk (KeptB.of_below (B2.out.trans ((below_drew1 (Below.refl w2.heap.size w2)).mono B2.out.size)) (fun k => k = g))
              have HWN : Aside0 (NR 100 False w2.drew bad g b) := ⟨HW.out.after (B2.out.trans ((below_drew1 (Below.refl w2.heap.size w2)).mono B2.out.size))⟩
              by_cases hq2 : b.take m = nm
              · rw [hq2]
                have hse1 : ((strOfNums nm).toList == (strOfNums nm).toList) = true := beq_self_eq_true _
                have hse2 : (!((strOfNums nm).toList == (strOfNums nm).toList)) = false := by rw [hse1]; rfl
                go_wp2
                all_goals first | exact bodyPost_ret (v := .tuple #[.int .i64 v, .bool true]) (by simp [results, Tryz.results62, go_sem]) rfl (by show RNPost W bad g b (tk b) _ _; rw [HTK.out, if_pos ⟨HM.out, hq2⟩]; exact ⟨rfl, HCUT.out.1.after (below_drew1 (Below.refl _ _)), ((KeptB.of_below B2.out _).trans HCUT.out.2).drew⟩) | (exfalso; rename_i hx; first | (rw [hse1] at hx; cases hx; done) | (simp at hx; done) | (simp at hx; exact hse3 hx))
              · have hse1 := list_ne (bytes_take H5.out m) (HNM.out ▸ NT.num_bytes v) hq2
                have hse2 : (!((strOfNums (b.take m)).toList == (strOfNums nm).toList)) = true := by rw [hse1]; rfl
                have hse3 : ¬ (strOfNums (b.take m)).toList = (strOfNums nm).toList := beq_eq_false_iff_ne.1 hse1
                go_wp2
                all_goals first | exact bodyPost_ret (v := .tuple #[.int .i64 0, .bool false]) (by simp [results, Tryz.results62, go_sem]) rfl (by show RNPost W bad g b (tk b) _ _; rw [HTK.out, if_neg (fun h => hq2 h.2)]; exact ⟨rfl, HWN.out, HKB.out⟩) | (exfalso; rename_i hx; first | (rw [hse1] at hx; cases hx; done) | (simp at hx; done) | (simp at hx; exact hse3 hx))
            · have hd1 : decide ((m : Int) > (b.length : Int)) = true := decide_eq_true (by omega)
              have hd1' : decide ((b.length : Int) < (m : Int)) = true := decide_eq_true (by omega)
              have hd1'' : decide (b.length < m) = true := decide_eq_true (by omega)
              have HTK2 : Aside0 (tk b = (0, 0, false)) := ⟨by rw [HTK.out, if_neg (fun h => hm h.1)]⟩
              clear hm
              go_upto_region 12 with (go_at_call 45; refine (refnum_c v HV.out W).mono ?_; rintro e w2 hN; (obtain ⟨q, c2, he, hq, hlc, hC2, hB⟩ := refnum_row HV.out hN); rw [HMQ.out] at he hlc hC2; subst he; have B2 := Aside0.mk hB; (have hh := (hB.block g HLT.out).trans H1.out); have z2 : w2.cell? ⟨g, 0, none⟩ = some (.slice (some ad) b.length c) := (blk_cell hh 0).trans rfl; clear hN hq hlc hC2 hB hh)
              go_quiet (first | fail)
              go_wp2
              have HB3 := (B2.out.trans ((pw_below_drewN (Below.refl w2.heap.size w2) nq).mono B2.out.size))
              exact bodyPost_ret (v := .tuple #[.int .i64 0, .bool false]) (by simp [results, Tryz.results62, go_sem]) rfl (by show RNPost W bad g b (tk b) _ _; rw [HTK2.out]; exact ⟨rfl, HW.out.after HB3, KeptB.of_below HB3 _⟩)
        · have hd : decide ((j : Int) < (b.length : Int)) = false := decide_eq_false (by omega)
          have hd2 : decide (j < b.length) = false := decide_eq_false hlt
          have hra := (rloop_end hlt a).symm.trans HRL.out
          clear hlt HRL HA
          have hv2 : IntKind.i64.wrap a = NT.wS a := i64_wS a
          have hvv : NT.wS a = v := HV0.out a hra
          have HV := Aside0.mk (show NT.Rng v from hvv ▸ NT.wS_rng _)
          rw [hvv] at hv2
          clear hra
          by_cases hm : m ≤ b.length
          · have ht := run_take (some ad) c b.length m (Nat.le_trans hm H3.out)
            have HC1 := Aside0.mk (take_C H4.out hm)
            have hd1 : decide ((m : Int) > (b.length : Int)) = false := decide_eq_false (by omega)
            have hd1' : decide ((b.length : Int) < (m : Int)) = false := decide_eq_false (by omega)
            have hd1'' : decide (b.length < m) = false := decide_eq_false (by omega)
            have HM := Aside0.mk hm
            have hdr := run_drop (some ad) c b.length m hm
            go_upto_region 12 with (go_at_call 45; refine (refnum_c v HV.out W).mono ?_; rintro e w2 hN; (obtain ⟨q, c2, he, hq, hlc, hC2, hB⟩ := refnum_row HV.out hN); rw [HMQ.out] at he hlc hC2; subst he; have B2 := Aside0.mk hB; have C2 := Aside0.mk hC2; (have hh := (hB.block g HLT.out).trans H1.out); have z2 : w2.cell? ⟨g, 0, none⟩ = some (.slice (some ad) b.length c) := (blk_cell hh 0).trans rfl; have fz := blk_frozen hh 0; have HH := Aside0.mk hh; have Z2 := Aside0.mk z2; have D1 := Aside0.mk (Kd.C_drew (Kd.C_below HC1.out hB)); have D2 := Aside0.mk (Kd.C_drew hC2); clear hN hq hlc hC2 hB hh)
            go_region_held (fun w' => w'.cell? ⟨g, 0, none⟩ = some (.slice (some ad) b.length c) ∧ (convert 52 9 (.slice (some ad) m c)).run Tryz.prog w' = .ok (.string (strOfNums (b.take m))) w' ∧ (convert 52 9 (.slice (some ⟨q, 0, none⟩) m c2)).run Tryz.prog w' = .ok (.string (strOfNums nm)) w') (exact ⟨Z2.out, conv_str D1.out, conv_str (by rw [← HNM.out]; exact D2.out)⟩) (fail)
            have hcut := NR.cut (W := w2) (g := g) (bad := bad) (pl := False) (T := 100) HH.out H2.out H3.out (Kd.C_below H4.out B2.out) H5.out (fun h => h.elim) (fun ad e hp => ⟨(H7.out ad e hp).1, Nat.lt_of_lt_of_le (H7.out ad e hp).2 B2.out.size⟩) m HM.out
            have HCUT := Aside0.mk hcut
            clear hcut
            have HKB := Aside0.mk (KeptB.of_below (B2.out.trans ((below_drew1 (Below.refl w2.heap.size w2)).mono B2.out.size)) (fun k => k = g))
            have HWN : Aside0 (NR 100 False w2.drew bad g b) := ⟨HW.out.after (B2.out.trans ((below_drew1 (Below.refl w2.heap.size w2)).mono B2.out.size))⟩
            by_cases hq2 : b.take m = nm
            · rw [hq2]
              have hse1 : ((strOfNums nm).toList == (strOfNums nm).toList) = true := beq_self_eq_true _
              have hse2 : (!((strOfNums nm).toList == (strOfNums nm).toList)) = false := by rw [hse1]; rfl
              go_wp2
              all_goals first | exact bodyPost_ret (v := .tuple #[.int .i64 v, .bool true]) (by simp [results, Tryz.results62, go_sem]) rfl (by show RNPost W bad g b (tk b) _ _; rw [HTK.out, if_pos ⟨HM.out, hq2⟩]; exact ⟨rfl, HCUT.out.1.after (below_drew1 (Below.refl _ _)), ((KeptB.of_below B2.out _).trans HCUT.out.2).drew⟩) | (exfalso; rename_i hx; first | (rw [hse1] at hx; cases hx; done) | (simp at hx; done) | (simp at hx; exact hse3 hx))
            · have hse1 := list_ne (bytes_take H5.out m) (HNM.out ▸ NT.num_bytes v) hq2
              have hse2 : (!((strOfNums (b.take m)).toList == (strOfNums nm).toList)) = true := by rw [hse1]; rfl
              have hse3 : ¬ (strOfNums (b.take m)).toList = (strOfNums nm).toList := beq_eq_false_iff_ne.1 hse1
              go_wp2
              all_goals first | exact bodyPost_ret (v := .tuple #[.int .i64 0, .bool false]) (by simp [results, Tryz.results62, go_sem]) rfl (by show RNPost W bad g b (tk b) _ _; rw [HTK.out, if_neg (fun h => hq2 h.2)]; exact ⟨rfl, HWN.out, HKB.out⟩) | (exfalso; rename_i hx; first | (rw [hse1] at hx; cases hx; done) | (simp at hx; done) | (simp at hx; exact hse3 hx))
          · have hd1 : decide ((m : Int) > (b.length : Int)) = true := decide_eq_true (by omega)
            have hd1' : decide ((b.length : Int) < (m : Int)) = true := decide_eq_true (by omega)
            have hd1'' : decide (b.length < m) = true := decide_eq_true (by omega)
            have HTK2 : Aside0 (tk b = (0, 0, false)) := ⟨by rw [HTK.out, if_neg (fun h => hm h.1)]⟩
            clear hm
            go_upto_region 12 with (go_at_call 45; refine (refnum_c v HV.out W).mono ?_; rintro e w2 hN; (obtain ⟨q, c2, he, hq, hlc, hC2, hB⟩ := refnum_row HV.out hN); rw [HMQ.out] at he hlc hC2; subst he; have B2 := Aside0.mk hB; (have hh := (hB.block g HLT.out).trans H1.out); have z2 : w2.cell? ⟨g, 0, none⟩ = some (.slice (some ad) b.length c) := (blk_cell hh 0).trans rfl; clear hN hq hlc hC2 hB hh)
            go_quiet (first | fail)
            go_wp2
            have HB3 := (B2.out.trans ((pw_below_drewN (Below.refl w2.heap.size w2) nq).mono B2.out.size))
            exact bodyPost_ret (v := .tuple #[.int .i64 0, .bool false]) (by simp [results, Tryz.results62, go_sem]) rfl (by show RNPost W bad g b (tk b) _ _; rw [HTK2.out]; exact ⟨rfl, HW.out.after HB3, KeptB.of_below HB3 _⟩)
    · have g0 : decide ((b.length : Int) > 0) = false := decide_eq_false (by omega)
      have g0' : decide ((0 : Int) < (b.length : Int)) = false := decide_eq_false (by omega)
      have g1 : decide (0 < b.length) = false := decide_eq_false hne
      clear hneg hvv hR h1 h2 h3 h4 h5 h6 h7 hv htk hnm hm hlt0 hne
      go_enter Tryz.func62, Tryz.ntmps62
      go_wp2
      go_loopw [4, 6] (fun u4 u6 wr => ∃ (j : Nat) (a : Int), u4 = .int .i64 (j : Int) ∧ u6 = .int .u64 a ∧ W = wr ∧ Aside0 (j ≤ b.length) ∧ Aside0 (NT.rloop (b.drop j) j a = R) ∧ Aside0 (0 ≤ a ∧ a < 18446744073709551616)) (fun u4 u6 _ => b.length + 1 - (intOf u4).toNat)
      case atStart => exact ⟨0, 0, rfl, rfl, rfl, HI0, HR0, ⟨by decide, by decide⟩⟩
      case round =>
        obtain ⟨j, a, rfl, rfl, rfl, HJ, HRL, HA⟩ := hrel
        by_cases hlt : j < b.length
        · have hd : decide ((j : Int) < (b.length : Int)) = true := decide_eq_true (by omega)
          have hd2 : decide (j < b.length) = true := decide_eq_true hlt
          have x0 := at_byte' H4.out j hlt
          have hrl := rloop_drop hlt a
          rw [HRL.out] at hrl
          have hbr := getD_bytes H5.out hlt
          obtain ⟨ch, hch⟩ : ∃ ch, b.getD j 0 = ch := ⟨_, rfl⟩
          rw [hch] at x0 hrl hbr
          have HLTJ := Aside0.mk hlt
          have hp1 : (j : Int) < (b.length : Int) := by omega
          have hp0 : (0 : Int) ≤ (j : Int) := by omega
          clear hch
          by_cases c1 : 48 ≤ ch
          · have e1 : decide (ch ≥ 48) = true := decide_eq_true c1
            have e1' : decide (48 ≤ ch) = true := decide_eq_true c1
            by_cases c2 : ch ≤ 57
            · have e2 : decide (ch ≤ 57) = true := decide_eq_true c2
              by_cases c3 : j < 21
              · have e3 : decide ((j : Int) < 21) = true := decide_eq_true (by omega)
                have e3' : decide (j < 21) = true := decide_eq_true c3
                rw [if_pos ⟨by unfold NT.dig; rw [e1', e2]; rfl, c3⟩] at hrl
                obtain ⟨p, hp⟩ : ∃ p, IntKind.u64.wrap (10 * a) = p := ⟨_, rfl⟩
                obtain ⟨q, hq⟩ : ∃ q, IntKind.u64.wrap (p + (ch - 48)) = q := ⟨_, rfl⟩
                have hqq := step_u64 a ch p q hp hq
                have hs8 : IntKind.u8.wrap (ch - 48) = ch - 48 := by rw [IntKind.wrap_u8]; omega
                have hs64 : IntKind.u64.wrap (ch - 48) = ch - 48 := by rw [IntKind.wrap_u64]; omega
                rw [← hqq] at hrl
                have HQR : Aside0 (0 ≤ q ∧ q < 18446744073709551616) := ⟨hqq ▸ wU_rng _⟩
                have HRL2 := Aside0.mk hrl.symm
                have hjj : (j : Int) + 1 ≤ 9223372036854775807 := by omega
                clear hqq hrl hbr c1 c2 c3 hlt HRL HA hp0
                go_wp2
                all_goals exact ⟨⟨j + 1, q, by go_num, by first | rfl | trivial, by first | rfl | trivial, ⟨by have := HLTJ.out; omega⟩, HRL2, HQR⟩, by clear hp hq hs8 hs64; have := HLTJ.out; simp [intOf]; omega⟩
              · have e3 : decide ((j : Int) < 21) = false := decide_eq_false (by omega)
                have e3' : decide (j < 21) = false := decide_eq_false c3
                rw [if_neg (fun h => c3 h.2)] at hrl
                have hra := hrl.symm
                clear hrl hbr c1 c2 c3 hlt HRL HA hp0
                have hv2 : IntKind.i64.wrap a = NT.wS a := i64_wS a
                have hvv : NT.wS a = v := HV0.out a hra
                have HV := Aside0.mk (show NT.Rng v from hvv ▸ NT.wS_rng _)
                rw [hvv] at hv2
                clear hra
                by_cases hm : m ≤ b.length
                · have ht := run_take (some ad) c b.length m (Nat.le_trans hm H3.out)
                  have HC1 := Aside0.mk (take_C H4.out hm)
                  have hd1 : decide ((m : Int) > (b.length : Int)) = false := decide_eq_false (by omega)
                  have hd1' : decide ((b.length : Int) < (m : Int)) = false := decide_eq_false (by omega)
                  have hd1'' : decide (b.length < m) = false := decide_eq_false (by omega)
                  have HM := Aside0.mk hm
                  have hdr := run_drop (some ad) c b.length m hm
                  go_upto_region 12 with (go_at_call 45; refine (refnum_c v HV.out W).mono ?_; rintro e w2 hN; (obtain ⟨q, c2, he, hq, hlc, hC2, hB⟩ := refnum_row HV.out hN); rw [HMQ.out] at he hlc hC2; subst he; have B2 := Aside0.mk hB; have C2 := Aside0.mk hC2; (have hh := (hB.block g HLT.out).trans H1.out); have z2 : w2.cell? ⟨g, 0, none⟩ = some (.slice (some ad) b.length c) := (blk_cell hh 0).trans rfl; have fz := blk_frozen hh 0; have HH := Aside0.mk hh; have Z2 := Aside0.mk z2; have D1 := Aside0.mk (Kd.C_drew (Kd.C_below HC1.out hB)); have D2 := Aside0.mk (Kd.C_drew hC2); clear hN hq hlc hC2 hB hh)
                  go_region_held (fun w' => w'.cell? ⟨g, 0, none⟩ = some (.slice (some ad) b.length c) ∧ (convert 52 9 (.slice (some ad) m c)).run Tryz.prog w' = .ok (.string (strOfNums (b.take m))) w' ∧ (convert 52 9 (.slice (some ⟨q, 0, none⟩) m c2)).run Tryz.prog w' = .ok (.string (strOfNums nm)) w') (exact ⟨Z2.out, conv_str D1.out, conv_str (by rw [← HNM.out]; exact D2.out)⟩) (fail)
                  have hcut := NR.cut (W := w2) (g := g) (bad := bad) (pl := False) (T := 100) HH.out H2.out H3.out (Kd.C_below H4.out B2.out) H5.out (fun h => h.elim) (fun ad e hp => ⟨(H7.out ad e hp).1, Nat.lt_of_lt_of_le (H7.out ad e hp).2 B2.out.size⟩) m HM.out
                  have HCUT := Aside0.mk hcut
                  clear hcut
                  have HKB := Aside0.mk (KeptB.of_below (B2.out.trans ((below_drew1 (Below.refl w2.heap.size w2)).mono B2.out.size)) (fun k => k = g))
                  have HWN : Aside0 (NR 100 False w2.drew bad g b) := ⟨HW.out.after (B2.out.trans ((below_drew1 (Below.refl w2.heap.size w2)).mono B2.out.size))⟩
                  by_cases hq2 : b.take m = nm
                  · rw [hq2]
                    have hse1 : ((strOfNums nm).toList == (strOfNums nm).toList) = true := beq_self_eq_true _
                    have hse2 : (!((strOfNums nm).toList == (strOfNums nm).toList)) = false := by rw [hse1]; rfl
                    go_wp2
                    all_goals first | exact bodyPost_ret (v := .tuple #[.int .i64 v, .bool true]) (by simp [results, Tryz.results62, go_sem]) rfl (by show RNPost W bad g b (tk b) _ _; rw [HTK.out, if_pos ⟨HM.out, hq2⟩]; exact ⟨rfl, HCUT.out.1.after (below_drew1 (Below.refl _ _)), ((KeptB.of_below B2.out _).trans HCUT.out.2).drew⟩) | (exfalso; rename_i hx; first | (rw [hse1] at hx; cases hx; done) | (simp at hx; done) | (simp at hx; exact hse3 hx))
                  · have hse1 := list_ne (bytes_take H5.out m) (HNM.out ▸ NT.num_bytes v) hq2
                    have hse2 : (!((strOfNums (b.take m)).toList == (strOfNums nm).toList)) = true := by rw [hse1]; rfl
                    have hse3 : ¬ (strOfNums (b.take m)).toList = (strOfNums nm).toList := beq_eq_false_iff_ne.1 hse1
                    go_wp2
                    all_goals first | exact bodyPost_ret (v := .tuple #[.int .i64 0, .bool false]) (by simp [results, Tryz.results62, go_sem]) rfl (by show RNPost W bad g b (tk b) _ _; rw [HTK.out, if_neg (fun h => hq2 h.2)]; exact ⟨rfl, HWN.out, HKB.out⟩) | (exfalso; rename_i hx; first | (rw [hse1] at hx; cases hx; done) | (simp at hx; done) | (simp at hx; exact hse3 hx))
                · have hd1 : decide ((m : Int) > (b.length : Int)) = true := decide_eq_true (by omega)
                  have hd1' : decide ((b.length : Int) < (m : Int)) = true := decide_eq_true (by omega)
                  have hd1'' : decide (b.length < m) = true := decide_eq_true (by omega)
                  have HTK2 : Aside0 (tk b = (0, 0, false)) := ⟨by rw [HTK.out, if_neg (fun h => hm h.1)]⟩
                  clear hm
                  go_upto_region 12 with (go_at_call 45; refine (refnum_c v HV.out W).mono ?_; rintro e w2 hN; (obtain ⟨q, c2, he, hq, hlc, hC2, hB⟩ := refnum_row HV.out hN); rw [HMQ.out] at he hlc hC2; subst he; have B2 := Aside0.mk hB; (have hh := (hB.block g HLT.out).trans H1.out); have z2 : w2.cell? ⟨g, 0, none⟩ = some (.slice (some ad) b.length c) := (blk_cell hh 0).trans rfl; clear hN hq hlc hC2 hB hh)
                  go_quiet (first | fail)
                  go_wp2
                  have HB3 := (B2.out.trans ((pw_below_drewN (Below.refl w2.heap.size w2) nq).mono B2.out.size))
                  exact bodyPost_ret (v := .tuple #[.int .i64 0, .bool false]) (by simp [results, Tryz.results62, go_sem]) rfl (by show RNPost W bad g b (tk b) _ _; rw [HTK2.out]; exact ⟨rfl, HW.out.after HB3, KeptB.of_below HB3 _⟩)
            · have e2 : decide (ch ≤ 57) = false := decide_eq_false c2
              rw [if_neg (fun h => by have := h.1; unfold NT.dig at this; rw [e1', e2] at this; cases this)] at hrl
              have hra := hrl.symm
              clear hrl hbr c1 c2 hlt HRL HA hp0
              have hv2 : IntKind.i64.wrap a = NT.wS a := i64_wS a
              have hvv : NT.wS a = v := HV0.out a hra
              have HV := Aside0.mk (show NT.Rng v from hvv ▸ NT.wS_rng _)
              rw [hvv] at hv2
              clear hra
              by_cases hm : m ≤ b.length
              · have ht := run_take (some ad) c b.length m (Nat.le_trans hm H3.out)
                have HC1 := Aside0.mk (take_C H4.out hm)
                have hd1 : decide ((m : Int) > (b.length : Int)) = false := decide_eq_false (by omega)
                have hd1' : decide ((b.length : Int) < (m : Int)) = false := decide_eq_false (by omega)
                have hd1'' : decide (b.length < m) = false := decide_eq_false (by omega)
                have HM := Aside0.mk hm
                have hdr := run_drop (some ad) c b.length m hm
                go_upto_region 12 with (go_at_call 45; refine (refnum_c v HV.out W).mono ?_; rintro e w2 hN; (obtain ⟨q, c2, he, hq, hlc, hC2, hB⟩ := refnum_row HV.out hN); rw [HMQ.out] at he hlc hC2; subst he; have B2 := Aside0.mk hB; have C2 := Aside0.mk hC2; (have hh := (hB.block g HLT.out).trans H1.out); have z2 : w2.cell? ⟨g, 0, none⟩ = some (.slice (some ad) b.length c) := (blk_cell hh 0).trans rfl; have fz := blk_frozen hh 0; have HH := Aside0.mk hh; have Z2 := Aside0.mk z2; have D1 := Aside0.mk (Kd.C_drew (Kd.C_below HC1.out hB)); have D2 := Aside0.mk (Kd.C_drew hC2); clear hN hq hlc hC2 hB hh)
                go_region_held (fun w' => w'.cell? ⟨g, 0, none⟩ = some (.slice (some ad) b.length c) ∧ (convert 52 9 (.slice (some ad) m c)).run Tryz.prog w' = .ok (.string (strOfNums (b.take m))) w' ∧ (convert 52 9 (.slice (some ⟨q, 0, none⟩) m c2)).run Tryz.prog w' = .ok (.string (strOfNums nm)) w') (exact ⟨Z2.out, conv_str D1.out, conv_str (by rw [← HNM.out]; exact D2.out)⟩) (fail)
                have hcut := NR.cut (W := w2) (g := g) (bad := bad) (pl := False) (T := 100) HH.out H2.out H3.out (Kd.C_below H4.out B2.out) H5.out (fun h => h.elim) (fun ad e hp => ⟨(H7.out ad e hp).1, Nat.lt_of_lt_of_le (H7.out ad e hp).2 B2.out.size⟩) m HM.out
                have HCUT := Aside0.mk hcut
                clear hcut
                have HKB := Aside0.mk (KeptB.of_below (B2.out.trans ((below_drew1 (Below.refl w2.heap.size w2)).mono B2.out.size)) (fun k => k = g))
                have HWN : Aside0 (NR 100 False w2.drew bad g b) := ⟨HW.out.after (B2.out.trans ((below_drew1 (Below.refl w2.heap.size w2)).mono B2.out.size))⟩
                by_cases hq2 : b.take m = nm
                · rw [hq2]
                  have hse1 : ((strOfNums nm).toList == (strOfNums nm).toList) = true := beq_self_eq_true _
                  have hse2 : (!((strOfNums nm).toList == (strOfNums nm).toList)) = false := by rw [hse1]; rfl
                  go_wp2
                  all_goals first | exact bodyPost_ret (v := .tuple #[.int .i64 v, .bool true]) (by simp [results, Tryz.results62, go_sem]) rfl (by show RNPost W bad g b (tk b) _ _; rw [HTK.out, if_pos ⟨HM.out, hq2⟩]; exact ⟨rfl, HCUT.out.1.after (below_drew1 (Below.refl _ _)), ((KeptB.of_below B2.out _).trans HCUT.out.2).drew⟩) | (exfalso; rename_i hx; first | (rw [hse1] at hx; cases hx; done) | (simp at hx; done) | (simp at hx; exact hse3 hx))
                · have hse1 := list_ne (bytes_take H5.out m) (HNM.out ▸ NT.num_bytes v) hq2
                  have hse2 : (!((strOfNums (b.take m)).toList == (strOfNums nm).toList)) = true := by rw [hse1]; rfl
                  have hse3 : ¬ (strOfNums (b.take m)).toList = (strOfNums nm).toList := beq_eq_false_iff_ne.1 hse1
                  go_wp2
                  all_goals first | exact bodyPost_ret (v := .tuple #[.int .i64 0, .bool false]) (by simp [results, Tryz.results62, go_sem]) rfl (by show RNPost W bad g b (tk b) _ _; rw [HTK.out, if_neg (fun h => hq2 h.2)]; exact ⟨rfl, HWN.out, HKB.out⟩) | (exfalso; rename_i hx; first | (rw [hse1] at hx; cases hx; done) | (simp at hx; done) | (simp at hx; exact hse3 hx))
              · have hd1 : decide ((m : Int) > (b.length : Int)) = true := decide_eq_true (by omega)
                have hd1' : decide ((b.length : Int) < (m : Int)) = true := decide_eq_true (by omega)
                have hd1'' : decide (b.length < m) = true := decide_eq_true (by omega)
                have HTK2 : Aside0 (tk b = (0, 0, false)) := ⟨by rw [HTK.out, if_neg (fun h => hm h.1)]⟩
                clear hm
                go_upto_region 12 with (go_at_call 45; refine (refnum_c v HV.out W).mono ?_; rintro e w2 hN; (obtain ⟨q, c2, he, hq, hlc, hC2, hB⟩ := refnum_row HV.out hN); rw [HMQ.out] at he hlc hC2; subst he; have B2 := Aside0.mk hB; (have hh := (hB.block g HLT.out).trans H1.out); have z2 : w2.cell? ⟨g, 0, none⟩ = some (.slice (some ad) b.length c) := (blk_cell hh 0).trans rfl; clear hN hq hlc hC2 hB hh)
                go_quiet (first | fail)
                go_wp2
                have HB3 := (B2.out.trans ((pw_below_drewN (Below.refl w2.heap.size w2) nq).mono B2.out.size))
                exact bodyPost_ret (v := .tuple #[.int .i64 0, .bool false]) (by simp [results, Tryz.results62, go_sem]) rfl (by show RNPost W bad g b (tk b) _ _; rw [HTK2.out]; exact ⟨rfl, HW.out.after HB3, KeptB.of_below HB3 _⟩)
          · have e1 : decide (ch ≥ 48) = false := decide_eq_false c1
            have e1' : decide (48 ≤ ch) = false := decide_eq_false c1
            rw [if_neg (fun h => by have := h.1; unfold NT.dig at this; rw [e1'] at this; cases this)] at hrl
            have hra := hrl.symm
            clear hrl hbr c1 hlt HRL HA hp0
            have hv2 : IntKind.i64.wrap a = NT.wS a := i64_wS a
            have hvv : NT.wS a = v := HV0.out a hra
            have HV := Aside0.mk (show NT.Rng v from hvv ▸ NT.wS_rng _)
            rw [hvv] at hv2
            clear hra
            by_cases hm : m ≤ b.length
            · have ht := run_take (some ad) c b.length m (Nat.le_trans hm H3.out)
              have HC1 := Aside0.mk (take_C H4.out hm)
              have hd1 : decide ((m : Int) > (b.length : Int)) = false := decide_eq_false (by omega)
              have hd1' : decide ((b.length : Int) < (m : Int)) = false := decide_eq_false (by omega)
              have hd1'' : decide (b.length < m) = false := decide_eq_false (by omega)
              have HM := Aside0.mk hm
              have hdr := run_drop (some ad) c b.length m hm
              go_upto_region 12 with (go_at_call 45; refine (refnum_c v HV.out W).mono ?_; rintro e w2 hN; (obtain ⟨q, c2, he, hq, hlc, hC2, hB⟩ := refnum_row HV.out hN); rw [HMQ.out] at he hlc hC2; subst he; have B2 := Aside0.mk hB; have C2 := Aside0.mk hC2; (have hh := (hB.block g HLT.out).trans H1.out); have z2 : w2.cell? ⟨g, 0, none⟩ = some (.slice (some ad) b.length c) := (blk_cell hh 0).trans rfl; have fz := blk_frozen hh 0; have HH := Aside0.mk hh; have Z2 := Aside0.mk z2; have D1 := Aside0.mk (Kd.C_drew (Kd.C_below HC1.out hB)); have D2 := Aside0.mk (Kd.C_drew hC2); clear hN hq hlc hC2 hB hh)
              go_region_held (fun w' => w'.cell? ⟨g, 0, none⟩ = some (.slice (some ad) b.length c) ∧ (convert 52 9 (.slice (some ad) m c)).run Tryz.prog w' = .ok (.string (strOfNums (b.take m))) w' ∧ (convert 52 9 (.slice (some ⟨q, 0, none⟩) m c2)).run Tryz.prog w' = .ok (.string (strOfNums nm)) w') (exact ⟨Z2.out, conv_str D1.out, conv_str (by rw [← HNM.out]; exact D2.out)⟩) (fail)
              have hcut := NR.cut (W := w2) (g := g) (bad := bad) (pl := False) (T := 100) HH.out H2.out H3.out (Kd.C_below H4.out B2.out) H5.out (fun h => h.elim) (fun ad e hp => ⟨(H7.out ad e hp).1, Nat.lt_of_lt_of_le (H7.out ad e hp).2 B2.out.size⟩) m HM.out
              have HCUT := Aside0.mk hcut
              clear hcut
              have HKB := Aside0.mk (KeptB.of_below (B2.out.trans ((below_drew1 (Below.refl w2.heap.size w2)).mono B2.out.size)) (fun k => k = g))
              have HWN : Aside0 (NR 100 False w2.drew bad g b) := ⟨HW.out.after (B2.out.trans ((below_drew1 (Below.refl w2.heap.size w2)).mono B2.out.size))⟩
              by_cases hq2 : b.take m = nm
              · rw [hq2]
                have hse1 : ((strOfNums nm).toList == (strOfNums nm).toList) = true := beq_self_eq_true _
                have hse2 : (!((strOfNums nm).toList == (strOfNums nm).toList)) = false := by rw [hse1]; rfl
                go_wp2
                all_goals first | exact bodyPost_ret (v := .tuple #[.int .i64 v, .bool true]) (by simp [results, Tryz.results62, go_sem]) rfl (by show RNPost W bad g b (tk b) _ _; rw [HTK.out, if_pos ⟨HM.out, hq2⟩]; exact ⟨rfl, HCUT.out.1.after (below_drew1 (Below.refl _ _)), ((KeptB.of_below B2.out _).trans HCUT.out.2).drew⟩) | (exfalso; rename_i hx; first | (rw [hse1] at hx; cases hx; done) | (simp at hx; done) | (simp at hx; exact hse3 hx))
              · have hse1 := list_ne (bytes_take H5.out m) (HNM.out ▸ NT.num_bytes v) hq2
                have hse2 : (!((strOfNums (b.take m)).toList == (strOfNums nm).toList)) = true := by rw [hse1]; rfl
                have hse3 : ¬ (strOfNums (b.take m)).toList = (strOfNums nm).toList := beq_eq_false_iff_ne.1 hse1
                go_wp2
                all_goals first | exact bodyPost_ret (v := .tuple #[.int .i64 0, .bool false]) (by simp [results, Tryz.results62, go_sem]) rfl (by show RNPost W bad g b (tk b) _ _; rw [HTK.out, if_neg (fun h => hq2 h.2)]; exact ⟨rfl, HWN.out, HKB.out⟩) | (exfalso; rename_i hx; first | (rw [hse1] at hx; cases hx; done) | (simp at hx; done) | (simp at hx; exact hse3 hx))
            · have hd1 : decide ((m : Int) > (b.length : Int)) = true := decide_eq_true (by omega)
              have hd1' : decide ((b.length : Int) < (m : Int)) = true := decide_eq_true (by omega)
              have hd1'' : decide (b.length < m) = true := decide_eq_true (by omega)
              have HTK2 : Aside0 (tk b = (0, 0, false)) := ⟨by rw [HTK.out, if_neg (fun h => hm h.1)]⟩
              clear hm
              go_upto_region 12 with (go_at_call 45; refine (refnum_c v HV.out W).mono ?_; rintro e w2 hN; (obtain ⟨q, c2, he, hq, hlc, hC2, hB⟩ := refnum_row HV.out hN); rw [HMQ.out] at he hlc hC2; subst he; have B2 := Aside0.mk hB; (have hh := (hB.block g HLT.out).trans H1.out); have z2 : w2.cell? ⟨g, 0, none⟩ = some (.slice (some ad) b.length c) := (blk_cell hh 0).trans rfl; clear hN hq hlc hC2 hB hh)
              go_quiet (first | fail)
              go_wp2
              have HB3 := (B2.out.trans ((pw_below_drewN (Below.refl w2.heap.size w2) nq).mono B2.out.size))
              exact bodyPost_ret (v := .tuple #[.int .i64 0, .bool false]) (by simp [results, Tryz.results62, go_sem]) rfl (by show RNPost W bad g b (tk b) _ _; rw [HTK2.out]; exact ⟨rfl, HW.out.after HB3, KeptB.of_below HB3 _⟩)
        · have hd : decide ((j : Int) < (b.length : Int)) = false := decide_eq_false (by omega)
          have hd2 : decide (j < b.length) = false := decide_eq_false hlt
          have hra := (rloop_end hlt a).symm.trans HRL.out
          clear hlt HRL HA
          have hv2 : IntKind.i64.wrap a = NT.wS a := i64_wS a
          have hvv : NT.wS a = v := HV0.out a hra
          have HV := Aside0.mk (show NT.Rng v from hvv ▸ NT.wS_rng _)
          rw [hvv] at hv2
          clear hra
          by_cases hm : m ≤ b.length
          · have ht := run_take (some ad) c b.length m (Nat.le_trans hm H3.out)
            have HC1 := Aside0.mk (take_C H4.out hm)
            have hd1 : decide ((m : Int) > (b.length : Int)) = false := decide_eq_false (by omega)
            have hd1' : decide ((b.length : Int) < (m : Int)) = false := decide_eq_false (by omega)
            have hd1'' : decide (b.length < m) = false := decide_eq_false (by omega)
            have HM := Aside0.mk hm
            have hdr := run_drop (some ad) c b.length m hm
            go_upto_region 12 with (go_at_call 45; refine (refnum_c v HV.out W).mono ?_; rintro e w2 hN; (obtain ⟨q, c2, he, hq, hlc, hC2, hB⟩ := refnum_row HV.out hN); rw [HMQ.out] at he hlc hC2; subst he; have B2 := Aside0.mk hB; have C2 := Aside0.mk hC2; (have hh := (hB.block g HLT.out).trans H1.out); have z2 : w2.cell? ⟨g, 0, none⟩ = some (.slice (some ad) b.length c) := (blk_cell hh 0).trans rfl; have fz := blk_frozen hh 0; have HH := Aside0.mk hh; have Z2 := Aside0.mk z2; have D1 := Aside0.mk (Kd.C_drew (Kd.C_below HC1.out hB)); have D2 := Aside0.mk (Kd.C_drew hC2); clear hN hq hlc hC2 hB hh)
            go_region_held (fun w' => w'.cell? ⟨g, 0, none⟩ = some (.slice (some ad) b.length c) ∧ (convert 52 9 (.slice (some ad) m c)).run Tryz.prog w' = .ok (.string (strOfNums (b.take m))) w' ∧ (convert 52 9 (.slice (some ⟨q, 0, none⟩) m c2)).run Tryz.prog w' = .ok (.string (strOfNums nm)) w') (exact ⟨Z2.out, conv_str D1.out, conv_str (by rw [← HNM.out]; exact D2.out)⟩) (fail)
            have hcut := NR.cut (W := w2) (g := g) (bad := bad) (pl := False) (T := 100) HH.out H2.out H3.out (Kd.C_below H4.out B2.out) H5.out (fun h => h.elim) (fun ad e hp => ⟨(H7.out ad e hp).1, Nat.lt_of_lt_of_le (H7.out ad e hp).2 B2.out.size⟩) m HM.out
            have HCUT := Aside0.mk hcut
            clear hcut
            have HKB := Aside0.mk (KeptB.of_below (B2.out.trans ((below_drew1 (Below.refl w2.heap.size w2)).mono B2.out.size)) (fun k => k = g))
            have HWN : Aside0 (NR 100 False w2.drew bad g b) := ⟨HW.out.after (B2.out.trans ((below_drew1 (Below.refl w2.heap.size w2)).mono B2.out.size))⟩
            by_cases hq2 : b.take m = nm
            · rw [hq2]
              have hse1 : ((strOfNums nm).toList == (strOfNums nm).toList) = true := beq_self_eq_true _
              have hse2 : (!((strOfNums nm).toList == (strOfNums nm).toList)) = false := by rw [hse1]; rfl
              go_wp2
              all_goals first | exact bodyPost_ret (v := .tuple #[.int .i64 v, .bool true]) (by simp [results, Tryz.results62, go_sem]) rfl (by show RNPost W bad g b (tk b) _ _; rw [HTK.out, if_pos ⟨HM.out, hq2⟩]; exact ⟨rfl, HCUT.out.1.after (below_drew1 (Below.refl _ _)), ((KeptB.of_below B2.out _).trans HCUT.out.2).drew⟩) | (exfalso; rename_i hx; first | (rw [hse1] at hx; cases hx; done) | (simp at hx; done) | (simp at hx; exact hse3 hx))
            · have hse1 := list_ne (bytes_take H5.out m) (HNM.out ▸ NT.num_bytes v) hq2
              have hse2 : (!((strOfNums (b.take m)).toList == (strOfNums nm).toList)) = true := by rw [hse1]; rfl
              have hse3 : ¬ (strOfNums (b.take m)).toList = (strOfNums nm).toList := beq_eq_false_iff_ne.1 hse1
              go_wp2
              all_goals first | exact bodyPost_ret (v := .tuple #[.int .i64 0, .bool false]) (by simp [results, Tryz.results62, go_sem]) rfl (by show RNPost W bad g b (tk b) _ _; rw [HTK.out, if_neg (fun h => hq2 h.2)]; exact ⟨rfl, HWN.out, HKB.out⟩) | (exfalso; rename_i hx; first | (rw [hse1] at hx; cases hx; done) | (simp at hx; done) | (simp at hx; exact hse3 hx))
          · have hd1 : decide ((m : Int) > (b.length : Int)) = true := decide_eq_true (by omega)
            have hd1' : decide ((b.length : Int) < (m : Int)) = true := decide_eq_true (by omega)
            have hd1'' : decide (b.length < m) = true := decide_eq_true (by omega)
            have HTK2 : Aside0 (tk b = (0, 0, false)) := ⟨by rw [HTK.out, if_neg (fun h => hm h.1)]⟩
            clear hm
            go_upto_region 12 with (go_at_call 45; refine (refnum_c v HV.out W).mono ?_; rintro e w2 hN; (obtain ⟨q, c2, he, hq, hlc, hC2, hB⟩ := refnum_row HV.out hN); rw [HMQ.out] at he hlc hC2; subst he; have B2 := Aside0.mk hB; (have hh := (hB.block g HLT.out).trans H1.out); have z2 : w2.cell? ⟨g, 0, none⟩ = some (.slice (some ad) b.length c) := (blk_cell hh 0).trans rfl; clear hN hq hlc hC2 hB hh)
            go_quiet (first | fail)
            go_wp2
            have HB3 := (B2.out.trans ((pw_below_drewN (Below.refl w2.heap.size w2) nq).mono B2.out.size))
            exact bodyPost_ret (v := .tuple #[.int .i64 0, .bool false]) (by simp [results, Tryz.results62, go_sem]) rfl (by show RNPost W bad g b (tk b) _ _; rw [HTK2.out]; exact ⟨rfl, HW.out.after HB3, KeptB.of_below HB3 _⟩)
attribute [local go_sem] Oper.semAt_some
theorem NR.store {T : Nat} {pl : Prop} {W : World} {bad : List Nat} {g c : Nat} {b : List Int} {A : Option Addr} {x : Value} (h1 : W.heap[g]? = some (.cells #[x] T (0, 0))) (h2 : g ∈ bad) (h3 : b.length ≤ c) (h4 : (Kd.int .u8).C W A b.length b) (h5 : NBytes b) (h6 : pl → Plain A c) (h7 : ∀ ad, A = some ad → 0 < b.length → ad.block ∉ bad ∧ ad.block < W.heap.size) :
    NR T pl (W.setCell ⟨g, 0, none⟩ (.slice A b.length c)) bad g b ∧ KeptB (fun k => k = g) W (W.setCell ⟨g, 0, none⟩ (.slice A b.length c)) := by
  have hk : KeptB (fun k => k = g) W (W.setCell ⟨g, 0, none⟩ (.slice A b.length c)) := KeptB.setCell (S := fun k => k = g) (p := ⟨g, 0, none⟩) (KeptB.refl _ W) (.inl rfl) _
  exact ⟨⟨A, c, blk_put h1 0 _ rfl, h2, h3, C_blk h4 (fun ad e hp => hk.block _ (h7 ad e hp).2 (fun e2 => (h7 ad e hp).1 (by rw [e2]; exact h2))), h5, h6, fun ad e hp => ⟨(h7 ad e hp).1, Nat.lt_of_lt_of_le (h7 ad e hp).2 hk.size⟩⟩, hk⟩
def RTPost (W : World) (bad : List Nat) (g : Nat) (b : List Int) (r : List Int × Nat × Bool) (e : Ending) (w' : World) : Prop :=
  e = .returned (.tuple #[.string (strOfNums r.1), .bool r.2.2]) ∧ NR 100 False w' bad g (b.drop r.2.1) ∧ KeptB (fun k => k = g) W w'
set_option maxHeartbeats 8000000 in
set_option maxRecDepth 100000 in
theorem refrtext_c {W : World} {bad : List Nat} {g : Nat} {b : List Int} (h : NR 100 False W bad g b) (hl : b.length ≤ 1099511627776) :
    Calls Tryz.prog 63 #[.pointer (some ⟨g, 0, none⟩)] W (RTPost W bad g b (tT b)) := by
  have hN := refrnum_c h
  obtain ⟨A, c, h1, h2, h3, h4, h5, h6, h7⟩ := h
  have hlt : g < W.heap.size := (Array.getElem?_eq_some_iff.1 h1).1
  have z : W.cell? ⟨g, 0, none⟩ = some (.slice A b.length c) := (blk_cell h1 0).trans rfl
  -- what was is put back
  have hback : ∀ w1 : World, KeptB (fun k => k = g) W w1 → (∃ x, w1.heap[g]? = some (.cells #[x] 100 (0, 0))) → NR 100 False (w1.setCell ⟨g, 0, none⟩ (.slice A b.length c)) bad g b ∧ KeptB (fun k => k = g) W (w1.setCell ⟨g, 0, none⟩ (.slice A b.length c)) := fun w1 hk ⟨x, hx⟩ => by
    have hs := NR.store (pl := False) (T := 100) hx h2 h3 (C_blk h4 (fun ad e hp => hk.block _ (h7 ad e hp).2 (fun e2 => (h7 ad e hp).1 (by rw [e2]; exact h2)))) h5 (fun h => h.elim) (fun ad e hp => ⟨(h7 ad e hp).1, Nat.lt_of_lt_of_le (h7 ad e hp).2 hk.size⟩)
    exact ⟨hs.1, hk.trans hs.2⟩
  have HBACK := Aside0.mk hback
  clear hback h1 h2 h3 h4 h5 h6 h7 hlt
  rcases tk_cases b with hq | ⟨n, k, hq, ht, hr, hk⟩
  · rw [hq] at hN
    have HTT := Aside0.mk (tT_none hq)
    have HN := Aside0.mk hN
    clear hN hq
    go_enter Tryz.func63, Tryz.ntmps63
    go_wp2_with (go_at_call 62; refine HN.out.mono ?_; unfold RNPost; dsimp only; rintro e w1 ⟨rfl, hN1, hK1⟩; (obtain ⟨A1, c1, hh, g2, g3, g4, g5, g6, g7⟩ := hN1); (have hz1 := (blk_cell hh 0).trans (rfl : _ = some _)); have fz := blk_frozen hh 0; have HH := Aside0.mk hh; have K1 := Aside0.mk hK1; clear hh hK1 g2 g3 g4 g5 g6 g7)
    have hb := HBACK.out w1 K1.out ⟨_, HH.out⟩
    exact bodyPost_ret (v := .tuple #[.string ⟨#[]⟩, .bool false]) (by simp [results, Tryz.results63, go_sem]) rfl (by show RTPost W bad g b (tT b) _ _; rw [HTT.out]; exact ⟨rfl, hb.1, hb.2⟩)
  · rw [hq] at hN
    obtain ⟨m, hmq⟩ : ∃ m, b.length - k = m := ⟨_, rfl⟩
    have hdl : (b.drop k).length = m := by rw [List.length_drop, hmq]
    have htt := tT_some ht
    rw [hmq] at htt
    have HN := Aside0.mk hN
    have HDL := Aside0.mk hdl
    by_cases hc : 0 ≤ n ∧ n ≤ (m : Int)
    · rw [if_pos hc] at htt
      obtain ⟨nn, rfl⟩ := Int.eq_ofNat_of_zero_le hc.1
      rw [Int.toNat_natCast] at htt
      have HTT := Aside0.mk htt
      have hnm : nn ≤ m := Int.ofNat_le.1 hc.2
      have HNM := Aside0.mk hnm
      have d1 : decide ((nn : Int) < 0) = false := decide_eq_false (by omega)
      have d2 : decide ((nn : Int) > (m : Int)) = false := decide_eq_false (by omega)
      have d3 : decide ((m : Int) < (nn : Int)) = false := decide_eq_false (by omega)
      have d4 : decide (m < nn) = false := decide_eq_false (by omega)
      obtain ⟨s, hs⟩ : ∃ s, strOfNums ((b.drop k).take nn) = s := ⟨_, rfl⟩
      have HS := Aside0.mk hs
      clear hN hq hc htt hmq hdl hnm ht hr hk hs hl
      go_enter Tryz.func63, Tryz.ntmps63
      go_upto_region 3 with (go_at_call 62; refine HN.out.mono ?_; unfold RNPost; dsimp only; rintro e w1 ⟨rfl, hN1, hK1⟩; (obtain ⟨A1, c1, hh, g2, g3, g4, g5, g6, g7⟩ := hN1); rw [HDL.out] at hh g3; have hz1 : w1.cell? ⟨g, 0, none⟩ = some (.slice A1 m c1) := (blk_cell hh 0).trans rfl; have fz := blk_frozen hh 0; have HH := Aside0.mk hh; have K1 := Aside0.mk hK1; (have htk := run_take A1 c1 m nn (Nat.le_trans HNM.out g3)); (have hdr := run_drop A1 c1 m nn HNM.out); (have hcv := conv_str (c := c1) (take_C (m := nn) g4 (by rw [HDL.out]; exact HNM.out))); rw [HS.out] at hcv; have G2 := Aside0.mk g2; have G3 := Aside0.mk g3; have G4 := Aside0.mk g4; have G5 := Aside0.mk g5; have G7 := Aside0.mk g7; clear hh hK1 g2 g3 g4 g5 g6 g7)
      go_wp2
      have hcut := NR.cut (W := w1) (g := g) (bad := bad) (pl := False) (T := 100) (b := b.drop k) (A := A1) (c := c1) (by rw [HDL.out]; exact HH.out) G2.out (by rw [HDL.out]; exact G3.out) G4.out G5.out (fun h => h.elim) G7.out nn (by rw [HDL.out]; exact HNM.out)
      rw [HDL.out, List.drop_drop] at hcut
      exact bodyPost_ret (v := .tuple #[.string s, .bool true]) (by simp [results, Tryz.results63, go_sem]) rfl (by show RTPost W bad g b (tT b) _ _; rw [HTT.out]; exact ⟨by rw [HS.out], hcut.1, K1.out.trans hcut.2⟩)
    · rw [if_neg hc] at htt
      have HTT := Aside0.mk htt
      by_cases h0 : n < 0
      · have d1 : decide (n < 0) = true := decide_eq_true h0
        clear hN hq hc htt hmq hdl ht hr hk hl h0
        go_enter Tryz.func63, Tryz.ntmps63
        go_wp2_with (go_at_call 62; refine HN.out.mono ?_; unfold RNPost; dsimp only; rintro e w1 ⟨rfl, hN1, hK1⟩; (obtain ⟨A1, c1, hh, g2, g3, g4, g5, g6, g7⟩ := hN1); (have hz1 := (blk_cell hh 0).trans (rfl : _ = some _)); have fz := blk_frozen hh 0; have HH := Aside0.mk hh; have K1 := Aside0.mk hK1; clear hh hK1 g2 g3 g4 g5 g6 g7)
        have hb := HBACK.out w1 K1.out ⟨_, HH.out⟩
        exact bodyPost_ret (v := .tuple #[.string ⟨#[]⟩, .bool false]) (by simp [results, Tryz.results63, go_sem]) rfl (by show RTPost W bad g b (tT b) _ _; rw [HTT.out]; exact ⟨rfl, hb.1, hb.2⟩)
      · have d1 : decide (n < 0) = false := decide_eq_false h0
        have d2 : decide (n > (m : Int)) = true := decide_eq_true (by omega)
        have d3 : decide ((m : Int) < n) = true := decide_eq_true (by omega)
        clear hN hq hc htt hmq hdl ht hr hk hl h0
        go_enter Tryz.func63, Tryz.ntmps63
        go_wp2_with (go_at_call 62; refine HN.out.mono ?_; unfold RNPost; dsimp only; rintro e w1 ⟨rfl, hN1, hK1⟩; (obtain ⟨A1, c1, hh, g2, g3, g4, g5, g6, g7⟩ := hN1); rw [HDL.out] at hh; have hz1 : w1.cell? ⟨g, 0, none⟩ = some (.slice A1 m c1) := (blk_cell hh 0).trans rfl; have fz := blk_frozen hh 0; have HH := Aside0.mk hh; have K1 := Aside0.mk hK1; clear hh hK1 g2 g3 g4 g5 g6 g7)
        have hb := HBACK.out w1 K1.out ⟨_, HH.out⟩
        exact bodyPost_ret (v := .tuple #[.string ⟨#[]⟩, .bool false]) (by simp [results, Tryz.results63, go_sem]) rfl (by show RTPost W bad g b (tT b) _ _; rw [HTT.out]; exact ⟨rfl, hb.1, hb.2⟩)
attribute [local go_sem] Oper.semAt_some
/-! append onto bytes that were converted. -/
theorem strCells_at (s : ByteArray) (j : Nat) (hj : j < s.size) : (Lib.strCells s)[j]? = some (.int .u8 ((strL s).getD j 0)) := by
  have hl : j < s.data.toList.length := by rw [Array.length_toList]; exact hj
  unfold Lib.strCells strL NT.ints
  rw [List.getElem?_map, List.getD_eq_getElem?_getD, List.getElem?_map, List.getElem?_eq_getElem hl]
  rfl
theorem C_join {W : World} {g n : Nat} {xs ys : List Int} (hn : xs.length = n) (hl : (xs ++ ys).length ≤ 9223372036854775807) (h1 : ∀ j, j < n → W.cell? ⟨g, j, none⟩ = some (.int .u8 (xs.getD j 0))) (h2 : ∀ j, j < ys.length → W.cell? ⟨g, n + j, none⟩ = some (.int .u8 (ys.getD j 0))) :
    (Kd.int .u8).C W (some ⟨g, 0, none⟩) (xs ++ ys).length (xs ++ ys) :=
  ⟨rfl, hl, fun _ => ⟨_, rfl, fun j p hj => by
    refine ⟨[.int .u8 p], rfl, rfl, fun i u hu => ?_⟩
    have hi : i = 0 := by have := (List.getElem?_eq_some_iff.1 hu).1; simpa using this
    subst hi
    obtain rfl : Value.int .u8 p = u := by simpa using hu
    rw [show (Kd.int .u8).sz = 1 from rfl, Nat.mul_one, Nat.add_zero, Kd.add_plain2, Nat.zero_add]
    by_cases hlt : j < xs.length
    · rw [List.getElem?_append_left hlt] at hj
      rw [h1 j (by omega), List.getD_eq_getElem?_getD, hj]
      rfl
    · rw [List.getElem?_append_right (by omega)] at hj
      have h3 := h2 (j - xs.length) (List.getElem?_eq_some_iff.1 hj).1
      rw [List.getD_eq_getElem?_getD, hj, show n + (j - xs.length) = j by omega] at h3
      exact h3⟩⟩

theorem append_conv (W1 : World) (t s : ByteArray) (ty : TypeId) (hl : t.size + s.size ≤ 140737488355328) :
    ∃ v w', (Builtin.append_ #[52, 9] ty #[.slice (some ⟨W1.heap.size, 0, none⟩) t.size (grownCap W1 t.size 0 5), .string s]).run Tryz.prog (Lib.bytesWorld W1 5 t) = .ok v w' ∧
      (∃ A c, v = .slice A (strL t ++ strL s).length c ∧ (strL t ++ strL s).length ≤ c ∧ (Kd.int .u8).C w' A (strL t ++ strL s).length (strL t ++ strL s)) ∧ Below W1.heap.size W1 w' := by
  obtain ⟨i0, hi, hz0, hz1, hz2⟩ := info_parts info5
  have hlen : (strL t ++ strL s).length = t.size + s.size := by rw [List.length_append, strL_len, strL_len]
  have hlenx : (strL t ++ strL s).length ≤ 9223372036854775807 := by omega
  obtain ⟨c, hc⟩ : ∃ c, grownCap W1 t.size 0 5 = c := ⟨_, rfl⟩
  have hge := grownCap_ge W1 t.size 0 5
  rw [hc] at hge ⊢
  have hbs : (Lib.bytesCells W1 5 t).size = c := by
    unfold Lib.bytesCells
    rw [Array.size_append, Array.size_map, Array.size_replicate, hc]
    show t.size + _ = _
    omega
  have hbl := Lib.bytesWorld_at_new W1 5 t
  rw [hbs] at hbl
  have hbw := Lib.bytesWorld_below W1 5 t
  have hxs : ∀ j, j < t.size → (Lib.bytesWorld W1 5 t).cell? ⟨W1.heap.size, j, none⟩ = some (.int .u8 ((strL t).getD j 0)) := fun j hj => by
    rw [Lib.bytesWorld_cell W1 5 t j hj]
    have h3 : j < t.data.toList.length := by rw [Array.length_toList]; exact hj
    unfold strL NT.ints
    rw [List.getD_eq_getElem?_getD, List.getD_eq_getElem?_getD, List.getElem?_map, List.getElem?_eq_getElem h3]
    rfl
  obtain ⟨W, hW⟩ : ∃ W, W = Lib.bytesWorld W1 5 t := ⟨_, rfl⟩
  rw [← hW] at hbl hbw hxs ⊢
  obtain ⟨cells, hcells⟩ : ∃ cells, Lib.bytesCells W1 5 t = cells := ⟨_, rfl⟩
  rw [hcells] at hbl hbs
  have hsome : ∀ j, j < c → (W.cell? ⟨W1.heap.size, j, none⟩).isSome = true := fun j hj => by
    rw [World.cell?, hbl]
    simp [hbs, hj]
  have hfro : ∀ j, j < c → W.frozen? ⟨W1.heap.size, j, none⟩ = false := fun j hj => by
    simp only [World.frozen?, hbl, Bool.and_eq_false_iff, decide_eq_false_iff_not]
    left
    omega
  have hf := Lib.run_firstCells_string (P := Tryz.prog) W 1 s
  have hsl := Lib.strCells_length s
  by_cases hroom : t.size + s.size ≤ c
  · have hst := run_storeCells_cells (P := Tryz.prog) W1.heap.size t.size (Lib.strCells s) 0 W (fun j hj => by rw [Nat.add_zero]; exact hsome _ (by omega)) (fun j hj => by rw [Nat.add_zero]; exact hfro _ (by omega)) (Lib.strCells_oneCell s)
    rw [Nat.add_zero] at hst
    refine ⟨_, W.setCells W1.heap.size t.size (Lib.strCells s), ?_, ⟨some ⟨W1.heap.size, 0, none⟩, c, rfl, by omega, ?_⟩, Kd.below_setCells hbw (Nat.le_refl _)⟩
    · rw [hlen]
      simp [Builtin.append_, run_underlying Tryz.underlying52, run_underlying Tryz.underlying9, sizeOf, typeInfo, hi, hz1, Builtin.lenOf, hroom, hf, Addr.add_lit, hst]
    · refine C_join (strL_len t) hlenx (fun j hj => ?_) (fun j hj => ?_)
      · rw [World.cell?_setCells_out W1.heap.size _ _ _ _ (fun _ _ => .inl hj)]
        exact hxs j hj
      · rw [strL_len] at hj
        rw [World.cell?_setCells_in W1.heap.size (Lib.strCells s) t.size W (fun i hi => hsome _ (by omega)) j (by omega)]
        have h4 := strCells_at s j hj
        rw [List.getElem?_eq_getElem (by omega)] at h4
        exact h4
  · have hr := Lib.run_append_grow_string (P := Tryz.prog) W 52 9 ty 5 i0 (.int .u8 0) Tryz.underlying52 Tryz.underlying9 hi hz0 ⟨W1.heap.size, 0, none⟩ t.size c (Lib.strCells t) (by rw [Lib.strCells_length, hz1, Nat.mul_one]) (fun j v hj => by
      have hjl : j < t.size := by
        have := (List.getElem?_eq_some_iff.1 hj).1
        rwa [Lib.strCells_length] at this
      rw [strCells_at t j hjl] at hj
      rw [Kd.add_plain2, Nat.zero_add, hxs j hjl, hj]) s (by omega) (by omega) (by rw [hz2]; exact growslice_fits (by omega) (by omega))
    have hgc := grownCap_ge W (t.size + s.size) c 5
    refine ⟨_, _, hr, ⟨some ⟨W.heap.size, 0, none⟩, _, by rw [hlen], by rw [hlen]; exact hgc, ?_⟩, hbw.trans ((below_alloc (below_drew1 (Below.refl W.heap.size W)) _).mono hbw.size)⟩
    have hnew := heap_alloc_new W.drew (.cells ((Lib.strCells t).toArray ++ (Lib.strCells s).toArray ++ Builtin.zeroCells (Value.int .u8 0).cells (grownCap W (t.size + s.size) c 5 - (t.size + s.size))) 5)
    refine C_join (strL_len t) hlenx (fun j hj => ?_) (fun j hj => ?_)
    · rw [show W.heap.size = W.drew.heap.size from rfl, blk_cell hnew j, Array.getElem?_append_left (by simp [Lib.strCells_length]; omega), Array.getElem?_append_left (by simp [Lib.strCells_length]; omega), List.getElem?_toArray]
      exact strCells_at t j hj
    · rw [strL_len] at hj
      rw [show W.heap.size = W.drew.heap.size from rfl, blk_cell hnew _, Array.getElem?_append_left (by simp [Lib.strCells_length]; omega), Array.getElem?_append_right (by simp [Lib.strCells_length]), List.size_toArray, Lib.strCells_length, List.getElem?_toArray, Nat.add_sub_cancel_left]
      exact strCells_at s j hj
section
variable {ops : Array Oper} {rest : List Oper} {o : Oper} {a : Act} {Q : Exit → Act → World → Prop}
theorem wpList_append_conv (hgd : o.guard = none) (sl x : Operand) (ho : o.op = .call { callee := .builtin .append, args := #[sl, x], argTypes := #[52, 9] }) (W1 : World) (t s : ByteArray)
    (hs : a.eval sl = .slice (some ⟨W1.heap.size, 0, none⟩) t.size (grownCap W1 t.size 0 5)) (hx : a.eval x = .string s) (hl : t.size + s.size ≤ 140737488355328)
    (h : ∀ A c w', (strL t ++ strL s).length ≤ c → (Kd.int .u8).C w' A (strL t ++ strL s).length (strL t ++ strL s) → Below W1.heap.size W1 w' → wpList Tryz.prog ops Q rest (a.put o.dst (.slice A (strL t ++ strL s).length c)) w') :
    wpList Tryz.prog ops Q (o :: rest) a (Lib.bytesWorld W1 5 t) := by
  refine wpList_plain hgd fun K hK => ?_
  obtain ⟨v, w', hr, ⟨A, c, rfl, h2, h3⟩, h4⟩ := append_conv W1 t s o.type hl
  unfold Oper.wp execOp
  simp only [ho, resolve, invoke, builtin, Sem.run_bind, Sem.run_pure, Result.andThen_ok, List.map_toArray, List.map_cons, List.map_nil, hs, hx, hr]
  exact hK _ _ (h A c w' h2 h3 h4)
end
def RefText (w : World) (s : ByteArray) (e : Ending) (w' : World) : Prop :=
  ∃ A c, e = .returned (.slice A (NT.text (strL s)).length c) ∧ (NT.text (strL s)).length ≤ c ∧ (Kd.int .u8).C w' A (NT.text (strL s)).length (NT.text (strL s)) ∧ Below w.heap.size w w'
set_option maxHeartbeats 2000000 in
theorem reftext_c (s : ByteArray) (hs : s.size ≤ 140737488351232) (w : World) : Calls Tryz.prog 46 #[.string s] w (RefText w s) := by
  have hr : NT.Rng (s.size : Int) := ⟨by omega, by omega⟩
  have HN := Aside0.mk hr
  have hnl := num_len_le hr
  have e : NT.text (strL s) = NT.num (s.size : Int) ++ strL s := by unfold NT.text; rw [strL_len]
  obtain ⟨t, ht⟩ : ∃ t, strOfNums (NT.num (s.size : Int)) = t := ⟨_, rfl⟩
  have htl : strL t = NT.num (s.size : Int) := by rw [← ht]; exact strL_strOf (NT.num_bytes _)
  have hts : t.size + s.size ≤ 140737488355328 := by rw [← ht, str_size]; omega
  have HT := Aside0.mk ht
  have HTS := Aside0.mk hts
  unfold RefText
  rw [e, ← htl]
  clear hr hs hnl e ht htl hts
  go_enter Tryz.func46, Tryz.ntmps46
  go_wp2_with (first
    | ((with_reducible refine gate_builtin (b := .append) (xs := #[.tmp 5, .tmp 6]) rfl ?_); at_builtin; refine wpList_append_conv rfl (.tmp 5) (.tmp 6) rfl W1 t s rfl rfl HTS.out ?_; intro A c w2 hlc hC hB; have L2 := Aside0.mk hlc; have C2 := Aside0.mk hC; have B2 := Aside0.mk (B1.out.trans (hB.mono B1.out.size)); clear hlc hC hB)
    | (go_at_call 45; refine (refnum_c _ HN.out w).mono ?_; unfold RefNum; rw [HT.out]; rintro e w1 ⟨W1, hB, rfl, rfl⟩; have B1 := Aside0.mk hB; clear hB))
  go_ret
  exact ⟨A, c, by rw [List.length_append]; rfl, L2.out, C2.out, B2.out⟩
/-! A text that is cut short. -/
theorem stop_free : ∀ (l : List Int), (∀ x ∈ l, x ≠ 59) → NT.stop l = l.length
  | [], _ => rfl
  | c :: l, h => by
    rw [NT.stop, if_neg (h c List.mem_cons_self), stop_free l (fun x hx => h x (List.mem_cons_of_mem _ hx))]
    rfl
theorem cut_none {b : List Int} (hb : b.length ≤ 1000000) (k : Nat) (hk : k < (NT.text b).length) : tT ((NT.text b).take k) = ([], 0, false) := by
  have hnl : (NT.num (b.length : Int)).length = (NT.ints (Lib.itoa (b.length : Int))).length + 1 := NT.num_len _
  by_cases h : k < (NT.num (b.length : Int)).length
  · refine tT_none (tk_of_none (NT.take_none ?_))
    have e : (NT.text b).take k = (NT.ints (Lib.itoa (b.length : Int))).take k := by
      unfold NT.text NT.num
      rw [List.append_assoc, List.take_append_of_le_length (by omega)]
    rw [e, stop_free _ (fun x hx => by rcases NT.itoa_chars _ x (List.mem_of_mem_take hx) with h | h <;> omega)]
    exact Nat.lt_irrefl _
  · have e : (NT.text b).take k = NT.num (b.length : Int) ++ b.take (k - (NT.num (b.length : Int)).length) := by
      unfold NT.text
      rw [List.take_append, List.take_of_length_le (by omega)]
    have hlt : k - (NT.num (b.length : Int)).length < b.length := by
      unfold NT.text at hk
      rw [List.length_append] at hk
      omega
    rw [e]
    have h2 := tT_some (NT.take_num (n := (b.length : Int)) ⟨by omega, by omega⟩ (b.take (k - (NT.num (b.length : Int)).length)))
    rw [h2, if_neg]
    intro hc
    have h3 := hc.2
    rw [List.length_append, List.length_take] at h3
    omega
end Go.Proofs.YtkicekddkgehoaaGreatDoor.Hnd
