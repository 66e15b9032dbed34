/- Contracts of the calls, by hand. -/
import Derived.Test.YtkicekddkgehoaaDoorQMarkBytesx2
import Derived.Test.YtkicekddkgehoaaDoorNet6
import Derived.RangeFuncNested
import Derived.RangeFuncBound
import Derived.RangeFuncCalls
import Derived.RangeFuncLeaves
import Derived.RangeFuncBox
import Derived.Shelf.Abstract
import Derived.Shelf.RegionOpen
import Derived.OwnWalkIn
import Derived.TacticsInMore
import Derived.LoopNIn
import Derived.LoopIn
import Derived.Sort.QuietIn
import Derived.Sort.CutIn
import Derived.Stop.RegionWithIn
import Derived.StillTailTactics
import Derived.Shelf.Strconv.AppendIntPublic10
import Derived.Shelf.Strconv.ErrVarParseInt
import Derived.Shelf.Bytes.IndexByte
import Derived.Lib.ItoaLen
import Derived.Lib.ParseIntBTie
import Derived.Lib.AtoiBound
namespace Go.Proofs.YtkicekddkgehoaaDoor.Hnd
open Go.RowKit Go.Proofs.YtkicekddkgehoaaDoor.QMarkBytes Go.Proofs.YtkicekddkgehoaaDoorW.PrintWords Go.Proofs.YtkicekddkgehoaaDoorW.PrintLast  Go.Shelf
set_option linter.unusedVariables false
set_option linter.unusedSimpArgs false
attribute [local go_sem] Oper.semAt_some
/-! The document's numbers. -/
theorem str_app (a b : List Int) : strOfNums (a ++ b) = strOfNums a ++ strOfNums b := by
  apply ByteArray.ext
  rw [ByteArray.data_append]
  apply Array.ext'
  rw [Array.toList_append]
  show NT.u8s (a ++ b) = NT.u8s a ++ NT.u8s b
  unfold NT.u8s
  rw [List.map_append]
theorem str_size (a : List Int) : (strOfNums a).size = a.length := by
  have h : (strOfNums a).data.toList.length = a.length := by rw [strOf_data]; exact List.length_map _
  rw [Array.length_toList] at h
  exact h
theorem dec_len {u : Nat} (h : u < 18446744073709551616) : (NT.ints (Lib.decDigits u)).length ≤ 20 := by
  rw [NT.ints_len, Lib.decDigits_length]
  exact Lib.nDigits_le20 u h
theorem digits_f : ∀ (u : Nat), u < 18446744073709551616 → ∀ k : Nat, u < k → lazarusref1_digits.f k (u : Int) = some (strOfNums (NT.ints (Lib.decDigits u))) := by
  intro u
  induction u using Nat.strongRecOn with
  | ind u ih =>
    intro hu k hk
    obtain ⟨k, rfl⟩ : ∃ j, k = j + 1 := ⟨k - 1, by omega⟩
    rw [lazarusref1_digits.f, Option.bind_some]
    have hy : IntKind.u64.wrap (48 + Int.tmod (u : Int) 10) % 256 = ((48 + u % 10 : Nat) : Int) := by
      rw [Int.tmod_eq_emod_of_nonneg (by omega), IntKind.wrap_u64]
      omega
    rw [hy]
    have hone : ∀ x : Nat, x < 256 → NT.ints [UInt8.ofNat x] = [(x : Int)] := fun x hx => by
      show [((UInt8.ofNat x).toNat : Int)] = _
      rw [NT.ofNat_nat hx]
    by_cases h10 : u < 10
    · rw [if_neg (by omega), NT.dec_small h10, hone _ (by omega)]
      rw [show u % 10 = u by omega]
    · rw [if_pos (by omega)]
      have hd : IntKind.u64.wrap (Int.tdiv (u : Int) 10) = ((u / 10 : Nat) : Int) := by
        rw [Int.tdiv_eq_ediv_of_nonneg (by omega), IntKind.wrap_u64]
        omega
      rw [hd, ih (u / 10) (by omega) (by omega) k (by omega), Option.bind_some]
      have hl := dec_len (u := u / 10) (by omega)
      rw [if_pos (by rw [str_size, str_size]; show _ + 1 ≤ _; omega), ← str_app, NT.dec_big h10, NT.ints_app, hone _ (by omega)]
theorem itoa_f (n : Int) (hn : NT.Rng n) : ∃ k, lazarusref1_Itoa.f k n = some (strOfNums (NT.ints (Lib.itoa n))) := by
  obtain ⟨h0, h1⟩ := hn
  by_cases hneg : n < 0
  · obtain ⟨u, rfl⟩ : ∃ u : Nat, n = -(u : Int) := ⟨n.natAbs, by omega⟩
    refine ⟨u + 1, ?_⟩
    unfold lazarusref1_Itoa.f
    rw [if_pos hneg]
    have e : IntKind.u64.wrap (IntKind.u64.wrap (wrap64 (-(wrap64 (-(u : Int) + 1)))) + 1) = (u : Int) := by
      unfold wrap64
      rw [IntKind.wrap_u64, IntKind.wrap_u64]
      omega
    rw [e, digits_f u (by omega) _ (by omega), Option.bind_some]
    have hl := dec_len (u := u) (by omega)
    rw [if_pos (by rw [str_size]; omega), Lib.itoa_neg u (by omega)]
    have e2 : NT.ints (45 :: Lib.decDigits u) = [45] ++ NT.ints (Lib.decDigits u) := rfl
    rw [e2, str_app]
    rfl
  · obtain ⟨u, rfl⟩ : ∃ u : Nat, n = u := ⟨n.toNat, by omega⟩
    refine ⟨u + 1, ?_⟩
    unfold lazarusref1_Itoa.f
    rw [if_neg hneg]
    have e : IntKind.u64.wrap (u : Int) = (u : Int) := by rw [IntKind.wrap_u64]; omega
    rw [e, digits_f u (by omega) _ (by omega), Option.bind_some, Lib.itoa_nonneg]
theorem refitoa_c (n : Int) (hn : NT.Rng n) (w : World) : Calls Tryd.prog 45 #[.int .i64 n] w fun e w' => e = .returned (.string (strOfNums (NT.ints (Lib.itoa n)))) ∧ Below w.heap.size w w' := by
  obtain ⟨k, hk⟩ := itoa_f n hn
  exact lazarusref1_Itoa.calls k n _ w hk
def RefNum (w : World) (n : Int) (e : Ending) (w' : World) : Prop :=
  ∃ W1, Below w.heap.size w W1 ∧ w' = Lib.bytesWorld W1 5 (strOfNums (NT.num n)) ∧ e = .returned (.slice (some ⟨W1.heap.size, 0, none⟩) (strOfNums (NT.num n)).size (grownCap W1 (strOfNums (NT.num n)).size 0 5))
set_option maxHeartbeats 2000000 in
theorem refnum_c (n : Int) (hn : NT.Rng n) (w : World) : Calls Tryd.prog 30 #[.int .i64 n] w (RefNum w n) := by
  have HN := Aside0.mk hn
  have hs : strOfNums (NT.ints (Lib.itoa n)) ++ ⟨#[59]⟩ = strOfNums (NT.num n) := by unfold NT.num; rw [str_app]; rfl
  have hz := itoa_le hn
  obtain ⟨s, hsq⟩ : ∃ s, strOfNums (NT.ints (Lib.itoa n)) = s := ⟨_, rfl⟩
  obtain ⟨t, htq⟩ : ∃ t, strOfNums (NT.num n) = t := ⟨_, rfl⟩
  have hsz : s.size ≤ 21 := by rw [← hsq, str_size]; exact hz
  have HSQ := Aside0.mk hsq
  have HTQ := Aside0.mk htq
  rw [hsq, htq] at hs
  have hcb := conv_bytes t
  have hsz2 : (9223372036854775807 < s.size + 1) = False := eq_false (by omega)
  unfold RefNum
  rw [htq]
  clear hn hz hsq htq hsz
  go_enter Tryd.func30, Tryd.ntmps30
  go_wp2_with (go_at_call 45; refine (refitoa_c n HN.out w).mono ?_; rw [HSQ.out]; rintro e w1 ⟨rfl, hB⟩; have B1 := Aside0.mk hB; clear hB)
  go_ret
  exact ⟨w1, B1.out, rfl, rfl⟩
/-- Of a number's bytes, converted. -/
theorem refnum_row {w w' : World} {n : Int} {e : Ending} (hn : NT.Rng n) (h : RefNum w n e w') : ∃ q c, e = .returned (.slice (some ⟨q, 0, none⟩) (NT.num n).length c) ∧ w.heap.size ≤ q ∧ (NT.num n).length ≤ c ∧ (Kd.int .u8).C w' (some ⟨q, 0, none⟩) (NT.num n).length (NT.num n) ∧ Below w.heap.size w w' := by
  obtain ⟨W1, hB, rfl, rfl⟩ := h
  have hl := num_len_le hn
  have hC := conv_C W1 (strOfNums (NT.num n)) (by rw [str_size]; omega)
  rw [strL_strOf (NT.num_bytes n), str_size] at hC
  refine ⟨W1.heap.size, grownCap W1 (strOfNums (NT.num n)).size 0 5, by rw [str_size], hB.size, ?_, hC, hB.trans ((Lib.bytesWorld_below W1 _ _).mono hB.size)⟩
  have := grownCap_ge W1 (strOfNums (NT.num n)).size 0 5
  rw [str_size] at this ⊢
  exact this
theorem at_byte {w : World} {A : Option Addr} {n : Nat} {xs : List Int} (h : (Kd.int .u8).C w A n xs) (k : Nat) (hk : k < n) : ∃ ad, A = some ad ∧ w.cell? (ad.add k) = some (.int .u8 (xs.getD k 0)) := by
  obtain ⟨ad, e, hc⟩ := h.2.2 (by omega)
  have hl : k < xs.length := by rw [h.1]; exact hk
  obtain ⟨cs, h1, h2, h3⟩ := hc k _ (List.getElem?_eq_getElem hl)
  have h4 := h3 0 (.int .u8 xs[k]) (by rw [show cs = [.int .u8 xs[k]] from h2]; rfl)
  rw [Nat.add_zero, show (Kd.int .u8).sz = 1 from rfl, Nat.mul_one] at h4
  refine ⟨ad, e, ?_⟩
  rw [h4, List.getD_eq_getElem?_getD, List.getElem?_eq_getElem hl]
  rfl
theorem rloop_drop {b : List Int} {j : Nat} (hj : j < b.length) (a : Int) : NT.rloop (b.drop j) j a = if NT.dig (b.getD j 0) = true ∧ j < 21 then NT.rloop (b.drop (j + 1)) (j + 1) (NT.wU (10 * a + (b.getD j 0 - 48))) else a := by
  rw [List.drop_eq_getElem_cons hj, NT.rloop, List.getD_eq_getElem?_getD, List.getElem?_eq_getElem hj]
  rfl
theorem rloop_end {b : List Int} {j : Nat} (hj : ¬ j < b.length) (a : Int) : NT.rloop (b.drop j) j a = a := by
  rw [List.drop_eq_nil_of_le (by omega)]
  rfl
theorem step_u64 (a c p q : Int) (hp : IntKind.u64.wrap (10 * a) = p) (hq : IntKind.u64.wrap (p + (c - 48)) = q) : q = NT.wU (10 * a + (c - 48)) := by
  rw [← hq, ← hp, IntKind.wrap_u64, IntKind.wrap_u64]
  unfold NT.wU
  omega
theorem wU_rng (x : Int) : 0 ≤ NT.wU x ∧ NT.wU x < 18446744073709551616 := by
  unfold NT.wU
  omega
theorem i64_wS (x : Int) : IntKind.i64.wrap x = NT.wS x := by
  rw [IntKind.wrap_i64]
  unfold NT.wS
  omega
theorem w64_wS (x : Int) : wrap64 x = NT.wS x := by
  unfold wrap64 NT.wS
  omega
end Go.Proofs.YtkicekddkgehoaaDoor.Hnd
