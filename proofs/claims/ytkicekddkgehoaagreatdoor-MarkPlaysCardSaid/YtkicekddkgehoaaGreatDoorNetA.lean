/- Contracts of the calls, by hand. -/
import Derived.Test.YtkicekddkgehoaaGreatDoorQMarkPlaysx
import Derived.RangeFuncNested
import Derived.RangeFuncBound
import Derived.RangeFuncCalls
import Derived.RangeFuncLeaves
import Derived.RangeFuncBox
import Derived.Shelf.Abstract
import Derived.Shelf.RegionOpen
import Derived.OwnWalkIn
import Derived.TacticsInMore
import Derived.LoopNIn
import Derived.LoopIn
import Derived.Sort.QuietIn
import Derived.Sort.CutIn
import Derived.Stop.RegionWithIn
import Derived.StillTailTactics
import Derived.Shelf.Strconv.AppendIntPublic10
import Derived.Shelf.Strconv.ErrVarParseInt
import Derived.Shelf.Bytes.IndexByte
import Derived.Lib.ItoaLen
import Derived.Lib.ParseIntBTie
import Derived.Lib.AtoiBound
import Derived.Deep.Upon
namespace Go.Proofs.YtkicekddkgehoaaGreatDoor.Hnd
open Go.RowKit Go.Proofs.YtkicekddkgehoaaGreatDoor.QMarkPlays Go.Proofs.YtkicekddkgehoaaGreatDoorW.PrintWords Go.Proofs.YtkicekddkgehoaaGreatDoorW.PrintLast  Go.Shelf
set_option linter.unusedVariables false
set_option linter.unusedSimpArgs false
set_option linter.unusedVariables false
set_option linter.unusedSimpArgs false
/-! Chapter 1 in plain words: numbers and texts as bytes. -/
namespace NT
open Lib
theorem ofNat_nat {k : Nat} (h : k < 256) : (UInt8.ofNat k).toNat = k := by
  rw [UInt8.toNat_ofNat']
  exact Nat.mod_eq_of_lt h
theorem dec_small {u : Nat} (h : u < 10) : decDigits u = [UInt8.ofNat (48 + u)] := by rw [decDigits, dif_pos h]
theorem dec_big {u : Nat} (h : ¬ u < 10) : decDigits u = decDigits (u / 10) ++ [UInt8.ofNat (48 + u % 10)] := by rw [decDigits, dif_neg h]
theorem dec_dig (u : Nat) : ∀ c, c ∈ decDigits u → 48 ≤ c.toNat ∧ c.toNat ≤ 57 := by
  induction u using Nat.strongRecOn with
  | ind u ih =>
    by_cases h : u < 10
    · rw [dec_small h]
      intro c hc
      rw [List.mem_singleton] at hc
      subst hc
      rw [ofNat_nat (by omega)]
      omega
    · rw [dec_big h]
      intro c hc
      rcases List.mem_append.1 hc with hc | hc
      · exact ih _ (by omega) c hc
      · rw [List.mem_singleton] at hc
        subst hc
        rw [ofNat_nat (by omega)]
        omega
theorem dec_ne (u : Nat) : decDigits u ≠ [] := by
  by_cases h : u < 10
  · rw [dec_small h]
    exact List.cons_ne_nil _ _
  · rw [dec_big h]
    exact fun e => List.cons_ne_nil _ _ (List.append_eq_nil_iff.1 e).2
theorem parse_app : ∀ (l : List UInt8) (acc v : Nat), parseUint10 acc l = .ok v → ∀ c : UInt8, 48 ≤ c.toNat → c.toNat ≤ 57 → v < 1844674407370955162 → v * 10 + (c.toNat - 48) < 18446744073709551616 → parseUint10 acc (l ++ [c]) = .ok (v * 10 + (c.toNat - 48))
  | [], acc, v, h, c, h1, h2, h3, h4 => by
    simp only [parseUint10] at h
    injection h with h
    subst h
    rw [List.nil_append]
    simp only [parseUint10]
    rw [if_pos ⟨h1, h2⟩, if_neg (by omega), if_neg (by omega)]
  | x :: l, acc, v, h, c, h1, h2, h3, h4 => by
    rw [List.cons_append]
    simp only [parseUint10] at h ⊢
    split at h
    · rename_i hx
      rw [if_pos hx]
      split at h
      · cases h
      · rename_i ha
        rw [if_neg ha]
        split at h
        · cases h
        · rename_i hb
          rw [if_neg hb]
          exact parse_app l _ v h c h1 h2 h3 h4
    · cases h
theorem parse_dec (u : Nat) : u < 18446744073709551616 → parseUint10 0 (decDigits u) = .ok u := by
  induction u using Nat.strongRecOn with
  | ind u ih =>
    intro hu
    by_cases h : u < 10
    · have e := parse_app [] 0 0 rfl (UInt8.ofNat (48 + u)) (by rw [ofNat_nat (by omega)]; omega) (by rw [ofNat_nat (by omega)]; omega) (by omega) (by rw [ofNat_nat (by omega)]; omega)
      rw [dec_small h]
      rw [List.nil_append] at e
      rw [e, ofNat_nat (by omega)]
      congr 1
      omega
    · have e := parse_app _ 0 (u / 10) (ih (u / 10) (by omega) (by omega)) (UInt8.ofNat (48 + u % 10)) (by rw [ofNat_nat (by omega)]; omega) (by rw [ofNat_nat (by omega)]; omega) (by omega) (by rw [ofNat_nat (by omega)]; omega)
      rw [dec_big h, e, ofNat_nat (by omega)]
      congr 1
      omega
theorem parse_itoa (n : Int) (h0 : -9223372036854775808 ≤ n) (h1 : n ≤ 9223372036854775807) : parseIntB 64 (itoa n) = .ok n := by
  rw [parseIntB_64]
  by_cases hn : n < 0
  · obtain ⟨u, rfl⟩ : ∃ u : Nat, n = -(u : Int) := ⟨n.natAbs, by omega⟩
    rw [itoa_neg u (by omega), atoiAll_minus]
    unfold parseMag
    rw [if_neg (dec_ne u), parse_dec u (by omega)]
    show (if 9223372036854775808 < u then NumEnd.range else NumEnd.ok (-(u : Int))) = _
    rw [if_neg (by omega)]
  · obtain ⟨u, rfl⟩ : ∃ u : Nat, n = u := ⟨n.toNat, by omega⟩
    rw [itoa_nonneg]
    have hd := dec_dig u
    have hp := parse_dec u (by omega)
    have hne := dec_ne u
    cases hl : decDigits u with
    | nil => exact absurd hl hne
    | cons c r =>
      have hc := hd c (by rw [hl]; exact List.mem_cons_self)
      rw [atoiAll_plain c r (by omega) (by omega), ← hl]
      unfold parseMag
      rw [if_neg hne, hp]
      show (if 9223372036854775808 ≤ u then NumEnd.range else NumEnd.ok (u : Int)) = _
      rw [if_neg (by omega)]
/-! Bytes as numbers. -/
def ints (l : List UInt8) : List Int := l.map (fun c => (c.toNat : Int))
def u8s (l : List Int) : List UInt8 := l.map (fun x => UInt8.ofNat x.toNat)
theorem u8s_ints (l : List UInt8) : u8s (ints l) = l := by
  unfold u8s ints
  rw [List.map_map]
  conv => rhs; rw [← List.map_id l]
  exact List.map_congr_left (fun c _ => by
    show UInt8.ofNat ((c.toNat : Int).toNat) = c
    rw [Int.toNat_natCast, UInt8.ofNat_toNat])
theorem ints_u8s {l : List Int} (h : ∀ x ∈ l, 0 ≤ x ∧ x < 256) : ints (u8s l) = l := by
  unfold u8s ints
  rw [List.map_map]
  conv => rhs; rw [← List.map_id l]
  exact List.map_congr_left (fun x hx => by
    have := h x hx
    show ((UInt8.ofNat x.toNat).toNat : Int) = x
    rw [ofNat_nat (by omega)]
    omega)
def num (n : Int) : List Int := ints (itoa n) ++ [59]
def text (s : List Int) : List Int := num s.length ++ s
def Rng (n : Int) : Prop := -9223372036854775808 ≤ n ∧ n ≤ 9223372036854775807
def stop : List Int → Nat
  | [] => 0
  | c :: r => if c = 59 then 0 else stop r + 1
def take (b : List Int) : Option (Int × Nat) :=
  if stop b < b.length then
    match parseIntB 64 (u8s (b.take (stop b))) with
    | .ok n => if num n = b.take (stop b + 1) then some (n, stop b + 1) else none
    | _ => none
  else none
theorem stop_app : ∀ (l t : List Int), (∀ x ∈ l, x ≠ 59) → stop (l ++ 59 :: t) = l.length
  | [], t, _ => by
    rw [List.nil_append, stop, if_pos rfl]
    rfl
  | c :: l, t, h => by
    rw [List.cons_append, stop, if_neg (h c List.mem_cons_self), stop_app l t (fun x hx => h x (List.mem_cons_of_mem _ hx))]
    rfl
theorem itoa_chars (n : Int) : ∀ x ∈ ints (itoa n), x = 45 ∨ (48 ≤ x ∧ x ≤ 57) := by
  intro x hx
  unfold ints at hx
  obtain ⟨c, hc, rfl⟩ := List.mem_map.1 hx
  unfold itoa at hc
  split at hc
  · rcases List.mem_cons.1 hc with rfl | hc
    · exact .inl rfl
    · have := dec_dig _ c hc
      exact .inr (by omega)
  · have := dec_dig _ c hc
    exact .inr (by omega)
theorem num_len (n : Int) : (num n).length = (ints (itoa n)).length + 1 := by
  unfold num
  rw [List.length_append]
  rfl
theorem num_bytes (n : Int) : ∀ x ∈ num n, 0 ≤ x ∧ x < 256 := by
  intro x hx
  rcases List.mem_append.1 hx with h | h
  · rcases itoa_chars n x h with h | h <;> omega
  · rw [List.mem_singleton] at h
    omega
theorem take_of {b : List Int} {n : Int} (hn : Rng n) (h : b.take (num n).length = num n) : take b = some (n, (num n).length) := by
  obtain ⟨t, rfl⟩ : ∃ t, b = num n ++ t := ⟨b.drop (num n).length, by conv => lhs; rw [← List.take_append_drop (num n).length b]; rw [h]⟩
  have e : num n ++ t = ints (itoa n) ++ 59 :: t := by unfold num; rw [List.append_assoc]; rfl
  have hs : stop (num n ++ t) = (ints (itoa n)).length := by
    rw [e]
    exact stop_app _ _ (fun x hx => by rcases itoa_chars n x hx with h | h <;> omega)
  unfold take
  rw [hs, if_pos (by rw [List.length_append, num_len]; omega)]
  rw [show (num n ++ t).take (ints (itoa n)).length = ints (itoa n) from by rw [e]; exact List.take_left, u8s_ints, parse_itoa n hn.1 hn.2]
  show (if num n = _ then _ else _) = _
  rw [← num_len, if_pos h.symm]
theorem take_some {b : List Int} {n : Int} {k : Nat} (h : take b = some (n, k)) : Rng n ∧ k = (num n).length ∧ b.take k = num n ∧ k ≤ b.length := by
  unfold take at h
  split at h
  · rename_i hlt
    split at h
    · rename_i m hm
      split at h
      · rename_i he
        obtain ⟨rfl, rfl⟩ : m = n ∧ stop b + 1 = k := by
          injection h with h
          injection h with h1 h2
          exact ⟨h1, h2⟩
        rw [parseIntB_64] at hm
        refine ⟨atoiAll_bounds hm, ?_, he.symm, hlt⟩
        rw [he, List.length_take]
        omega
      · cases h
    · cases h
  · cases h
/-! The document's way. -/
def dig (c : Int) : Bool := decide (48 ≤ c) && decide (c ≤ 57)
def wU (n : Int) : Int := n % 18446744073709551616
def wS (n : Int) : Int := (n + 9223372036854775808) % 18446744073709551616 - 9223372036854775808
def rloop : List Int → Nat → Int → Int
  | [], _, n => n
  | c :: r, i, n => if dig c = true ∧ i < 21 then rloop r (i + 1) (wU (10 * n + (c - 48))) else n
def rval (b : List Int) : Int := if b.head? = some 45 then wS (-(wS (rloop (b.drop 1) 1 0))) else wS (rloop b 0 0)
def rtake (b : List Int) : Option (Int × Nat) := if (num (rval b)).length ≤ b.length ∧ b.take (num (rval b)).length = num (rval b) then some (rval b, (num (rval b)).length) else none
def fold (a : Int) (l : List Int) : Int := l.foldl (fun a c => wU (10 * a + (c - 48))) a
theorem rloop_app : ∀ (l t : List Int) (i : Nat) (a : Int), (∀ c ∈ l, 48 ≤ c ∧ c ≤ 57) → i + l.length ≤ 21 → rloop (l ++ 59 :: t) i a = fold a l
  | [], t, i, a, _, _ => by
    rw [List.nil_append, rloop, if_neg (fun h => absurd h.1 (by decide))]
    rfl
  | c :: l, t, i, a, h, hl => by
    have hc := h c List.mem_cons_self
    have hl' : i + (l.length + 1) ≤ 21 := hl
    rw [List.cons_append, rloop, if_pos ⟨by unfold dig; rw [decide_eq_true hc.1, decide_eq_true hc.2]; rfl, by omega⟩, rloop_app l t (i + 1) _ (fun x hx => h x (List.mem_cons_of_mem _ hx)) (by omega)]
    rfl
theorem ints_app (a b : List UInt8) : ints (a ++ b) = ints a ++ ints b := by unfold ints; rw [List.map_append]
theorem fold_dec (u : Nat) : u < 18446744073709551616 → fold 0 (ints (decDigits u)) = (u : Int) := by
  induction u using Nat.strongRecOn with
  | ind u ih =>
    intro hu
    by_cases h : u < 10
    · rw [dec_small h]
      show wU (10 * 0 + (((UInt8.ofNat (48 + u)).toNat : Int) - 48)) = _
      rw [ofNat_nat (by omega)]
      unfold wU
      omega
    · rw [dec_big h, ints_app]
      unfold fold
      rw [List.foldl_append]
      have e := ih (u / 10) (by omega) (by omega)
      unfold fold at e
      rw [e]
      show wU (10 * ((u / 10 : Nat) : Int) + (((UInt8.ofNat (48 + u % 10)).toNat : Int) - 48)) = _
      rw [ofNat_nat (by omega)]
      unfold wU
      omega
theorem ints_dig (u : Nat) : ∀ c ∈ ints (decDigits u), 48 ≤ c ∧ c ≤ 57 := by
  intro x hx
  unfold ints at hx
  obtain ⟨c, hc, rfl⟩ := List.mem_map.1 hx
  have := dec_dig u c hc
  omega
theorem ints_len (l : List UInt8) : (ints l).length = l.length := List.length_map _
theorem rval_num {n : Int} (hn : Rng n) (t : List Int) : rval (num n ++ t) = n := by
  obtain ⟨h0, h1⟩ := hn
  have e : num n ++ t = ints (itoa n) ++ 59 :: t := by unfold num; rw [List.append_assoc]; rfl
  rw [e]
  by_cases hn : n < 0
  · obtain ⟨u, rfl⟩ : ∃ u : Nat, n = -(u : Int) := ⟨n.natAbs, by omega⟩
    rw [itoa_neg u (by omega)]
    have hl : (ints (decDigits u)).length ≤ 20 := by rw [ints_len, decDigits_length]; exact nDigits_le20 u (by omega)
    have e2 : ints (45 :: decDigits u) ++ 59 :: t = 45 :: (ints (decDigits u) ++ 59 :: t) := rfl
    rw [e2]
    unfold rval
    rw [if_pos (show (45 :: (ints (decDigits u) ++ 59 :: t)).head? = some 45 from rfl), List.drop_one, List.tail_cons, rloop_app _ t 1 0 (ints_dig u) (by omega), fold_dec u (by omega)]
    unfold wS
    omega
  · obtain ⟨u, rfl⟩ : ∃ u : Nat, n = u := ⟨n.toNat, by omega⟩
    rw [itoa_nonneg]
    have hl : (ints (decDigits u)).length ≤ 20 := by rw [ints_len, decDigits_length]; exact nDigits_le20 u (by omega)
    have hh : (ints (decDigits u) ++ 59 :: t).head? ≠ some 45 := by
      have hd := ints_dig u
      have hne : ints (decDigits u) ≠ [] := fun e => dec_ne u (by
        have := congrArg List.length e
        rw [ints_len] at this
        exact List.eq_nil_of_length_eq_zero this)
      cases hx : ints (decDigits u) with
      | nil => exact absurd hx hne
      | cons c r =>
        have := hd c (by rw [hx]; exact List.mem_cons_self)
        intro e
        rw [List.cons_append, List.head?_cons] at e
        injection e with e
        omega
    unfold rval
    rw [if_neg hh, rloop_app _ t 0 0 (ints_dig u) (by omega), fold_dec u (by omega)]
    unfold wS
    omega
theorem wS_rng (x : Int) : Rng (wS x) := by
  unfold Rng wS
  omega
theorem rval_rng (b : List Int) : Rng (rval b) := by
  unfold rval
  split <;> exact wS_rng _
theorem rtake_eq (b : List Int) : rtake b = take b := by
  cases ht : take b with
  | some p =>
    obtain ⟨n, k⟩ := p
    obtain ⟨hn, rfl, h2, h3⟩ := take_some ht
    obtain ⟨t, rfl⟩ : ∃ t, b = num n ++ t := ⟨b.drop (num n).length, by conv => lhs; rw [← List.take_append_drop (num n).length b]; rw [h2]⟩
    unfold rtake
    rw [rval_num hn, if_pos ⟨h3, h2⟩]
  | none =>
    unfold rtake
    by_cases h : (num (rval b)).length ≤ b.length ∧ b.take (num (rval b)).length = num (rval b)
    · rw [take_of (rval_rng b) h.2] at ht
      cases ht
    · rw [if_neg h]
/-! A text. -/
def takeT (b : List Int) : Option (List Int × Nat) :=
  match take b with
  | some (n, k) => if 0 ≤ n ∧ n ≤ ((b.length - k : Nat) : Int) then some ((b.drop k).take n.toNat, k + n.toNat) else none
  | none => none
theorem take_num {n : Int} (hn : Rng n) (t : List Int) : take (num n ++ t) = some (n, (num n).length) := take_of hn List.take_left
theorem takeT_text {s t : List Int} (hs : (s.length : Int) ≤ 9223372036854775807) : takeT (text s ++ t) = some (s, (text s).length) := by
  unfold takeT text
  rw [List.append_assoc, take_num ⟨by omega, hs⟩]
  show (if _ then _ else _) = _
  rw [if_pos ⟨by omega, by rw [List.length_append, List.length_append]; omega⟩, List.drop_left, Int.toNat_natCast, List.take_left, List.length_append]
theorem take_nil : take [] = none := rfl
theorem take_ok {b : List Int} {n : Int} (hs : stop b < b.length) (h : parseIntB 64 (u8s (b.take (stop b))) = .ok n) : take b = if num n = b.take (stop b + 1) then some (n, stop b + 1) else none := by
  unfold take
  rw [if_pos hs, h]
theorem take_bad {b : List Int} (hs : stop b < b.length) (h : ∀ n, parseIntB 64 (u8s (b.take (stop b))) ≠ .ok n) : take b = none := by
  unfold take
  rw [if_pos hs]
  split
  · rename_i n e
    exact absurd e (h n)
  · rfl
theorem take_none {b : List Int} (hs : ¬ stop b < b.length) : take b = none := by
  unfold take
  rw [if_neg hs]
end NT
def laysAppendInt_ren : Go.Shelf.Ren := ⟨fun | 176 => 65 | 249 => 75 | 288 => 81 | 283 => 85 | 284 => 86 | 285 => 87 | 286 => 88 | 129 => 95 | 317 => 94 | 318 => 96 | 319 => 97 | 320 => 98 | 337 => 104 | 338 => 105 | n => n, fun | 37 => 52 | 2 => 2 | 3 => 3 | 53 => 118 | 4 => 4 | 9 => 9 | 171 => 129 | 0 => 0 | 173 => 132 | 212 => 141 | 51 => 66 | 5 => 5 | 20 => 20 | 213 => 142 | 46 => 113 | 232 => 156 | 233 => 157 | n => n, fun | 17 => 1 | 18 => 4 | 19 => 5 | n => n⟩
theorem laysAppendInt : Go.Proofs.LaysM.n176 Tryz.prog laysAppendInt_ren where
  mixed := by kernel_rfl
  f129 := Tryz.func95.trans (congrArg some (by kernel_rfl))
  f176 := Tryz.func65.trans (congrArg some (by kernel_rfl))
  f249 := Tryz.func75.trans (congrArg some (by kernel_rfl))
  f283 := Tryz.func85.trans (congrArg some (by kernel_rfl))
  f284 := Tryz.func86.trans (congrArg some (by kernel_rfl))
  f285 := Tryz.func87.trans (congrArg some (by kernel_rfl))
  f286 := Tryz.func88.trans (congrArg some (by kernel_rfl))
  f288 := Tryz.func81.trans (congrArg some (by kernel_rfl))
  f317 := Tryz.func94.trans (congrArg some (by kernel_rfl))
  f318 := Tryz.func96.trans (congrArg some (by kernel_rfl))
  f319 := Tryz.func97.trans (congrArg some (by kernel_rfl))
  f320 := Tryz.func98.trans (congrArg some (by kernel_rfl))
  f337 := Tryz.func104.trans (congrArg some (by kernel_rfl))
  f338 := Tryz.func105.trans (congrArg some (by kernel_rfl))
  t0 := Tryz.underlying0
  a0 := Tryz.isAgg0
  z0 := Tryz.sizeOf0
  v0 := Tryz.zeroValue0
  t2 := Tryz.underlying2
  a2 := Tryz.isAgg2
  z2 := Tryz.sizeOf2
  v2 := Tryz.zeroValue2
  t3 := Tryz.underlying3
  a3 := Tryz.isAgg3
  z3 := Tryz.sizeOf3
  v3 := Tryz.zeroValue3
  t4 := Tryz.underlying4
  a4 := Tryz.isAgg4
  z4 := Tryz.sizeOf4
  v4 := Tryz.zeroValue4
  t5 := Tryz.underlying5
  a5 := Tryz.isAgg5
  z5 := Tryz.sizeOf5
  v5 := Tryz.zeroValue5
  t9 := Tryz.underlying9
  a9 := Tryz.isAgg9
  z9 := Tryz.sizeOf9
  v9 := Tryz.zeroValue9
  t20 := Tryz.underlying20
  a20 := Tryz.isAgg20
  z20 := Tryz.sizeOf20
  v20 := Tryz.zeroValue20
  t37 := Tryz.underlying52
  a37 := Tryz.isAgg52
  z37 := Tryz.sizeOf52
  v37 := Tryz.zeroValue52
  t46 := Tryz.underlying113
  a46 := Tryz.isAgg113
  z46 := Tryz.sizeOf113
  v46 := Tryz.zeroValue113
  t51 := Tryz.underlying66
  a51 := Tryz.isAgg66
  z51 := Tryz.sizeOf66
  v51 := Tryz.zeroValue66
  t53 := Tryz.underlying118
  a53 := Tryz.isAgg118
  z53 := Tryz.sizeOf118
  v53 := Tryz.zeroValue118
  t171 := Tryz.underlying129
  a171 := Tryz.isAgg129
  z171 := Tryz.sizeOf129
  v171 := Tryz.zeroValue129
  t173 := Tryz.underlying132
  a173 := Tryz.isAgg132
  z173 := Tryz.sizeOf132
  v173 := Tryz.zeroValue132
  t212 := Tryz.underlying141
  a212 := Tryz.isAgg141
  z212 := Tryz.sizeOf141
  v212 := Tryz.zeroValue141
  t213 := Tryz.underlying142
  a213 := Tryz.isAgg142
  z213 := Tryz.sizeOf142
  t232 := Tryz.underlying156
  a232 := Tryz.isAgg156
  z232 := Tryz.sizeOf156
  v232 := Tryz.zeroValue156
  t233 := Tryz.underlying157
  a233 := Tryz.isAgg157
  z233 := Tryz.sizeOf157
  v233 := Tryz.zeroValue157
  g17 := by kernel_rfl
  g18 := by kernel_rfl
  g19 := by kernel_rfl
  i0 := by kernel_rfl
  i2 := by kernel_rfl
  i3 := by kernel_rfl
  i4 := by kernel_rfl
  i5 := by kernel_rfl
  i9 := by kernel_rfl
  i20 := by kernel_rfl
  i37 := by kernel_rfl
  i46 := by kernel_rfl
  i51 := by kernel_rfl
  i53 := by kernel_rfl
  i171 := by kernel_rfl
  i173 := by kernel_rfl
  i212 := by kernel_rfl
  i232 := by kernel_rfl
  i233 := by kernel_rfl
  m17 := by kernel_rfl
  m18 := by kernel_rfl
  m19 := by kernel_rfl
def laysParseInt_ren : Go.Shelf.Ren := ⟨fun | 174 => 80 | 247 => 83 | 245 => 84 | 287 => 89 | 279 => 90 | 280 => 91 | 281 => 92 | 282 => 93 | 321 => 99 | 322 => 100 | 316 => 101 | 171 => 103 | 205 => 102 | 243 => 106 | 246 => 107 | 283 => 85 | 284 => 86 | 285 => 87 | 286 => 88 | 129 => 95 | 317 => 94 | 318 => 96 | 319 => 97 | 320 => 98 | 337 => 104 | 338 => 105 | n => n, fun | 9 => 9 | 3 => 3 | 2 => 2 | 75 => 123 | 85 => 124 | 4 => 4 | 167 => 134 | 5 => 5 | 53 => 118 | 175 => 135 | 46 => 113 | 168 => 137 | 37 => 52 | 0 => 0 | 210 => 149 | 21 => 21 | 127 => 152 | 145 => 155 | 143 => 153 | 171 => 129 | 173 => 132 | 212 => 141 | 51 => 66 | 20 => 20 | 213 => 142 | 232 => 156 | 233 => 157 | 80 => 159 | n => n, fun | 15 => 2 | 16 => 3 | 17 => 1 | 18 => 4 | 19 => 5 | n => n⟩
theorem laysParseInt : Go.Proofs.LaysC.n174 Tryz.prog laysParseInt_ren where
  mixed := by kernel_rfl
  f129 := Tryz.func95.trans (congrArg some (by kernel_rfl))
  f171 := Tryz.func103.trans (congrArg some (by kernel_rfl))
  f174 := Tryz.func80.trans (congrArg some (by kernel_rfl))
  f205 := Tryz.func102.trans (congrArg some (by kernel_rfl))
  f243 := Tryz.func106.trans (congrArg some (by kernel_rfl))
  f245 := Tryz.func84.trans (congrArg some (by kernel_rfl))
  f246 := Tryz.func107.trans (congrArg some (by kernel_rfl))
  f247 := Tryz.func83.trans (congrArg some (by kernel_rfl))
  f279 := Tryz.func90.trans (congrArg some (by kernel_rfl))
  f280 := Tryz.func91.trans (congrArg some (by kernel_rfl))
  f281 := Tryz.func92.trans (congrArg some (by kernel_rfl))
  f282 := Tryz.func93.trans (congrArg some (by kernel_rfl))
  f283 := Tryz.func85.trans (congrArg some (by kernel_rfl))
  f284 := Tryz.func86.trans (congrArg some (by kernel_rfl))
  f285 := Tryz.func87.trans (congrArg some (by kernel_rfl))
  f286 := Tryz.func88.trans (congrArg some (by kernel_rfl))
  f287 := Tryz.func89.trans (congrArg some (by kernel_rfl))
  f316 := Tryz.func101.trans (congrArg some (by kernel_rfl))
  f317 := Tryz.func94.trans (congrArg some (by kernel_rfl))
  f318 := Tryz.func96.trans (congrArg some (by kernel_rfl))
  f319 := Tryz.func97.trans (congrArg some (by kernel_rfl))
  f320 := Tryz.func98.trans (congrArg some (by kernel_rfl))
  f321 := Tryz.func99.trans (congrArg some (by kernel_rfl))
  f322 := Tryz.func100.trans (congrArg some (by kernel_rfl))
  f337 := Tryz.func104.trans (congrArg some (by kernel_rfl))
  f338 := Tryz.func105.trans (congrArg some (by kernel_rfl))
  t0 := Tryz.underlying0
  a0 := Tryz.isAgg0
  z0 := Tryz.sizeOf0
  v0 := Tryz.zeroValue0
  t2 := Tryz.underlying2
  a2 := Tryz.isAgg2
  z2 := Tryz.sizeOf2
  v2 := Tryz.zeroValue2
  t3 := Tryz.underlying3
  a3 := Tryz.isAgg3
  z3 := Tryz.sizeOf3
  v3 := Tryz.zeroValue3
  t4 := Tryz.underlying4
  a4 := Tryz.isAgg4
  z4 := Tryz.sizeOf4
  v4 := Tryz.zeroValue4
  t5 := Tryz.underlying5
  a5 := Tryz.isAgg5
  z5 := Tryz.sizeOf5
  v5 := Tryz.zeroValue5
  t9 := Tryz.underlying9
  a9 := Tryz.isAgg9
  z9 := Tryz.sizeOf9
  v9 := Tryz.zeroValue9
  t20 := Tryz.underlying20
  a20 := Tryz.isAgg20
  z20 := Tryz.sizeOf20
  v20 := Tryz.zeroValue20
  t21 := Tryz.underlying21
  a21 := Tryz.isAgg21
  z21 := Tryz.sizeOf21
  v21 := Tryz.zeroValue21
  t37 := Tryz.underlying52
  a37 := Tryz.isAgg52
  z37 := Tryz.sizeOf52
  v37 := Tryz.zeroValue52
  t46 := Tryz.underlying113
  a46 := Tryz.isAgg113
  z46 := Tryz.sizeOf113
  v46 := Tryz.zeroValue113
  t51 := Tryz.underlying66
  a51 := Tryz.isAgg66
  z51 := Tryz.sizeOf66
  v51 := Tryz.zeroValue66
  t53 := Tryz.underlying118
  a53 := Tryz.isAgg118
  z53 := Tryz.sizeOf118
  v53 := Tryz.zeroValue118
  t75 := Tryz.underlying123
  a75 := Tryz.isAgg123
  z75 := Tryz.sizeOf123
  v75 := Tryz.zeroValue123
  t85 := Tryz.underlying124
  a85 := Tryz.isAgg124
  z85 := Tryz.sizeOf124
  v85 := Tryz.zeroValue124
  t127 := Tryz.underlying152
  a127 := Tryz.isAgg152
  z127 := Tryz.sizeOf152
  v127 := Tryz.zeroValue152
  t143 := Tryz.underlying153
  a143 := Tryz.isAgg153
  z143 := Tryz.sizeOf153
  v143 := Tryz.zeroValue153
  t145 := Tryz.underlying155
  a145 := Tryz.isAgg155
  z145 := Tryz.sizeOf155
  v145 := Tryz.zeroValue155
  t167 := Tryz.underlying134
  a167 := Tryz.isAgg134
  z167 := Tryz.sizeOf134
  v167 := Tryz.zeroValue134
  t168 := Tryz.underlying137
  a168 := Tryz.isAgg137
  z168 := Tryz.sizeOf137
  v168 := Tryz.zeroValue137
  t171 := Tryz.underlying129
  a171 := Tryz.isAgg129
  z171 := Tryz.sizeOf129
  v171 := Tryz.zeroValue129
  t173 := Tryz.underlying132
  a173 := Tryz.isAgg132
  z173 := Tryz.sizeOf132
  v173 := Tryz.zeroValue132
  t175 := Tryz.underlying135
  a175 := Tryz.isAgg135
  z175 := Tryz.sizeOf135
  v175 := Tryz.zeroValue135
  t210 := Tryz.underlying149
  a210 := Tryz.isAgg149
  z210 := Tryz.sizeOf149
  v210 := Tryz.zeroValue149
  t212 := Tryz.underlying141
  a212 := Tryz.isAgg141
  z212 := Tryz.sizeOf141
  v212 := Tryz.zeroValue141
  t213 := Tryz.underlying142
  a213 := Tryz.isAgg142
  z213 := Tryz.sizeOf142
  t232 := Tryz.underlying156
  a232 := Tryz.isAgg156
  z232 := Tryz.sizeOf156
  v232 := Tryz.zeroValue156
  t233 := Tryz.underlying157
  a233 := Tryz.isAgg157
  z233 := Tryz.sizeOf157
  v233 := Tryz.zeroValue157
  g15 := by kernel_rfl
  g16 := by kernel_rfl
  g17 := by kernel_rfl
  g18 := by kernel_rfl
  g19 := by kernel_rfl
  t80 := Tryz.underlying159
  a80 := Tryz.isAgg159
  z80 := Tryz.sizeOf159
  v80 := Tryz.zeroValue159
  i0 := by kernel_rfl
  i2 := by kernel_rfl
  i3 := by kernel_rfl
  i4 := by kernel_rfl
  i5 := by kernel_rfl
  i9 := by kernel_rfl
  i20 := by kernel_rfl
  i21 := by kernel_rfl
  i37 := by kernel_rfl
  i46 := by kernel_rfl
  i51 := by kernel_rfl
  i53 := by kernel_rfl
  i75 := by kernel_rfl
  i80 := by kernel_rfl
  i85 := by kernel_rfl
  i127 := by kernel_rfl
  i143 := by kernel_rfl
  i145 := by kernel_rfl
  i167 := by kernel_rfl
  i168 := by kernel_rfl
  i171 := by kernel_rfl
  i173 := by kernel_rfl
  i175 := by kernel_rfl
  i210 := by kernel_rfl
  i212 := by kernel_rfl
  i232 := by kernel_rfl
  i233 := by kernel_rfl
  m15 := by kernel_rfl
  m16 := by kernel_rfl
  m17 := by kernel_rfl
  m18 := by kernel_rfl
  m19 := by kernel_rfl
  c0 := by kernel_rfl
  c2 := by kernel_rfl
  c3 := by kernel_rfl
  c4 := by kernel_rfl
  c5 := by kernel_rfl
  c9 := by kernel_rfl
  c20 := by kernel_rfl
  c21 := by kernel_rfl
  c37 := by kernel_rfl
  c46 := by kernel_rfl
  c51 := by kernel_rfl
  c53 := by kernel_rfl
  c75 := by kernel_rfl
  c80 := by kernel_rfl
  c85 := by kernel_rfl
  c127 := by kernel_rfl
  c143 := by kernel_rfl
  c145 := by kernel_rfl
  c167 := by kernel_rfl
  c168 := by kernel_rfl
  c171 := by kernel_rfl
  c173 := by kernel_rfl
  c175 := by kernel_rfl
  c210 := by kernel_rfl
  c212 := by kernel_rfl
  c213 := by kernel_rfl
  c232 := by kernel_rfl
  c233 := by kernel_rfl
def laysIndexByte_ren : Go.Shelf.Ren := ⟨fun | 187 => 79 | 255 => 82 | n => n, fun | 37 => 52 | 5 => 5 | 3 => 3 | n => n, fun | n => n⟩
theorem laysIndexByte : Go.Proofs.Lays.n187 Tryz.prog laysIndexByte_ren where
  mixed := by kernel_rfl
  f187 := Tryz.func79.trans (congrArg some (by kernel_rfl))
  f255 := Tryz.func82.trans (congrArg some (by kernel_rfl))
  t3 := Tryz.underlying3
  a3 := Tryz.isAgg3
  z3 := Tryz.sizeOf3
  v3 := Tryz.zeroValue3
  t5 := Tryz.underlying5
  a5 := Tryz.isAgg5
  z5 := Tryz.sizeOf5
  v5 := Tryz.zeroValue5
  t37 := Tryz.underlying52
  a37 := Tryz.isAgg52
  z37 := Tryz.sizeOf52
  v37 := Tryz.zeroValue52
attribute [local go_sem] Oper.semAt_some
/-! What the library's calls do here. -/
def NTabs (w : World) : Prop := Lib.TabIs Tryz.prog w "internal/strconv.uint64pow10" .u64 Lib.pow10Tab ∧ (∃ tp p, w.var? Tryz.prog "strconv.ErrSyntax" = some #[.iface tp p]) ∧ ∃ tp p, w.var? Tryz.prog "strconv.ErrRange" = some #[.iface tp p]
theorem var_on {w w' : World} {n : String} {cs : Array Value} (h : w.var? Tryz.prog n = some cs) (hb : Below w.heap.size w w') : w'.var? Tryz.prog n = some cs := by
  unfold World.var? at h ⊢
  cases hg : (Tryz.prog).globalNamed n with
  | none =>
    rw [hg] at h
    cases h
  | some g =>
    rw [hg] at h
    simp only [Option.bind_some] at h ⊢
    have hlt : g < w.heap.size := by
      rcases Nat.lt_or_ge g w.heap.size with h' | h'
      · exact h'
      · rw [Array.getElem?_eq_none h'] at h
        cases h
    rw [hb.block g hlt]
    exact h
theorem NTabs.on {w w' : World} (h : NTabs w) (hb : Below w.heap.size w w') : NTabs w' :=
  ⟨var_on h.1 hb, h.2.1.elim fun tp ⟨p, e⟩ => ⟨tp, p, var_on e hb⟩, h.2.2.elim fun tp ⟨p, e⟩ => ⟨tp, p, var_on e hb⟩⟩
theorem appendint_c (n : Int) (hn : NT.Rng n) (w : World) (hT : NTabs w) :
    Calls Tryz.prog 65 #[.slice none 0 0, .int .i64 n, .int .i64 10] w fun e w' => ∃ v, e = .returned v ∧ (Kd.int .u8).R 5 w' w.heap.size (fun _ => True) v (NT.ints (Lib.itoa n)) ∧ Below w.heap.size w w' :=
  (Any.strconv_AppendInt_10 laysAppendInt w.heap.size 0 n hn.1 hn.2 (.slice none 0 0) [] w (World.ownsRow_nil _ _ _ _) (Nat.le_refl _) (by decide) (Lib.tabBelow_of_tabIs hT.1)).mono fun e w' ⟨v, e1, ho, hb, _⟩ =>
    ⟨v, e1, Kd.R_of_own (enc := Value.int .u8) (by
      have h2 : encs (Value.int .u8) (NT.ints (Lib.itoa n)) = [] ++ Lib.byteCells (Lib.itoa n) := by
        unfold encs NT.ints Lib.byteCells
        rw [List.map_map, List.nil_append]
        rfl
      rw [h2, NT.ints_len]
      rw [Nat.zero_add] at ho
      exact ho) (fun _ _ => trivial), hb⟩
def PRes (s : ByteArray) (n : Int) (u : Value) : Prop := (u = .nilIface ∧ Lib.parseIntB 64 s.data.toList = .ok n) ∨ ((∃ t p, u = .iface t p) ∧ ∀ m, Lib.parseIntB 64 s.data.toList ≠ .ok m)
theorem parse_c (s : ByteArray) (hs : s.size ≤ 1099511627776) (w : World) (hT : NTabs w) :
    Calls Tryz.prog 80 #[.string s, .int .i64 10, .int .i64 64] w fun e w' => ∃ n u, e = .returned (.tuple #[.int .i64 n, u]) ∧ PRes s n u ∧ Below w.heap.size w w' := by
  obtain ⟨_, ⟨tp1, p1, h1⟩, tp2, p2, h2⟩ := hT
  cases h : Lib.parseIntB 64 s.data.toList with
  | ok v =>
    exact (Any.strconv_ParseInt_10_at64_ok laysParseInt s (by omega) v h w).mono fun e w' ⟨e1, hw⟩ => ⟨v, _, e1, .inl ⟨rfl, h⟩, hw.elim (fun e => by rw [e]; exact Below.refl _ _) (fun ⟨t, e⟩ => by rw [e]; exact Lib.bytesWorld_below _ _ _)⟩
  | range =>
    exact (Any.strconv_ParseInt_10_at64_range_var laysParseInt s (by omega) h tp2 p2 w h2).mono fun e w' ⟨N, e1, _, _, hb⟩ => ⟨_, _, e1, .inr ⟨⟨_, _, rfl⟩, fun m e => by rw [h] at e; cases e⟩, hb⟩
  | _ =>
    exact (Any.strconv_ParseInt_10_at64_syntax_var laysParseInt s (by omega) h tp1 p1 w h1).mono fun e w' ⟨N, e1, _, _, hb⟩ => ⟨_, _, e1, .inr ⟨⟨_, _, rfl⟩, fun m e => by rw [h] at e; cases e⟩, hb⟩
/-- Where a row of ours may lie: nowhere, or in a block of cells. -/
def Plain (A : Option Addr) (c : Nat) : Prop := (A = none ∧ c = 0) ∨ ∃ g o, A = some ⟨g, o, none⟩
def NBytes (b : List Int) : Prop := ∀ x ∈ b, 0 ≤ x ∧ x < 256
theorem index_eq : ∀ (b : List Int), NBytes b → Lib.indexByte (Lib.bytesOf b) 59 = if NT.stop b < b.length then (NT.stop b : Int) else -1
  | [], _ => rfl
  | x :: r, h => by
    have hx := h x List.mem_cons_self
    have ih := index_eq r (fun y hy => h y (List.mem_cons_of_mem _ hy))
    have e1 : Lib.bytesOf (x :: r) = UInt8.ofNat x.toNat :: Lib.bytesOf r := rfl
    rw [e1]
    unfold Lib.indexByte
    rw [ih]
    by_cases hc : x = 59
    · subst hc
      rw [NT.stop, if_pos rfl]
      rfl
    · have e2 : (UInt8.ofNat x.toNat == 59) = false := by
        rw [beq_eq_false_iff_ne]
        intro e
        have := congrArg UInt8.toNat e
        rw [NT.ofNat_nat (by omega)] at this
        have e3 : (59 : UInt8).toNat = 59 := rfl
        omega
      rw [NT.stop, if_neg hc, e2, if_neg (by simp)]
      by_cases hl : NT.stop r < r.length
      · rw [if_pos hl, if_pos (show NT.stop r + 1 < (x :: r).length from Nat.succ_lt_succ hl)]
        have e4 : ((NT.stop r : Int) == -1) = false := by
          rw [beq_eq_false_iff_ne]
          omega
        rw [e4, if_neg (by simp)]
        omega
      · rw [if_neg hl, if_neg (show ¬ NT.stop r + 1 < (x :: r).length from fun h => hl (Nat.lt_of_succ_lt_succ h))]
        rfl
theorem index_c {w : World} {A : Option Addr} {c : Nat} {b : List Int} (hC : (Kd.int .u8).C w A b.length b) (hp : Plain A c) (hb : NBytes b) :
    Calls Tryz.prog 79 #[.slice A b.length c, .int .u8 59] w fun e w' => e = .returned (.int .i64 (if NT.stop b < b.length then (NT.stop b : Int) else -1)) ∧ w = w' := by
  rw [← index_eq b hb]
  rcases hp with ⟨rfl, rfl⟩ | ⟨g, o, rfl⟩
  · obtain rfl : b = [] := Kd.C_none hC
    exact (Any.bytes_IndexByte_nil laysIndexByte 59 w).mono fun e w' ⟨h1, h2⟩ => ⟨h1, h2.symm⟩
  · exact (Any.bytes_IndexByte laysIndexByte g o b.length c b 59 w rfl (fun i hi => by
      obtain ⟨ad, e, hc⟩ := hC.2.2 (by omega)
      obtain rfl := Option.some.inj e
      obtain ⟨cs, h1, h2, h3⟩ := hc i _ (List.getElem?_eq_getElem hi)
      have h4 := h3 0 (.int .u8 b[i]) (by rw [show cs = [.int .u8 b[i]] from h2]; rfl)
      rw [Nat.add_zero, show (Kd.int .u8).sz = 1 from rfl, Nat.mul_one, Kd.add_plain2] at h4
      rw [h4, List.getD_eq_getElem?_getD, List.getElem?_eq_getElem hi]
      rfl)).mono fun e w' ⟨h1, h2⟩ => ⟨h1, h2.symm⟩
/-- All but the blocks of S, and what is new, stays. -/
structure KeptB (S : Nat → Prop) (w w' : World) : Prop where
  os : w'.os = w.os
  tape : w'.tape = w.tape
  output : w'.output = w.output
  size : w.heap.size ≤ w'.heap.size
  block : ∀ k, k < w.heap.size → ¬ S k → w'.heap[k]? = w.heap[k]?
namespace KeptB
variable {S S2 : Nat → Prop} {w w0 W W2 : World} {B : Nat}
theorem kept (h : KeptB S w W) : Kept w W S := ⟨h.size, h.block⟩
theorem refl (S : Nat → Prop) (w : World) : KeptB S w w := ⟨rfl, rfl, rfl, Nat.le_refl _, fun _ _ _ => rfl⟩
theorem then_ (h : KeptB S w W) (k : KeptB S2 W W2) (hs : ∀ k, S2 k → S k ∨ w.heap.size ≤ k) : KeptB S w W2 :=
  ⟨k.os.trans h.os, k.tape.trans h.tape, k.output.trans h.output, Nat.le_trans h.size k.size, fun i hi hn => (k.block i (Nat.lt_of_lt_of_le hi h.size) (fun h2 => (hs i h2).elim hn (fun h3 => by omega))).trans (h.block i hi hn)⟩
theorem trans (h : KeptB S w W) (k : KeptB S W W2) : KeptB S w W2 := h.then_ k (fun _ hk => .inl hk)
theorem mono (h : KeptB S w W) (hs : ∀ k, S k → S2 k) : KeptB S2 w W := ⟨h.os, h.tape, h.output, h.size, fun i hi hn => h.block i hi (fun hk => hn (hs i hk))⟩
theorem of_below (h : Below w.heap.size w W) (S : Nat → Prop) : KeptB S w W := ⟨h.os, h.tape, h.output, h.size, fun i hi _ => h.block i hi⟩
theorem after (h : KeptB S w W) (hb : Below W.heap.size W W2) : KeptB S w W2 := h.then_ (of_below hb (fun _ => False)) (fun _ hk => hk.elim)
theorem alloc (h : KeptB S w W) (o : Obj) : KeptB S w (W.alloc o) := h.after (below_alloc (Below.refl _ _) o)
theorem drew (h : KeptB S w W) : KeptB S w W.drew := h.after (below_drew1 (Below.refl _ _))
theorem drewN (h : KeptB S w W) (n : Nat) : KeptB S w (W.drewN n) := h.after (pw_below_drewN (Below.refl _ _) n)
theorem setCell (h : KeptB S w W) {p : Addr} (hp : S p.block ∨ w.heap.size ≤ p.block) (u : Value) : KeptB S w (W.setCell p u) :=
  h.then_ (S2 := fun k => k = p.block) ⟨rfl, rfl, rfl, by simp [World.setCell], fun i _ hn => Below.heap_setCell W p u i hn⟩ (fun k hk => by rw [hk]; exact hp)
theorem setCells (h : KeptB S w W) {g : Nat} (hg : S g ∨ w.heap.size ≤ g) : ∀ {vs : List Value} {o : Nat}, KeptB S w (W.setCells g o vs) := by
  intro vs
  induction vs generalizing W with
  | nil => intro o; exact h
  | cons v r ih => intro o; exact ih (h.setCell (p := ⟨g, o, none⟩) hg v)
theorem grown (h : KeptB S w W) {row : Option Nat} (hg : W.grownBy W2 row) (hr : ∀ k, row = some k → S k ∨ w.heap.size ≤ k) : KeptB S w W2 :=
  h.then_ (S2 := fun k => row = some k) ⟨hg.os, hg.tape, hg.output, hg.size, fun i hi hn => hg.block i hi (fun he => hn he.symm)⟩ hr
/-- What is kept from the call's begin on, where all that was written is new since. -/
theorem below (h : KeptB S w W) (hb : Below B w0 w) (hB : B ≤ w.heap.size) (hS : ∀ k, S k → B ≤ k) : Below B w0 W :=
  ⟨h.os.trans hb.os, h.tape.trans hb.tape, h.output.trans hb.output, Nat.le_trans hb.size h.size, fun k hk => (h.block k (by omega) (fun hs => by have := hS k hs; omega)).trans (hb.block k hk)⟩
end KeptB
theorem cell_of_heap {w W : World} {p : Addr} (h : W.heap[p.block]? = w.heap[p.block]?) : W.cell? p = w.cell? p := by
  unfold World.cell?
  rw [h]
theorem C_blk {w W : World} {A : Option Addr} {n : Nat} {b : List Int} (h : (Kd.int .u8).C w A n b) (hm : ∀ ad, A = some ad → 0 < n → W.heap[ad.block]? = w.heap[ad.block]?) : (Kd.int .u8).C W A n b :=
  ⟨h.1, h.2.1, fun hp => by
    obtain ⟨ad, e, hc⟩ := h.2.2 hp
    refine ⟨ad, e, fun j p hj => ?_⟩
    obtain ⟨c, g1, g2, g3⟩ := hc j p hj
    exact ⟨c, g1, g2, fun i u hu => (cell_of_heap (by rw [add_block]; exact hm ad e hp)).trans (g3 i u hu)⟩⟩
attribute [local go_sem] Oper.semAt_some
/-! Numbers, texts, and the number that bytes begin with. -/
theorem conv_str {w : World} {A : Option Addr} {n c : Nat} {xs : List Int} (h : (Kd.int .u8).C w A n xs) : (convert 52 9 (.slice A n c)).run Tryz.prog w = .ok (.string (strOfNums xs)) w :=
  Kd.C_string (P := Tryz.prog) (A := A) (c := c) Tryz.underlying52 Tryz.underlying5 Tryz.underlying9 h
def cutA (A : Option Addr) (c m : Nat) : Option Addr := if c = m then A else A.map (·.add m)
theorem elemB : (Tryz.prog).elem 52 = 5 := by simp [Program.elem, Tryz.underlying52]
theorem underB : (Tryz.prog).underlying 52 = some (.slice ((Tryz.prog).elem 52)) := by rw [elemB]; exact Tryz.underlying52
theorem run_take (A : Option Addr) (c n m : Nat) (hm : m ≤ c) (W : World) : (Instr.slice 52 (.slice A n c) none (some (.int .i64 (m : Int))) none).run Tryz.prog W = .ok (.slice A m c) W := by
  obtain ⟨i0, hi, hz0, hz1, hz2⟩ := info_parts info5
  have ha : (A.map fun x => x.add 0) = A := by cases A <;> simp [Addr.add]
  rw [run_slice_h W 52 A n c underB .i64 m (by omega) (by omega), elemB]
  simp [sizeOf, typeInfo, hi, hz1, sliced, Result.andThen, ha]
theorem run_drop (A : Option Addr) (c n m : Nat) (hm : m ≤ n) (W : World) : (Instr.slice 52 (.slice A n c) (some (.int .i64 (m : Int))) none none).run Tryz.prog W = .ok (.slice (cutA A c m) (n - m) (c - m)) W := by
  obtain ⟨i0, hi, hz0, hz1, hz2⟩ := info_parts info5
  rw [run_slice_l W 52 A n c underB .i64 m (by omega) (by omega), elemB]
  simp [sizeOf, typeInfo, hi, hz1, sliced, Result.andThen, cutA]
theorem cut_C {w : World} {A : Option Addr} {c m : Nat} {b : List Int} (h : (Kd.int .u8).C w A b.length b) (hm : m ≤ b.length) (hc : b.length ≤ c) : (Kd.int .u8).C w (cutA A c m) (b.drop m).length (b.drop m) := by
  have h2 := Kd.C_drop (m := m) (c := c) h hm hc
  rw [show (Kd.int .u8).sz = 1 from rfl, Nat.mul_one] at h2
  exact h2
theorem cut_plain {A : Option Addr} {c m : Nat} (h : Plain A c) : Plain (cutA A c m) (c - m) := by
  unfold cutA
  rcases h with ⟨rfl, rfl⟩ | ⟨g, o, rfl⟩
  · left
    refine ⟨?_, by omega⟩
    split <;> rfl
  · right
    split
    · exact ⟨g, o, rfl⟩
    · exact ⟨g, o + m, by rw [Option.map_some, Kd.add_plain2]⟩
theorem cut_block {A : Option Addr} {c m : Nat} {ad : Addr} (h : cutA A c m = some ad) : ∃ ad0, A = some ad0 ∧ ad.block = ad0.block := by
  unfold cutA at h
  split at h
  · exact ⟨ad, h, rfl⟩
  · cases A with
    | none => cases h
    | some a =>
      rw [Option.map_some] at h
      injection h with h
      exact ⟨a, rfl, by rw [← h, add_block]⟩
theorem take_C {w : World} {A : Option Addr} {m : Nat} {b : List Int} (h : (Kd.int .u8).C w A b.length b) (hm : m ≤ b.length) : (Kd.int .u8).C w A m (b.take m) := by
  have h2 := Kd.C_take (m := m) h hm
  rwa [show (b.take m).length = m by rw [List.length_take]; omega] at h2
theorem itoa_le {n : Int} (hn : NT.Rng n) : (NT.ints (Lib.itoa n)).length ≤ 21 := by
  rw [NT.ints_len]
  exact Lib.itoa_length_le n hn.1 hn.2
set_option maxHeartbeats 2000000 in
theorem num_c (n : Int) (hn : NT.Rng n) (w : World) (hT : NTabs w) :
    Calls Tryz.prog 37 #[.int .i64 n] w fun e w' => ∃ v, e = .returned v ∧ (Kd.int .u8).R 5 w' w.heap.size (fun _ => True) v (NT.num n) ∧ Below w.heap.size w w' := by
  have HT := Aside0.mk hT
  have HN := Aside0.mk hn
  have HL := Aside0.mk (itoa_le hn)
  unfold NT.num
  obtain ⟨xs, hxs⟩ : ∃ xs, NT.ints (Lib.itoa n) = xs := ⟨_, rfl⟩
  rw [hxs] at HL ⊢
  have HX := Aside0.mk hxs
  clear hT hn hxs
  go_enter Tryz.func37, Tryz.ntmps37
  go_wp2_with (first
    | ((with_reducible refine gate_builtin (b := .append) (xs := #[.tmp 4, .tmp 5]) rfl ?_); at_builtin; refine Kd.R_append (Kd.int .u8) (w0 := w) w.heap.size rfl (.tmp 4) (.tmp 5) 52 5 (.int .u8 0) 1 rfl Tryz.underlying52 info5 rfl (by decide) (by decide) v1 xs 59 [.int .u8 59] (fun _ => True) (fun _ => False) rfl rfl rfl (fun _ h => h.elim) (fun _ _ => trivial) R1.out B1.out B1.out.size (by have := HL.out; omega) ?_; intro v2 w2 hR hB _ _; have R2 := Aside0.mk hR; have B2 := Aside0.mk hB; clear hR hB)
    | (go_at_call 65; refine (appendint_c n HN.out w HT.out).mono ?_; rw [HX.out]; rintro e w1 ⟨v1, rfl, hR, hB⟩; have R1 := Aside0.mk hR; have B1 := Aside0.mk hB; clear hR hB))
  go_ret
  exact ⟨_, rfl, R2.out, B2.out⟩
theorem num_len_le {n : Int} (hn : NT.Rng n) : (NT.num n).length ≤ 22 := by
  rw [NT.num_len]
  have := itoa_le hn
  omega
attribute [local go_sem] Oper.semAt_some
def strL (s : ByteArray) : List Int := NT.ints s.data.toList
theorem bytesOf_strL (s : ByteArray) : bytesOf s = strL s := by
  unfold strL NT.ints bytesOf
  rfl
theorem strL_len (s : ByteArray) : (strL s).length = s.size := by
  unfold strL
  rw [NT.ints_len, Array.length_toList]
  rfl
theorem strL_bytes (s : ByteArray) : NBytes (strL s) := by
  intro x hx
  unfold strL NT.ints at hx
  obtain ⟨c, _, rfl⟩ := List.mem_map.1 hx
  have := c.toNat_lt
  omega
theorem strOf_strL (s : ByteArray) : strOfNums (strL s) = s := by
  unfold strL
  apply ByteArray.ext
  apply Array.ext'
  show (NT.u8s (NT.ints s.data.toList)) = _
  exact NT.u8s_ints _
theorem strL_strOf {b : List Int} (h : NBytes b) : strL (strOfNums b) = b := by
  unfold strL
  show NT.ints (NT.u8s b) = b
  exact NT.ints_u8s h
theorem strOf_data (b : List Int) : (strOfNums b).data.toList = NT.u8s b := rfl
set_option maxHeartbeats 2000000 in
theorem text_c (s : ByteArray) (hs : s.size ≤ 1099511627776) (w : World) (hT : NTabs w) :
    Calls Tryz.prog 39 #[.string s] w fun e w' => ∃ v, e = .returned v ∧ (Kd.int .u8).R 5 w' w.heap.size (fun _ => True) v (NT.text (strL s)) ∧ Below w.heap.size w w' := by
  have HT := Aside0.mk hT
  have hr : NT.Rng (s.size : Int) := ⟨by omega, by omega⟩
  have HN := Aside0.mk hr
  have HS := Aside0.mk hs
  have HL := Aside0.mk (num_len_le hr)
  have e : NT.text (strL s) = NT.num (s.size : Int) ++ bytesOf s := by unfold NT.text; rw [strL_len, bytesOf_strL]
  rw [e]
  obtain ⟨xs, hxs⟩ : ∃ xs, NT.num (s.size : Int) = xs := ⟨_, rfl⟩
  rw [hxs] at HL ⊢
  have HX := Aside0.mk hxs
  clear hT hr hxs hs e
  go_enter Tryz.func39, Tryz.ntmps39
  go_wp2_with (first
    | ((with_reducible refine gate_builtin (b := .append) (xs := #[.tmp 5, .tmp 6]) rfl ?_); at_builtin; refine print_append_str (w0 := w) w.heap.size rfl (.tmp 5) (.tmp 6) 52 9 5 rfl Tryz.underlying52 Tryz.underlying9 info5 v1 xs s rfl rfl (Kd.own_of_R R1.out) B1.out B1.out.size (by have := HL.out; have := HS.out; omega) ?_; intro v2 w2 hR hB _; have R2 := Aside0.mk hR; have B2 := Aside0.mk hB; clear hR hB)
    | (go_at_call 37; refine (num_c _ HN.out w HT.out).mono ?_; rw [HX.out]; rintro e w1 ⟨v1, rfl, hR, hB⟩; have R1 := Aside0.mk hR; have B1 := Aside0.mk hB; clear hR hB))
  go_ret
  exact ⟨_, rfl, Kd.R_of_own (enc := Value.int .u8) R2.out (fun _ _ => trivial), B2.out⟩
/-! A Reader in memory: of type T at g; its row lies in no block of bad. -/
def NR (T : Nat) (pl : Prop) (W : World) (bad : List Nat) (g : Nat) (b : List Int) : Prop :=
  ∃ A c, W.heap[g]? = some (.cells #[.slice A b.length c] T (0, 0)) ∧ g ∈ bad ∧ b.length ≤ c ∧ (Kd.int .u8).C W A b.length b ∧ NBytes b ∧ (pl → Plain A c) ∧ ∀ ad, A = some ad → 0 < b.length → ad.block ∉ bad ∧ ad.block < W.heap.size
namespace NR
variable {T : Nat} {pl : Prop} {W W' : World} {bad ys : List Nat} {g x : Nat} {b : List Int}
theorem more (h : NR T pl W bad g b) (hb : Below W.heap.size W W') (hy : ∀ y, y ∈ ys → W.heap.size ≤ y) : NR T pl W' (ys ++ bad) g b := by
  obtain ⟨A, c, h1, h2, h3, h4, h5, h6, h7⟩ := h
  refine ⟨A, c, (hb.block g (Array.getElem?_eq_some_iff.1 h1).1).trans h1, List.mem_append.2 (.inr h2), h3, Kd.C_below h4 hb, h5, h6, fun ad e hp => ⟨fun hm => (List.mem_append.1 hm).elim (fun hm => by have := hy _ hm; have := (h7 ad e hp).2; omega) (h7 ad e hp).1, Nat.lt_of_lt_of_le (h7 ad e hp).2 hb.size⟩⟩
theorem after (h : NR T pl W bad g b) (hb : Below W.heap.size W W') : NR T pl W' bad g b := h.more (ys := []) hb (fun y hy => by cases hy)
theorem other (h : NR T pl W bad g b) (hk : KeptB (fun k => k = x) W W') (hx : x ∈ bad) (hne : g ≠ x) : NR T pl W' bad g b := by
  obtain ⟨A, c, h1, h2, h3, h4, h5, h6, h7⟩ := h
  exact ⟨A, c, (hk.block g (Array.getElem?_eq_some_iff.1 h1).1 hne).trans h1, h2, h3, C_blk h4 (fun ad e hp => hk.block _ (h7 ad e hp).2 (fun e2 => (h7 ad e hp).1 (by rw [e2]; exact hx))), h5, h6, fun ad e hp => ⟨(h7 ad e hp).1, Nat.lt_of_lt_of_le (h7 ad e hp).2 hk.size⟩⟩
theorem bytes (h : NR T pl W bad g b) : NBytes b := by obtain ⟨A, c, h1, h2, h3, h4, h5, h6, h7⟩ := h; exact h5
theorem lt (h : NR T pl W bad g b) : g < W.heap.size := by obtain ⟨A, c, h1, h2, h3, h4, h5, h6, h7⟩ := h; exact (Array.getElem?_eq_some_iff.1 h1).1
/-- What a cut leaves. -/
theorem cut {A : Option Addr} {c : Nat} (h1 : W.heap[g]? = some (.cells #[.slice A b.length c] T (0, 0))) (h2 : g ∈ bad) (h3 : b.length ≤ c) (h4 : (Kd.int .u8).C W A b.length b) (h5 : NBytes b) (h6 : pl → Plain A c) (h7 : ∀ ad, A = some ad → 0 < b.length → ad.block ∉ bad ∧ ad.block < W.heap.size) (m : Nat) (hm : m ≤ b.length) :
    NR T pl (W.setCell ⟨g, 0, none⟩ (.slice (cutA A c m) (b.length - m) (c - m))) bad g (b.drop m) ∧ KeptB (fun k => k = g) W (W.setCell ⟨g, 0, none⟩ (.slice (cutA A c m) (b.length - m) (c - m))) := by
  have hk : KeptB (fun k => k = g) W (W.setCell ⟨g, 0, none⟩ (.slice (cutA A c m) (b.length - m) (c - m))) := KeptB.setCell (S := fun k => k = g) (p := ⟨g, 0, none⟩) (KeptB.refl _ W) (.inl rfl) _
  have hl : (b.drop m).length = b.length - m := List.length_drop
  refine ⟨⟨cutA A c m, c - m, ?_, h2, by rw [hl]; omega, ?_, fun x hx => h5 x (List.mem_of_mem_drop hx), fun p => cut_plain (h6 p), fun ad e hp => ?_⟩, hk⟩
  · rw [hl]
    exact blk_put h1 0 _ rfl
  · refine C_blk (cut_C h4 hm h3) (fun ad e hp => ?_)
    obtain ⟨ad0, e0, eb⟩ := cut_block e
    rw [eb]
    rw [hl] at hp
    have h8 := h7 ad0 e0 (by omega)
    exact hk.block _ h8.2 (fun e2 => h8.1 (by rw [e2]; exact h2))
  · obtain ⟨ad0, e0, eb⟩ := cut_block e
    rw [eb]
    rw [hl] at hp
    have h8 := h7 ad0 e0 (by omega)
    exact ⟨h8.1, Nat.lt_of_lt_of_le h8.2 hk.size⟩
end NR
theorem clone_some {b : List Int} (hb : b.length < 140737488355328) : bytes_Clone.f b = some b := by
  unfold bytes_Clone.f
  rw [Option.bind_some, if_pos (by simpa using hb), List.nil_append]
theorem R_plain {e base : Nat} {ok : Nat → Prop} {w : World} {v : Value} {b : List Int} (h : (Kd.int .u8).R e w base ok v b) : ∃ A c, v = .slice A b.length c ∧ b.length ≤ c ∧ (Kd.int .u8).C w A b.length b ∧ Plain A c ∧ ∀ ad, A = some ad → base ≤ ad.block ∧ ad.block < w.heap.size := by
  obtain ⟨A, c, rfl, hl, hC⟩ := Kd.R_reads h
  refine ⟨A, c, rfl, hl, hC, ?_, ?_⟩
  · obtain ⟨inner, ho⟩ := Kd.R_own h
    rcases ho.2 with ⟨e, _⟩ | ⟨g, cap, cur, e, _⟩
    · injection e with e1 e2 e3
      exact .inl ⟨e1, e3⟩
    · injection e with e1 e2 e3
      exact .inr ⟨g, 0, e1⟩
  · intro ad e
    subst e
    exact ⟨Kd.R_base h ad.block rfl, Kd.R_lt h ad.block rfl⟩
set_option maxHeartbeats 2000000 in
theorem new_c {w : World} {A : Option Addr} {c : Nat} {b : List Int} (hC : (Kd.int .u8).C w A b.length b) (hc : b.length ≤ c) (hb : NBytes b) (hl : b.length < 140737488355328) :
    Calls Tryz.prog 55 #[.slice A b.length c] w fun e w' => ∃ g, e = .returned (.pointer (some ⟨g, 0, none⟩)) ∧ w.heap.size ≤ g ∧ NR 115 True w' [g] g b ∧ Below w.heap.size w w' := by
  have HC := Aside0.mk hC
  have HCC := Aside0.mk hc
  have HB := Aside0.mk hb
  have HL := Aside0.mk (clone_some hl)
  clear hC hc hb hl
  go_enter Tryz.func55, Tryz.ntmps55
  go_wp2_with (go_at_call 53; refine (bytes_Clone.calls A c b b w HC.out HCC.out HL.out).mono ?_; rintro e w1 ⟨v1, rfl, hR, hB⟩; (obtain ⟨A1, c1, rfl, hl1, hC1, hp1, hm1⟩ := R_plain hR); have L1 := Aside0.mk hl1; have C1 := Aside0.mk hC1; have P1 := Aside0.mk hp1; have M1 := Aside0.mk hm1; have B1 := Aside0.mk hB; clear hR hB hl1 hC1 hp1 hm1)
  go_ret
  have hba := below_alloc (Below.refl w1.heap.size w1) (.cells #[.slice A1 b.length c1] 115)
  refine ⟨w1.heap.size, rfl, B1.out.size, ⟨A1, c1, blk_new w1 _, List.mem_singleton.2 rfl, L1.out, Kd.C_below C1.out hba, HB.out, fun _ => P1.out, fun ad e hp => ⟨fun hm => ?_, ?_⟩⟩, B1.out.trans (hba.mono B1.out.size)⟩
  · have h1 := List.mem_singleton.1 hm
    have h2 := (M1.out ad e).2
    omega
  · exact Nat.lt_of_lt_of_le (M1.out ad e).2 hba.size
attribute [local go_sem] Oper.semAt_some
theorem parse_ok (s : ByteArray) (hs : s.size ≤ 1099511627776) (w : World) (hT : NTabs w) (v : Int) (h : Lib.parseIntB 64 s.data.toList = .ok v) :
    Calls Tryz.prog 80 #[.string s, .int .i64 10, .int .i64 64] w fun e w' => e = .returned (.tuple #[.int .i64 v, .nilIface]) ∧ Below w.heap.size w w' :=
  (parse_c s hs w hT).mono fun e w' ⟨n, u, e1, hp, hb⟩ => by
    rcases hp with ⟨rfl, h2⟩ | ⟨_, h2⟩
    · rw [h] at h2
      injection h2 with h2
      subst h2
      exact ⟨e1, hb⟩
    · exact absurd h (h2 v)
theorem parse_bad (s : ByteArray) (hs : s.size ≤ 1099511627776) (w : World) (hT : NTabs w) (h : ∀ m, Lib.parseIntB 64 s.data.toList ≠ .ok m) :
    Calls Tryz.prog 80 #[.string s, .int .i64 10, .int .i64 64] w fun e w' => ∃ n t p, e = .returned (.tuple #[.int .i64 n, .iface t p]) ∧ Below w.heap.size w w' :=
  (parse_c s hs w hT).mono fun e w' ⟨n, u, e1, hp, hb⟩ => by
    rcases hp with ⟨rfl, h2⟩ | ⟨⟨t, p, rfl⟩, _⟩
    · exact absurd h2 (h n)
    · exact ⟨n, t, p, e1, hb⟩
theorem equal_c {w : World} {A0 A1 : Option Addr} {c0 c1 n0 n1 : Nat} {l0 l1 : List Int} (h0 : (Kd.int .u8).C w A0 n0 l0) (e0 : l0.length ≤ c0) (h1 : (Kd.int .u8).C w A1 n1 l1) (e1 : l1.length ≤ c1) (b0 : NBytes l0) (b1 : NBytes l1) :
    Calls Tryz.prog 58 #[.slice A0 n0 c0, .slice A1 n1 c1] w fun e w' => e = .returned (.bool (decide (l0 = l1))) ∧ Below w.heap.size w w' := by
  obtain rfl : l0.length = n0 := h0.1
  obtain rfl : l1.length = n1 := h1.1
  refine (bytes_Equal.calls A0 c0 l0 A1 c1 l1 (decide (l0 = l1)) w h0 e0 h1 e1 ?_).mono ?_
  · unfold bytes_Equal.f
    congr 1
    rw [Lib.strOfNums_toList, Lib.strOfNums_toList]
    by_cases h : l0 = l1
    · subst h
      simp
    · rw [decide_eq_false h]
      rw [beq_eq_false_iff_ne]
      intro e
      apply h
      have := congrArg NT.ints e
      rwa [show NT.ints (Lib.bytesOf l0) = l0 from NT.ints_u8s b0, show NT.ints (Lib.bytesOf l1) = l1 from NT.ints_u8s b1] at this
  · intro e w' h
    exact ⟨h.1, h.2.below⟩
def tk (b : List Int) : Int × Nat × Bool := match NT.take b with | some p => (p.1, p.2, true) | none => (0, 0, false)
theorem bytes_take {b : List Int} (h : NBytes b) (m : Nat) : NBytes (b.take m) := fun x hx => h x (List.mem_of_mem_take hx)
set_option maxHeartbeats 4000000 in
set_option maxRecDepth 100000 in
theorem nnum_c {w : World} {A : Option Addr} {c : Nat} {b : List Int} (hC : (Kd.int .u8).C w A b.length b) (hc : b.length ≤ c) (hp : Plain A c) (hb : NBytes b) (hl : b.length ≤ 1099511627776) (hT : NTabs w) :
    Calls Tryz.prog 74 #[.slice A b.length c] w fun e w' => e = .returned (.tuple #[.int .i64 (tk b).1, .int .i64 ((tk b).2.1 : Int), .bool (tk b).2.2]) ∧ Below w.heap.size w w' := by
  have HC := Aside0.mk hC
  have HP := Aside0.mk hp
  have HB := Aside0.mk hb
  have HT := Aside0.mk hT
  have HCC := Aside0.mk hc
  have HLB := Aside0.mk hl
  by_cases hs : NT.stop b < b.length
  · have HI := index_c hC hp hb
    rw [if_pos hs] at HI
    have htk1 := fun n => NT.take_ok (n := n) hs
    have htk2 := NT.take_bad hs
    obtain ⟨i, hi⟩ : ∃ i, NT.stop b = i := ⟨_, rfl⟩
    rw [hi] at HI hs htk1 htk2
    have HIX := Aside0.mk HI
    clear HI hi
    have d1 : decide ((i : Int) < 0) = false := decide_eq_false (by omega)
    have ht1 := run_take A c b.length i (by omega)
    have ht2 := run_take A c b.length (i + 1) (by omega)
    rw [Int.natCast_add] at ht2
    have ht3 : ∀ W : World, (Instr.slice 52 (.slice A b.length c) none (some (.int .i64 ((i : Int) + 1))) none).run Tryz.prog W = .ok (.slice A (i + 1) c) W := ht2
    have hC1 := take_C hC (m := i) (by omega)
    have HC2 := Aside0.mk (take_C hC (m := i + 1) (by omega))
    have hcv := conv_str (c := c) hC1
    have hwr : wrap64 ((i : Int) + 1) = (i : Int) + 1 := by unfold wrap64; omega
    have hwr2 : IntKind.i64.wrap ((i : Int) + 1) = (i : Int) + 1 := by rw [IntKind.wrap_i64]; omega
    have HL1 : Aside0 ((b.take (i + 1)).length ≤ c) := ⟨by rw [List.length_take]; omega⟩
    have HB1 := Aside0.mk (bytes_take hb (i + 1))
    obtain ⟨s, hsq⟩ : ∃ s, strOfNums (b.take i) = s := ⟨_, rfl⟩
    have hsd : s.data.toList = NT.u8s (b.take i) := by rw [← hsq, strOf_data]
    have hss : s.size ≤ 1099511627776 := by
      have h1 : s.size = (NT.u8s (b.take i)).length := by rw [← hsd, Array.length_toList]; rfl
      rw [h1]
      unfold NT.u8s
      rw [List.length_map, List.length_take]
      omega
    rw [← hsd] at htk1 htk2
    rw [hsq] at hcv
    have HSS := Aside0.mk hss
    clear hC1 hsq hsd hss ht2
    by_cases hok : ∃ n, Lib.parseIntB 64 s.data.toList = .ok n
    · obtain ⟨n, hn⟩ := hok
      have htk := htk1 n hn
      have hrg : NT.Rng n := by
        have h2 := hn
        rw [Lib.parseIntB_64] at h2
        exact Lib.atoiAll_bounds h2
      have HRG := Aside0.mk hrg
      have HN := Aside0.mk hn
      have hbx : NBytes (NT.num n) := NT.num_bytes n
      have HBX := Aside0.mk hbx
      obtain ⟨xs, hxs⟩ : ∃ xs, NT.num n = xs := ⟨_, rfl⟩
      rw [hxs] at HBX
      have HX := Aside0.mk hxs
      obtain ⟨ys, hys⟩ : ∃ ys, b.take (i + 1) = ys := ⟨_, rfl⟩
      rw [hys] at HC2 HL1 HB1
      rw [hxs, hys] at htk
      by_cases hq : xs = ys
      · have hres : tk b = (n, i + 1, true) := by unfold tk; rw [htk, if_pos hq]
        have dq : decide (xs = ys) = true := decide_eq_true hq
        rw [hres]
        have DQ := Aside0.mk dq
        clear hC hc hp hb hl hT hs htk htk1 htk2 hn hrg hbx hxs hys hq dq hres
        go_enter Tryz.func74, Tryz.ntmps74
        go_upto_region 4 with (first
          | (go_at_call 79; refine HIX.out.mono ?_; rintro e w0 ⟨rfl, rfl⟩))
        go_upto_region 5 with (fail)
        refine (parse_ok s HSS.out w HT.out n HN.out).mono ?_
        rintro e w1 ⟨rfl, hB⟩
        have B1 := Aside0.mk hB
        clear hB
        go_upto_region 5 with (fail)
        go_region_held (fun _ => True) (trivial) (first
          | (go_at_call 58; refine (equal_c L2.out.2 L2.out.1 (Kd.C_below (Kd.C_below HC2.out B1.out) B2.out) HL1.out HBX.out HB1.out).mono ?_; rw [DQ.out]; rintro e w3 ⟨rfl, hB⟩; have B3 := Aside0.mk (B2.out.trans (hB.mono B2.out.size)); clear hB)
          | (go_at_call 37; refine (num_c n HRG.out _ (HT.out.on (B1.out.trans ((below_drew1 (Below.refl _ _)).mono B1.out.size)))).mono ?_; rw [HX.out]; rintro e w2 ⟨v2, rfl, hR, hB⟩; (obtain ⟨A2, c2, rfl, hl2, hC2, hp2, hm2⟩ := R_plain hR); have L2 : Aside0 (_ ∧ _) := ⟨hl2, hC2⟩; have B2 := Aside0.mk (show Below w1.heap.size w1 w2 from (below_drew1 (Below.refl _ _)).trans hB); clear hR hB hl2 hC2 hp2 hm2))
        go_wp2
        exact bodyPost_ret (v := .tuple #[.int .i64 n, .int .i64 ((i : Int) + 1), .bool true]) (by simp [results, Tryz.results74, go_sem]) rfl ⟨rfl, B1.out.trans (B3.out.mono B1.out.size)⟩
      · have hres : tk b = (0, 0, false) := by unfold tk; rw [htk, if_neg hq]
        have dq : decide (xs = ys) = false := decide_eq_false hq
        rw [hres]
        have DQ := Aside0.mk dq
        clear hC hc hp hb hl hT hs htk htk1 htk2 hn hrg hbx hxs hys hq dq hres
        go_enter Tryz.func74, Tryz.ntmps74
        go_upto_region 4 with (first
          | (go_at_call 79; refine HIX.out.mono ?_; rintro e w0 ⟨rfl, rfl⟩))
        go_upto_region 5 with (fail)
        refine (parse_ok s HSS.out w HT.out n HN.out).mono ?_
        rintro e w1 ⟨rfl, hB⟩
        have B1 := Aside0.mk hB
        clear hB
        go_upto_region 5 with (fail)
        go_region_held (fun _ => True) (trivial) (first
          | (go_at_call 58; refine (equal_c L2.out.2 L2.out.1 (Kd.C_below (Kd.C_below HC2.out B1.out) B2.out) HL1.out HBX.out HB1.out).mono ?_; rw [DQ.out]; rintro e w3 ⟨rfl, hB⟩; have B3 := Aside0.mk (B2.out.trans (hB.mono B2.out.size)); clear hB)
          | (go_at_call 37; refine (num_c n HRG.out _ (HT.out.on (B1.out.trans ((below_drew1 (Below.refl _ _)).mono B1.out.size)))).mono ?_; rw [HX.out]; rintro e w2 ⟨v2, rfl, hR, hB⟩; (obtain ⟨A2, c2, rfl, hl2, hC2, hp2, hm2⟩ := R_plain hR); have L2 : Aside0 (_ ∧ _) := ⟨hl2, hC2⟩; have B2 := Aside0.mk (show Below w1.heap.size w1 w2 from (below_drew1 (Below.refl _ _)).trans hB); clear hR hB hl2 hC2 hp2 hm2))
        go_wp2
        exact bodyPost_ret (v := .tuple #[.int .i64 0, .int .i64 0, .bool false]) (by simp [results, Tryz.results74, go_sem]) rfl ⟨rfl, B1.out.trans (B3.out.mono B1.out.size)⟩
    · have htk := htk2 (fun m e => hok ⟨m, e⟩)
      have hres : tk b = (0, 0, false) := by unfold tk; rw [htk]
      rw [hres]
      have HBAD := Aside0.mk (fun m e => hok ⟨m, e⟩ : ∀ m, Lib.parseIntB 64 s.data.toList ≠ .ok m)
      clear hC hc hp hb hl hT hs htk htk1 htk2 hok hres
      go_enter Tryz.func74, Tryz.ntmps74
      go_upto_region 4 with (first
        | (go_at_call 79; refine HIX.out.mono ?_; rintro e w0 ⟨rfl, rfl⟩))
      go_upto_region 5 with (fail)
      refine (parse_bad s HSS.out w HT.out HBAD.out).mono ?_
      rintro e w1 ⟨n, tp, pp, rfl, hB⟩
      have B1 := Aside0.mk hB
      clear hB
      go_upto_region 5 with (fail)
      go_quiet (first | fail)
      go_wp2
      exact bodyPost_ret (v := .tuple #[.int .i64 0, .int .i64 0, .bool false]) (by simp [results, Tryz.results74, go_sem]) rfl ⟨rfl, B1.out.trans (pw_below_drewN (Below.refl _ _) _ |>.mono B1.out.size)⟩
  · have HI := index_c hC hp hb
    rw [if_neg hs] at HI
    have HIX := Aside0.mk HI
    have hres : tk b = (0, 0, false) := by unfold tk; rw [NT.take_none hs]
    rw [hres]
    clear HI hC hc hp hb hl hT hs hres
    go_enter Tryz.func74, Tryz.ntmps74
    go_wp2_with (go_at_call 79; refine HIX.out.mono ?_; rintro e w0 ⟨rfl, rfl⟩)
    exact bodyPost_ret (v := .tuple #[.int .i64 0, .int .i64 0, .bool false]) (by simp [results, Tryz.results74, go_sem]) rfl ⟨rfl, Below.refl _ _⟩
attribute [local go_sem] Oper.semAt_some
/-! The Reader's calls. -/
theorem tk_le (b : List Int) : (tk b).2.1 ≤ b.length := by
  unfold tk
  cases h : NT.take b with
  | none => exact Nat.zero_le _
  | some p => exact (NT.take_some h).2.2.2
set_option maxHeartbeats 4000000 in
set_option maxRecDepth 100000 in
theorem rnum_c {W : World} {bad : List Nat} {g : Nat} {b : List Int} (h : NR 115 True W bad g b) (hT : NTabs W) (hl : b.length ≤ 1099511627776) :
    Calls Tryz.prog 56 #[.pointer (some ⟨g, 0, none⟩)] W fun e w' => e = .returned (.tuple #[.int .i64 (tk b).1, .bool (tk b).2.2]) ∧ NR 115 True w' bad g (b.drop (tk b).2.1) ∧ KeptB (fun k => k = g) W w' := by
  obtain ⟨A, c, h1, h2, h3, h4, h5, h6, h7⟩ := h
  have hm := tk_le b
  have hN := nnum_c h4 h3 (h6 trivial) h5 hl hT
  obtain ⟨n, k, ok, hq⟩ : ∃ n k ok, tk b = (n, k, ok) := ⟨_, _, _, rfl⟩
  rw [hq] at hm hN ⊢
  dsimp only at hm hN ⊢
  have HN := Aside0.mk hN
  have hd := run_drop A c b.length k hm
  have hlt : g < W.heap.size := (Array.getElem?_eq_some_iff.1 h1).1
  have z : W.cell? ⟨g, 0, none⟩ = some (.slice A b.length c) := (blk_cell h1 0).trans rfl
  have HLT := Aside0.mk hlt
  have H1 := Aside0.mk h1
  have H2 := Aside0.mk h2
  have H3 := Aside0.mk h3
  have H4 := Aside0.mk h4
  have H5 := Aside0.mk h5
  have H6 := Aside0.mk h6
  have H7 := Aside0.mk h7
  have HM := Aside0.mk hm
  clear hN hlt h1 h2 h3 h4 h5 h6 h7 hm hq hl hT
  go_enter Tryz.func56, Tryz.ntmps56
  go_wp2_with (go_at_call 74; refine HN.out.mono ?_; rintro e w1 ⟨rfl, hB⟩; have B1 := Aside0.mk hB; (have hh := (hB.block g HLT.out).trans H1.out); have z1 : w1.cell? ⟨g, 0, none⟩ = some (.slice A b.length c) := (blk_cell hh 0).trans rfl; have fz := blk_frozen hh 0; have HH := Aside0.mk hh; clear hB hh)
  have hc := NR.cut (W := w1) (g := g) (bad := bad) (pl := True) HH.out H2.out H3.out (Kd.C_below H4.out B1.out) H5.out H6.out (fun ad e hp => ⟨(H7.out ad e hp).1, Nat.lt_of_lt_of_le (H7.out ad e hp).2 B1.out.size⟩) k HM.out
  exact bodyPost_ret (v := .tuple #[.int .i64 n, .bool ok]) (by simp [results, Tryz.results56, go_sem]) rfl ⟨rfl, hc.1, (KeptB.of_below B1.out _).trans hc.2⟩
theorem wrap_two (k n : Nat) (h : k + n ≤ 1099511627776) : wrap64 ((k : Int) + (n : Int)) = (k : Int) + (n : Int) ∧ IntKind.i64.wrap ((k : Int) + (n : Int)) = (k : Int) + (n : Int) :=
  ⟨by unfold wrap64; omega, by rw [IntKind.wrap_i64]; omega⟩
theorem wrap_less (n k : Nat) (h : n ≤ 1099511627776) (hk : k ≤ n) : wrap64 ((n : Int) - (k : Int)) = ((n - k : Nat) : Int) ∧ IntKind.i64.wrap ((n : Int) - (k : Int)) = ((n - k : Nat) : Int) :=
  ⟨by unfold wrap64; omega, by rw [IntKind.wrap_i64]; omega⟩
def tT (b : List Int) : List Int × Nat × Bool := match NT.takeT b with | some p => (p.1, p.2, true) | none => ([], 0, false)
theorem tT_none {b : List Int} (h : tk b = (0, 0, false)) : tT b = ([], 0, false) := by
  unfold tk at h
  unfold tT NT.takeT
  cases e : NT.take b with
  | none => rfl
  | some p =>
    rw [e] at h
    injection h with _ h
    injection h with _ h
    cases h
theorem tk_cases (b : List Int) : tk b = (0, 0, false) ∨ ∃ n k, tk b = (n, k, true) ∧ NT.take b = some (n, k) ∧ NT.Rng n ∧ k ≤ b.length := by
  unfold tk
  cases e : NT.take b with
  | none => exact .inl rfl
  | some p =>
    obtain ⟨n, k⟩ := p
    have h := NT.take_some e
    exact .inr ⟨n, k, rfl, rfl, h.1, h.2.2.2⟩
theorem tT_some {b : List Int} {n : Int} {k : Nat} (h : NT.take b = some (n, k)) : tT b = if 0 ≤ n ∧ n ≤ ((b.length - k : Nat) : Int) then ((b.drop k).take n.toNat, k + n.toNat, true) else ([], 0, false) := by
  unfold tT NT.takeT
  rw [h]
  show (match (if 0 ≤ n ∧ n ≤ ((b.length - k : Nat) : Int) then some ((b.drop k).take n.toNat, k + n.toNat) else none) with | some p => (p.1, p.2, true) | none => ([], 0, false)) = _
  by_cases hc : 0 ≤ n ∧ n ≤ ((b.length - k : Nat) : Int)
  · rw [if_pos hc, if_pos hc]
  · rw [if_neg hc, if_neg hc]
def TextPost (W : World) (bad : List Nat) (g : Nat) (b : List Int) (r : List Int × Nat × Bool) (e : Ending) (w' : World) : Prop :=
  e = .returned (.tuple #[.string (strOfNums r.1), .bool r.2.2]) ∧ NR 115 True w' bad g (b.drop r.2.1) ∧ KeptB (fun k => k = g) W w'
theorem strOf_nil : strOfNums [] = ⟨#[]⟩ := rfl
set_option maxHeartbeats 4000000 in
set_option maxRecDepth 100000 in
theorem rtext_c {W : World} {bad : List Nat} {g : Nat} {b : List Int} (h : NR 115 True W bad g b) (hT : NTabs W) (hl : b.length ≤ 1099511627776) :
    Calls Tryz.prog 57 #[.pointer (some ⟨g, 0, none⟩)] W (TextPost W bad g b (tT b)) := by
  have HW := Aside0.mk h
  obtain ⟨A, c, h1, h2, h3, h4, h5, h6, h7⟩ := h
  have hN := nnum_c h4 h3 (h6 trivial) h5 hl hT
  have hlt : g < W.heap.size := (Array.getElem?_eq_some_iff.1 h1).1
  have z : W.cell? ⟨g, 0, none⟩ = some (.slice A b.length c) := (blk_cell h1 0).trans rfl
  have HLT := Aside0.mk hlt
  have H1 := Aside0.mk h1
  have H2 := Aside0.mk h2
  have H3 := Aside0.mk h3
  have H4 := Aside0.mk h4
  have H5 := Aside0.mk h5
  have H6 := Aside0.mk h6
  have H7 := Aside0.mk h7
  rcases tk_cases b with hq | ⟨n, k, hq, ht, hr, hk⟩
  · rw [hq] at hN
    rw [tT_none hq]
    have HN := Aside0.mk hN
    unfold TextPost
    dsimp only at HN ⊢
    rw [strOf_nil]
    clear hN hlt h1 h2 h3 h4 h5 h6 h7 hq hl hT
    go_enter Tryz.func57, Tryz.ntmps57
    go_wp2_with (go_at_call 74; refine HN.out.mono ?_; rintro e w1 ⟨rfl, hB⟩; have B1 := Aside0.mk hB; clear hB)
    exact bodyPost_ret (v := .tuple #[.string ⟨#[]⟩, .bool false]) (by simp [results, Tryz.results57, go_sem]) rfl ⟨rfl, HW.out.after B1.out, KeptB.of_below B1.out _⟩
  · rw [hq] at hN
    dsimp only at hN
    obtain ⟨m, hmq⟩ : ∃ m, b.length - k = m := ⟨_, rfl⟩
    obtain ⟨hw1, hw2⟩ := wrap_less b.length k hl hk
    rw [hmq] at hw1 hw2
    have htt := tT_some ht
    rw [hmq] at htt
    have HN := Aside0.mk hN
    by_cases hc : 0 ≤ n ∧ n ≤ (m : Int)
    · rw [if_pos hc] at htt
      rw [htt]
      obtain ⟨nn, rfl⟩ := Int.eq_ofNat_of_zero_le hc.1
      rw [Int.toNat_natCast]
      have hnm : nn ≤ m := Int.ofNat_le.1 hc.2
      have hkn1 : k + nn ≤ b.length := by clear htt; omega
      have hkn2 : k + nn ≤ 1099511627776 := Nat.le_trans hkn1 hl
      have d1 : decide ((nn : Int) < 0) = false := decide_eq_false (by omega)
      have d2 : decide ((nn : Int) > (m : Int)) = false := decide_eq_false (by omega)
      have d3 : decide ((m : Int) < (nn : Int)) = false := decide_eq_false (by omega)
      have d4 : decide (m < nn) = false := decide_eq_false (by omega)
      have hd := run_drop A c b.length k hk
      rw [hmq] at hd
      have htk := run_take (cutA A c k) (c - k) m nn (by clear htt; omega)
      have hd2 := run_drop A c b.length (k + nn) hkn1
      rw [Int.natCast_add] at hd2
      obtain ⟨hw3, hw4⟩ := wrap_two k nn hkn2
      have HC6 := Aside0.mk (take_C (m := nn) (cut_C h4 hk h3) (by rw [List.length_drop]; omega))
      have HKN := Aside0.mk hkn1
      obtain ⟨s, hs⟩ : ∃ s, strOfNums ((b.drop k).take nn) = s := ⟨_, rfl⟩
      have HS := Aside0.mk hs
      unfold TextPost
      dsimp only
      rw [hs]
      clear hN hlt h1 h2 h3 h4 h5 h6 h7 hq hl hT hc ht hr htt hmq hs hk hnm hkn1 hkn2
      go_enter Tryz.func57, Tryz.ntmps57
      go_upto_region 4 with (go_at_call 74; refine HN.out.mono ?_; rintro e w1 ⟨rfl, hB⟩; have B1 := Aside0.mk hB; (have hh := (hB.block g HLT.out).trans H1.out); have z1 : w1.cell? ⟨g, 0, none⟩ = some (.slice A b.length c) := (blk_cell hh 0).trans rfl; have fz := blk_frozen hh 0; have HH := Aside0.mk hh; (have hcv := conv_str (c := c - k) (Kd.C_below HC6.out hB)); rw [HS.out] at hcv; clear hB hh)
      go_wp2
      have hc := NR.cut (W := w1) (g := g) (bad := bad) (pl := True) HH.out H2.out H3.out (Kd.C_below H4.out B1.out) H5.out H6.out (fun ad e hp => ⟨(H7.out ad e hp).1, Nat.lt_of_lt_of_le (H7.out ad e hp).2 B1.out.size⟩) (k + nn) HKN.out
      exact bodyPost_ret (v := .tuple #[.string s, .bool true]) (by simp [results, Tryz.results57, go_sem]) rfl ⟨rfl, hc.1, (KeptB.of_below B1.out _).trans hc.2⟩
    · rw [if_neg hc] at htt
      rw [htt]
      unfold TextPost
      dsimp only
      rw [strOf_nil]
      by_cases h0 : n < 0
      · have d1 : decide (n < 0) = true := decide_eq_true h0
        clear hN hlt h1 h2 h3 h4 h5 h6 h7 hq hl hT hc ht hr htt hmq hk h0
        go_enter Tryz.func57, Tryz.ntmps57
        go_wp2_with (go_at_call 74; refine HN.out.mono ?_; rintro e w1 ⟨rfl, hB⟩; have B1 := Aside0.mk hB; clear hB)
        exact bodyPost_ret (v := .tuple #[.string ⟨#[]⟩, .bool false]) (by simp [results, Tryz.results57, go_sem]) rfl ⟨rfl, HW.out.after B1.out, KeptB.of_below B1.out _⟩
      · have d1 : decide (n < 0) = false := decide_eq_false h0
        have d2 : decide (n > (m : Int)) = true := decide_eq_true (by omega)
        have d3 : decide ((m : Int) < n) = true := decide_eq_true (by omega)
        clear hN hlt h1 h2 h3 h4 h5 h6 h7 hq hl hT hc ht hr htt hmq hk h0
        go_enter Tryz.func57, Tryz.ntmps57
        go_wp2_with (go_at_call 74; refine HN.out.mono ?_; rintro e w1 ⟨rfl, hB⟩; have B1 := Aside0.mk hB; (have z1 := (cell_of_heap (p := ⟨g, 0, none⟩) (hB.block g HLT.out)).trans ((blk_cell H1.out 0).trans rfl : W.cell? ⟨g, 0, none⟩ = some (.slice A b.length c))); clear hB)
        exact bodyPost_ret (v := .tuple #[.string ⟨#[]⟩, .bool false]) (by simp [results, Tryz.results57, go_sem]) rfl ⟨rfl, HW.out.after B1.out, KeptB.of_below B1.out _⟩
attribute [local go_sem] Oper.semAt_some
theorem kcv (w : World) (C : Array Value) (n c : Nat) : (convert 52 52 (.slice (some ⟨w.heap.size, 0, none⟩) n c)).run Tryz.prog (w.alloc (.cells C 5)) = .ok (.slice (some ⟨w.heap.size, 0, none⟩) n c) (w.alloc (.cells C 5 (C.size, C.size + 1))) := Lib.run_convert_bytes_const (P := Tryz.prog) w 52 5 C n c Tryz.underlying52 Tryz.underlying5
theorem num_small {n : Nat} (h : n < 10) : NT.num (n : Int) = [(48 + n : Int), 59] := by
  unfold NT.num
  rw [Lib.itoa_nonneg, NT.dec_small h]
  show [((UInt8.ofNat (48 + n)).toNat : Int)] ++ [59] = _
  rw [NT.ofNat_nat (by omega)]
  rfl
theorem tT_text {s t : List Int} (hs : s.length ≤ 1099511627776) : tT (NT.text s ++ t) = (s, (NT.text s).length, true) := by
  unfold tT
  rw [NT.takeT_text (by omega)]
theorem new_lit (w : World) (C : Array Value) (b : List Int) (hC : C = (b.map (Value.int .u8)).toArray) (hb : NBytes b) (hl : b.length < 140737488355328) (n : Nat) (hn : b.length = n) :
    Calls Tryz.prog 55 #[.slice (some ⟨w.heap.size, 0, none⟩) n n] (w.alloc (.cells C 5 (C.size, C.size + 1))) fun e w' => ∃ g, e = .returned (.pointer (some ⟨g, 0, none⟩)) ∧ w.heap.size ≤ g ∧ NR 115 True w' [g] g b ∧ Below w.heap.size w w' := by
  subst hn
  exact (new_c (c := b.length) (Kd.C_int_cells (T := 5) (fr := (C.size, C.size + 1)) (heap_alloc_new w _) hC (by omega)) (Nat.le_refl _) hb hl).mono fun e w' ⟨g, e1, hg, hR, hB⟩ =>
    ⟨g, e1, Nat.le_trans (by simp) hg, hR, (below_alloc (Below.refl w.heap.size w) _).trans (hB.mono (by simp))⟩
def cat (l : List ByteArray) : List Int := (l.map (fun s => NT.text (strL s))).flatten
theorem cat_snoc (l : List ByteArray) (s : ByteArray) : cat (l ++ [s]) = cat l ++ NT.text (strL s) := by unfold cat; rw [List.map_append, List.flatten_append]; simp
theorem cat_cons (s : ByteArray) (l : List ByteArray) : cat (s :: l) = NT.text (strL s) ++ cat l := rfl
theorem text_len_le {s : ByteArray} (hs : s.size ≤ 1099511627776) : (NT.text (strL s)).length ≤ s.size + 22 := by
  unfold NT.text
  rw [List.length_append, strL_len]
  have := num_len_le (n := (s.size : Int)) ⟨by omega, by omega⟩
  omega
theorem text_bytes (s : ByteArray) : NBytes (NT.text (strL s)) := fun x hx => (List.mem_append.1 hx).elim (NT.num_bytes _ x) (strL_bytes s x)
theorem cat_bytes (l : List ByteArray) : NBytes (cat l) := fun x hx => by
  unfold cat at hx
  obtain ⟨y, hy, hx⟩ := List.mem_flatten.1 hx
  obtain ⟨s, _, rfl⟩ := List.mem_map.1 hy
  exact text_bytes s x hx
def strAt (l : List ByteArray) (k : Nat) : ByteArray := l.getD k ⟨#[]⟩
theorem str_at {w : World} {A : Option Addr} {n : Nat} {xs : List ByteArray} (h : Kd.C Kd.string w A n xs) (k : Nat) (hk : k < n) : ∃ ad, A = some ad ∧ ad.block < w.heap.size ∧ w.cell? (ad.add k) = some (.string (strAt xs k)) := by
  have hlt : ∀ ad, A = some ad → ad.block < w.heap.size := fun ad e => by subst e; exact Kd.C_lt h (by omega) (by decide)
  obtain ⟨ad, e, hc⟩ := h.2.2 (by omega)
  have hl : k < xs.length := by rw [h.1]; exact hk
  obtain ⟨cs, h1, h2, h3⟩ := hc k _ (List.getElem?_eq_getElem hl)
  have h4 := h3 0 (.string xs[k]) (by rw [show cs = [.string xs[k]] from h2]; rfl)
  rw [Nat.add_zero, show Kd.string.sz = 1 from rfl, Nat.mul_one] at h4
  refine ⟨ad, e, hlt ad e, ?_⟩
  rw [h4]
  unfold strAt
  rw [List.getD_eq_getElem?_getD, List.getElem?_eq_getElem hl]
  rfl
theorem take_at {l : List ByteArray} {k : Nat} (hk : k < l.length) : l.take (k + 1) = l.take k ++ [strAt l k] := by
  rw [List.take_add_one, List.getElem?_eq_getElem hk]
  unfold strAt
  rw [List.getD_eq_getElem?_getD, List.getElem?_eq_getElem hk]
  rfl
theorem drop_at {l : List ByteArray} {k : Nat} (hk : k < l.length) : l.drop k = strAt l k :: l.drop (k + 1) := by
  rw [List.drop_eq_getElem_cons hk]
  unfold strAt
  rw [List.getD_eq_getElem?_getD, List.getElem?_eq_getElem hk]
  rfl
theorem wrap_succ {k n : Nat} (h : k < n) (hn : n ≤ 1000000) : wrap64 ((k : Int) + 1) = (k : Int) + 1 := by
  unfold wrap64
  omega
end Go.Proofs.YtkicekddkgehoaaGreatDoor.Hnd
