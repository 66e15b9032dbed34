/- Contracts of the calls, by hand. -/
import Derived.Test.YtkicekddkgehoaaDoorQMarkBytesx2
import Derived.RangeFuncNested
import Derived.RangeFuncBound
import Derived.RangeFuncCalls
import Derived.RangeFuncLeaves
import Derived.RangeFuncBox
import Derived.Shelf.Abstract
import Derived.Shelf.RegionOpen
import Derived.OwnWalkIn
import Derived.TacticsInMore
import Derived.LoopNIn
import Derived.LoopIn
import Derived.Sort.QuietIn
import Derived.Sort.CutIn
import Derived.Stop.RegionWithIn
import Derived.StillTailTactics
import Derived.Shelf.Strconv.AppendIntPublic10
import Derived.Shelf.Strconv.ErrVarParseInt
import Derived.Shelf.Bytes.IndexByte
import Derived.Lib.ItoaLen
import Derived.Lib.ParseIntBTie
import Derived.Lib.AtoiBound
namespace Go.Proofs.YtkicekddkgehoaaDoor.Hnd
open Go.RowKit Go.Proofs.YtkicekddkgehoaaDoor.QMarkBytes Go.Proofs.YtkicekddkgehoaaDoorW.PrintWords Go.Proofs.YtkicekddkgehoaaDoorW.PrintLast  Go.Shelf
set_option linter.unusedVariables false
set_option linter.unusedSimpArgs false
/-! Chapter 1 in plain words: numbers and texts as bytes. -/
namespace NT
open Lib
theorem ofNat_nat {k : Nat} (h : k < 256) : (UInt8.ofNat k).toNat = k := by
  rw [UInt8.toNat_ofNat']
  exact Nat.mod_eq_of_lt h
theorem dec_small {u : Nat} (h : u < 10) : decDigits u = [UInt8.ofNat (48 + u)] := by rw [decDigits, dif_pos h]
theorem dec_big {u : Nat} (h : ¬ u < 10) : decDigits u = decDigits (u / 10) ++ [UInt8.ofNat (48 + u % 10)] := by rw [decDigits, dif_neg h]
theorem dec_dig (u : Nat) : ∀ c, c ∈ decDigits u → 48 ≤ c.toNat ∧ c.toNat ≤ 57 := by
  induction u using Nat.strongRecOn with
  | ind u ih =>
    by_cases h : u < 10
    · rw [dec_small h]
      intro c hc
      rw [List.mem_singleton] at hc
      subst hc
      rw [ofNat_nat (by omega)]
      omega
    · rw [dec_big h]
      intro c hc
      rcases List.mem_append.1 hc with hc | hc
      · exact ih _ (by omega) c hc
      · rw [List.mem_singleton] at hc
        subst hc
        rw [ofNat_nat (by omega)]
        omega
theorem dec_ne (u : Nat) : decDigits u ≠ [] := by
  by_cases h : u < 10
  · rw [dec_small h]
    exact List.cons_ne_nil _ _
  · rw [dec_big h]
    exact fun e => List.cons_ne_nil _ _ (List.append_eq_nil_iff.1 e).2
theorem parse_app : ∀ (l : List UInt8) (acc v : Nat), parseUint10 acc l = .ok v → ∀ c : UInt8, 48 ≤ c.toNat → c.toNat ≤ 57 → v < 1844674407370955162 → v * 10 + (c.toNat - 48) < 18446744073709551616 → parseUint10 acc (l ++ [c]) = .ok (v * 10 + (c.toNat - 48))
  | [], acc, v, h, c, h1, h2, h3, h4 => by
    simp only [parseUint10] at h
    injection h with h
    subst h
    rw [List.nil_append]
    simp only [parseUint10]
    rw [if_pos ⟨h1, h2⟩, if_neg (by omega), if_neg (by omega)]
  | x :: l, acc, v, h, c, h1, h2, h3, h4 => by
    rw [List.cons_append]
    simp only [parseUint10] at h ⊢
    split at h
    · rename_i hx
      rw [if_pos hx]
      split at h
      · cases h
      · rename_i ha
        rw [if_neg ha]
        split at h
        · cases h
        · rename_i hb
          rw [if_neg hb]
          exact parse_app l _ v h c h1 h2 h3 h4
    · cases h
theorem parse_dec (u : Nat) : u < 18446744073709551616 → parseUint10 0 (decDigits u) = .ok u := by
  induction u using Nat.strongRecOn with
  | ind u ih =>
    intro hu
    by_cases h : u < 10
    · have e := parse_app [] 0 0 rfl (UInt8.ofNat (48 + u)) (by rw [ofNat_nat (by omega)]; omega) (by rw [ofNat_nat (by omega)]; omega) (by omega) (by rw [ofNat_nat (by omega)]; omega)
      rw [dec_small h]
      rw [List.nil_append] at e
      rw [e, ofNat_nat (by omega)]
      congr 1
      omega
    · have e := parse_app _ 0 (u / 10) (ih (u / 10) (by omega) (by omega)) (UInt8.ofNat (48 + u % 10)) (by rw [ofNat_nat (by omega)]; omega) (by rw [ofNat_nat (by omega)]; omega) (by omega) (by rw [ofNat_nat (by omega)]; omega)
      rw [dec_big h, e, ofNat_nat (by omega)]
      congr 1
      omega
theorem parse_itoa (n : Int) (h0 : -9223372036854775808 ≤ n) (h1 : n ≤ 9223372036854775807) : parseIntB 64 (itoa n) = .ok n := by
  rw [parseIntB_64]
  by_cases hn : n < 0
  · obtain ⟨u, rfl⟩ : ∃ u : Nat, n = -(u : Int) := ⟨n.natAbs, by omega⟩
    rw [itoa_neg u (by omega), atoiAll_minus]
    unfold parseMag
    rw [if_neg (dec_ne u), parse_dec u (by omega)]
    show (if 9223372036854775808 < u then NumEnd.range else NumEnd.ok (-(u : Int))) = _
    rw [if_neg (by omega)]
  · obtain ⟨u, rfl⟩ : ∃ u : Nat, n = u := ⟨n.toNat, by omega⟩
    rw [itoa_nonneg]
    have hd := dec_dig u
    have hp := parse_dec u (by omega)
    have hne := dec_ne u
    cases hl : decDigits u with
    | nil => exact absurd hl hne
    | cons c r =>
      have hc := hd c (by rw [hl]; exact List.mem_cons_self)
      rw [atoiAll_plain c r (by omega) (by omega), ← hl]
      unfold parseMag
      rw [if_neg hne, hp]
      show (if 9223372036854775808 ≤ u then NumEnd.range else NumEnd.ok (u : Int)) = _
      rw [if_neg (by omega)]
/-! Bytes as numbers. -/
def ints (l : List UInt8) : List Int := l.map (fun c => (c.toNat : Int))
def u8s (l : List Int) : List UInt8 := l.map (fun x => UInt8.ofNat x.toNat)
theorem u8s_ints (l : List UInt8) : u8s (ints l) = l := by
  unfold u8s ints
  rw [List.map_map]
  conv => rhs; rw [← List.map_id l]
  exact List.map_congr_left (fun c _ => by
    show UInt8.ofNat ((c.toNat : Int).toNat) = c
    rw [Int.toNat_natCast, UInt8.ofNat_toNat])
theorem ints_u8s {l : List Int} (h : ∀ x ∈ l, 0 ≤ x ∧ x < 256) : ints (u8s l) = l := by
  unfold u8s ints
  rw [List.map_map]
  conv => rhs; rw [← List.map_id l]
  exact List.map_congr_left (fun x hx => by
    have := h x hx
    show ((UInt8.ofNat x.toNat).toNat : Int) = x
    rw [ofNat_nat (by omega)]
    omega)
def num (n : Int) : List Int := ints (itoa n) ++ [59]
def text (s : List Int) : List Int := num s.length ++ s
def Rng (n : Int) : Prop := -9223372036854775808 ≤ n ∧ n ≤ 9223372036854775807
def stop : List Int → Nat
  | [] => 0
  | c :: r => if c = 59 then 0 else stop r + 1
def take (b : List Int) : Option (Int × Nat) :=
  if stop b < b.length then
    match parseIntB 64 (u8s (b.take (stop b))) with
    | .ok n => if num n = b.take (stop b + 1) then some (n, stop b + 1) else none
    | _ => none
  else none
theorem stop_app : ∀ (l t : List Int), (∀ x ∈ l, x ≠ 59) → stop (l ++ 59 :: t) = l.length
  | [], t, _ => by
    rw [List.nil_append, stop, if_pos rfl]
    rfl
  | c :: l, t, h => by
    rw [List.cons_append, stop, if_neg (h c List.mem_cons_self), stop_app l t (fun x hx => h x (List.mem_cons_of_mem _ hx))]
    rfl
theorem itoa_chars (n : Int) : ∀ x ∈ ints (itoa n), x = 45 ∨ (48 ≤ x ∧ x ≤ 57) := by
  intro x hx
  unfold ints at hx
  obtain ⟨c, hc, rfl⟩ := List.mem_map.1 hx
  unfold itoa at hc
  split at hc
  · rcases List.mem_cons.1 hc with rfl | hc
    · exact .inl rfl
    · have := dec_dig _ c hc
      exact .inr (by omega)
  · have := dec_dig _ c hc
    exact .inr (by omega)
theorem num_len (n : Int) : (num n).length = (ints (itoa n)).length + 1 := by
  unfold num
  rw [List.length_append]
  rfl
theorem num_bytes (n : Int) : ∀ x ∈ num n, 0 ≤ x ∧ x < 256 := by
  intro x hx
  rcases List.mem_append.1 hx with h | h
  · rcases itoa_chars n x h with h | h <;> omega
  · rw [List.mem_singleton] at h
    omega
theorem take_of {b : List Int} {n : Int} (hn : Rng n) (h : b.take (num n).length = num n) : take b = some (n, (num n).length) := by
  obtain ⟨t, rfl⟩ : ∃ t, b = num n ++ t := ⟨b.drop (num n).length, by conv => lhs; rw [← List.take_append_drop (num n).length b]; rw [h]⟩
  have e : num n ++ t = ints (itoa n) ++ 59 :: t := by unfold num; rw [List.append_assoc]; rfl
  have hs : stop (num n ++ t) = (ints (itoa n)).length := by
    rw [e]
    exact stop_app _ _ (fun x hx => by rcases itoa_chars n x hx with h | h <;> omega)
  unfold take
  rw [hs, if_pos (by rw [List.length_append, num_len]; omega)]
  rw [show (num n ++ t).take (ints (itoa n)).length = ints (itoa n) from by rw [e]; exact List.take_left, u8s_ints, parse_itoa n hn.1 hn.2]
  show (if num n = _ then _ else _) = _
  rw [← num_len, if_pos h.symm]
theorem take_some {b : List Int} {n : Int} {k : Nat} (h : take b = some (n, k)) : Rng n ∧ k = (num n).length ∧ b.take k = num n ∧ k ≤ b.length := by
  unfold take at h
  split at h
  · rename_i hlt
    split at h
    · rename_i m hm
      split at h
      · rename_i he
        obtain ⟨rfl, rfl⟩ : m = n ∧ stop b + 1 = k := by
          injection h with h
          injection h with h1 h2
          exact ⟨h1, h2⟩
        rw [parseIntB_64] at hm
        refine ⟨atoiAll_bounds hm, ?_, he.symm, hlt⟩
        rw [he, List.length_take]
        omega
      · cases h
    · cases h
  · cases h
/-! The document's way. -/
def dig (c : Int) : Bool := decide (48 ≤ c) && decide (c ≤ 57)
def wU (n : Int) : Int := n % 18446744073709551616
def wS (n : Int) : Int := (n + 9223372036854775808) % 18446744073709551616 - 9223372036854775808
def rloop : List Int → Nat → Int → Int
  | [], _, n => n
  | c :: r, i, n => if dig c = true ∧ i < 21 then rloop r (i + 1) (wU (10 * n + (c - 48))) else n
def rval (b : List Int) : Int := if b.head? = some 45 then wS (-(wS (rloop (b.drop 1) 1 0))) else wS (rloop b 0 0)
def rtake (b : List Int) : Option (Int × Nat) := if (num (rval b)).length ≤ b.length ∧ b.take (num (rval b)).length = num (rval b) then some (rval b, (num (rval b)).length) else none
def fold (a : Int) (l : List Int) : Int := l.foldl (fun a c => wU (10 * a + (c - 48))) a
theorem rloop_app : ∀ (l t : List Int) (i : Nat) (a : Int), (∀ c ∈ l, 48 ≤ c ∧ c ≤ 57) → i + l.length ≤ 21 → rloop (l ++ 59 :: t) i a = fold a l
  | [], t, i, a, _, _ => by
    rw [List.nil_append, rloop, if_neg (fun h => absurd h.1 (by decide))]
    rfl
  | c :: l, t, i, a, h, hl => by
    have hc := h c List.mem_cons_self
    have hl' : i + (l.length + 1) ≤ 21 := hl
    rw [List.cons_append, rloop, if_pos ⟨by unfold dig; rw [decide_eq_true hc.1, decide_eq_true hc.2]; rfl, by omega⟩, rloop_app l t (i + 1) _ (fun x hx => h x (List.mem_cons_of_mem _ hx)) (by omega)]
    rfl
theorem ints_app (a b : List UInt8) : ints (a ++ b) = ints a ++ ints b := by unfold ints; rw [List.map_append]
theorem fold_dec (u : Nat) : u < 18446744073709551616 → fold 0 (ints (decDigits u)) = (u : Int) := by
  induction u using Nat.strongRecOn with
  | ind u ih =>
    intro hu
    by_cases h : u < 10
    · rw [dec_small h]
      show wU (10 * 0 + (((UInt8.ofNat (48 + u)).toNat : Int) - 48)) = _
      rw [ofNat_nat (by omega)]
      unfold wU
      omega
    · rw [dec_big h, ints_app]
      unfold fold
      rw [List.foldl_append]
      have e := ih (u / 10) (by omega) (by omega)
      unfold fold at e
      rw [e]
      show wU (10 * ((u / 10 : Nat) : Int) + (((UInt8.ofNat (48 + u % 10)).toNat : Int) - 48)) = _
      rw [ofNat_nat (by omega)]
      unfold wU
      omega
theorem ints_dig (u : Nat) : ∀ c ∈ ints (decDigits u), 48 ≤ c ∧ c ≤ 57 := by
  intro x hx
  unfold ints at hx
  obtain ⟨c, hc, rfl⟩ := List.mem_map.1 hx
  have := dec_dig u c hc
  omega
theorem ints_len (l : List UInt8) : (ints l).length = l.length := List.length_map _
theorem rval_num {n : Int} (hn : Rng n) (t : List Int) : rval (num n ++ t) = n := by
  obtain ⟨h0, h1⟩ := hn
  have e : num n ++ t = ints (itoa n) ++ 59 :: t := by unfold num; rw [List.append_assoc]; rfl
  rw [e]
  by_cases hn : n < 0
  · obtain ⟨u, rfl⟩ : ∃ u : Nat, n = -(u : Int) := ⟨n.natAbs, by omega⟩
    rw [itoa_neg u (by omega)]
    have hl : (ints (decDigits u)).length ≤ 20 := by rw [ints_len, decDigits_length]; exact nDigits_le20 u (by omega)
    have e2 : ints (45 :: decDigits u) ++ 59 :: t = 45 :: (ints (decDigits u) ++ 59 :: t) := rfl
    rw [e2]
    unfold rval
    rw [if_pos (show (45 :: (ints (decDigits u) ++ 59 :: t)).head? = some 45 from rfl), List.drop_one, List.tail_cons, rloop_app _ t 1 0 (ints_dig u) (by omega), fold_dec u (by omega)]
    unfold wS
    omega
  · obtain ⟨u, rfl⟩ : ∃ u : Nat, n = u := ⟨n.toNat, by omega⟩
    rw [itoa_nonneg]
    have hl : (ints (decDigits u)).length ≤ 20 := by rw [ints_len, decDigits_length]; exact nDigits_le20 u (by omega)
    have hh : (ints (decDigits u) ++ 59 :: t).head? ≠ some 45 := by
      have hd := ints_dig u
      have hne : ints (decDigits u) ≠ [] := fun e => dec_ne u (by
        have := congrArg List.length e
        rw [ints_len] at this
        exact List.eq_nil_of_length_eq_zero this)
      cases hx : ints (decDigits u) with
      | nil => exact absurd hx hne
      | cons c r =>
        have := hd c (by rw [hx]; exact List.mem_cons_self)
        intro e
        rw [List.cons_append, List.head?_cons] at e
        injection e with e
        omega
    unfold rval
    rw [if_neg hh, rloop_app _ t 0 0 (ints_dig u) (by omega), fold_dec u (by omega)]
    unfold wS
    omega
theorem wS_rng (x : Int) : Rng (wS x) := by
  unfold Rng wS
  omega
theorem rval_rng (b : List Int) : Rng (rval b) := by
  unfold rval
  split <;> exact wS_rng _
theorem rtake_eq (b : List Int) : rtake b = take b := by
  cases ht : take b with
  | some p =>
    obtain ⟨n, k⟩ := p
    obtain ⟨hn, rfl, h2, h3⟩ := take_some ht
    obtain ⟨t, rfl⟩ : ∃ t, b = num n ++ t := ⟨b.drop (num n).length, by conv => lhs; rw [← List.take_append_drop (num n).length b]; rw [h2]⟩
    unfold rtake
    rw [rval_num hn, if_pos ⟨h3, h2⟩]
  | none =>
    unfold rtake
    by_cases h : (num (rval b)).length ≤ b.length ∧ b.take (num (rval b)).length = num (rval b)
    · rw [take_of (rval_rng b) h.2] at ht
      cases ht
    · rw [if_neg h]
/-! A text. -/
def takeT (b : List Int) : Option (List Int × Nat) :=
  match take b with
  | some (n, k) => if 0 ≤ n ∧ n ≤ ((b.length - k : Nat) : Int) then some ((b.drop k).take n.toNat, k + n.toNat) else none
  | none => none
theorem take_num {n : Int} (hn : Rng n) (t : List Int) : take (num n ++ t) = some (n, (num n).length) := take_of hn List.take_left
theorem takeT_text {s t : List Int} (hs : (s.length : Int) ≤ 9223372036854775807) : takeT (text s ++ t) = some (s, (text s).length) := by
  unfold takeT text
  rw [List.append_assoc, take_num ⟨by omega, hs⟩]
  show (if _ then _ else _) = _
  rw [if_pos ⟨by omega, by rw [List.length_append, List.length_append]; omega⟩, List.drop_left, Int.toNat_natCast, List.take_left, List.length_append]
theorem take_nil : take [] = none := rfl
theorem take_ok {b : List Int} {n : Int} (hs : stop b < b.length) (h : parseIntB 64 (u8s (b.take (stop b))) = .ok n) : take b = if num n = b.take (stop b + 1) then some (n, stop b + 1) else none := by
  unfold take
  rw [if_pos hs, h]
theorem take_bad {b : List Int} (hs : stop b < b.length) (h : ∀ n, parseIntB 64 (u8s (b.take (stop b))) ≠ .ok n) : take b = none := by
  unfold take
  rw [if_pos hs]
  split
  · rename_i n e
    exact absurd e (h n)
  · rfl
theorem take_none {b : List Int} (hs : ¬ stop b < b.length) : take b = none := by
  unfold take
  rw [if_neg hs]
end NT
def laysAppendInt_ren : Go.Shelf.Ren := ⟨fun | 176 => 42 | 249 => 55 | 288 => 63 | 283 => 69 | 284 => 70 | 285 => 71 | 286 => 72 | 129 => 79 | 317 => 78 | 318 => 80 | 319 => 81 | 320 => 82 | 337 => 88 | 338 => 89 | n => n, fun | 37 => 26 | 2 => 2 | 3 => 3 | 53 => 87 | 4 => 4 | 9 => 9 | 171 => 115 | 0 => 0 | 173 => 118 | 212 => 127 | 51 => 73 | 5 => 5 | 20 => 20 | 213 => 128 | 46 => 110 | 232 => 142 | 233 => 143 | n => n, fun | 17 => 1 | 18 => 4 | 19 => 5 | n => n⟩
theorem laysAppendInt : Go.Proofs.LaysM.n176 Tryd.prog laysAppendInt_ren where
  mixed := by kernel_rfl
  f129 := Tryd.func79.trans (congrArg some (by kernel_rfl))
  f176 := Tryd.func42.trans (congrArg some (by kernel_rfl))
  f249 := Tryd.func55.trans (congrArg some (by kernel_rfl))
  f283 := Tryd.func69.trans (congrArg some (by kernel_rfl))
  f284 := Tryd.func70.trans (congrArg some (by kernel_rfl))
  f285 := Tryd.func71.trans (congrArg some (by kernel_rfl))
  f286 := Tryd.func72.trans (congrArg some (by kernel_rfl))
  f288 := Tryd.func63.trans (congrArg some (by kernel_rfl))
  f317 := Tryd.func78.trans (congrArg some (by kernel_rfl))
  f318 := Tryd.func80.trans (congrArg some (by kernel_rfl))
  f319 := Tryd.func81.trans (congrArg some (by kernel_rfl))
  f320 := Tryd.func82.trans (congrArg some (by kernel_rfl))
  f337 := Tryd.func88.trans (congrArg some (by kernel_rfl))
  f338 := Tryd.func89.trans (congrArg some (by kernel_rfl))
  t0 := Tryd.underlying0
  a0 := Tryd.isAgg0
  z0 := Tryd.sizeOf0
  v0 := Tryd.zeroValue0
  t2 := Tryd.underlying2
  a2 := Tryd.isAgg2
  z2 := Tryd.sizeOf2
  v2 := Tryd.zeroValue2
  t3 := Tryd.underlying3
  a3 := Tryd.isAgg3
  z3 := Tryd.sizeOf3
  v3 := Tryd.zeroValue3
  t4 := Tryd.underlying4
  a4 := Tryd.isAgg4
  z4 := Tryd.sizeOf4
  v4 := Tryd.zeroValue4
  t5 := Tryd.underlying5
  a5 := Tryd.isAgg5
  z5 := Tryd.sizeOf5
  v5 := Tryd.zeroValue5
  t9 := Tryd.underlying9
  a9 := Tryd.isAgg9
  z9 := Tryd.sizeOf9
  v9 := Tryd.zeroValue9
  t20 := Tryd.underlying20
  a20 := Tryd.isAgg20
  z20 := Tryd.sizeOf20
  v20 := Tryd.zeroValue20
  t37 := Tryd.underlying26
  a37 := Tryd.isAgg26
  z37 := Tryd.sizeOf26
  v37 := Tryd.zeroValue26
  t46 := Tryd.underlying110
  a46 := Tryd.isAgg110
  z46 := Tryd.sizeOf110
  v46 := Tryd.zeroValue110
  t51 := Tryd.underlying73
  a51 := Tryd.isAgg73
  z51 := Tryd.sizeOf73
  v51 := Tryd.zeroValue73
  t53 := Tryd.underlying87
  a53 := Tryd.isAgg87
  z53 := Tryd.sizeOf87
  v53 := Tryd.zeroValue87
  t171 := Tryd.underlying115
  a171 := Tryd.isAgg115
  z171 := Tryd.sizeOf115
  v171 := Tryd.zeroValue115
  t173 := Tryd.underlying118
  a173 := Tryd.isAgg118
  z173 := Tryd.sizeOf118
  v173 := Tryd.zeroValue118
  t212 := Tryd.underlying127
  a212 := Tryd.isAgg127
  z212 := Tryd.sizeOf127
  v212 := Tryd.zeroValue127
  t213 := Tryd.underlying128
  a213 := Tryd.isAgg128
  z213 := Tryd.sizeOf128
  t232 := Tryd.underlying142
  a232 := Tryd.isAgg142
  z232 := Tryd.sizeOf142
  v232 := Tryd.zeroValue142
  t233 := Tryd.underlying143
  a233 := Tryd.isAgg143
  z233 := Tryd.sizeOf143
  v233 := Tryd.zeroValue143
  g17 := by kernel_rfl
  g18 := by kernel_rfl
  g19 := by kernel_rfl
  i0 := by kernel_rfl
  i2 := by kernel_rfl
  i3 := by kernel_rfl
  i4 := by kernel_rfl
  i5 := by kernel_rfl
  i9 := by kernel_rfl
  i20 := by kernel_rfl
  i37 := by kernel_rfl
  i46 := by kernel_rfl
  i51 := by kernel_rfl
  i53 := by kernel_rfl
  i171 := by kernel_rfl
  i173 := by kernel_rfl
  i212 := by kernel_rfl
  i232 := by kernel_rfl
  i233 := by kernel_rfl
  m17 := by kernel_rfl
  m18 := by kernel_rfl
  m19 := by kernel_rfl
def laysParseInt_ren : Go.Shelf.Ren := ⟨fun | 174 => 57 | 247 => 65 | 245 => 66 | 287 => 73 | 279 => 74 | 280 => 75 | 281 => 76 | 282 => 77 | 321 => 83 | 322 => 84 | 316 => 85 | 171 => 87 | 205 => 86 | 243 => 90 | 246 => 91 | 283 => 69 | 284 => 70 | 285 => 71 | 286 => 72 | 129 => 79 | 317 => 78 | 318 => 80 | 319 => 81 | 320 => 82 | 337 => 88 | 338 => 89 | n => n, fun | 9 => 9 | 3 => 3 | 2 => 2 | 75 => 100 | 85 => 101 | 4 => 4 | 167 => 120 | 5 => 5 | 53 => 87 | 175 => 121 | 46 => 110 | 168 => 123 | 37 => 26 | 0 => 0 | 210 => 135 | 21 => 21 | 127 => 138 | 145 => 141 | 143 => 139 | 171 => 115 | 173 => 118 | 212 => 127 | 51 => 73 | 20 => 20 | 213 => 128 | 232 => 142 | 233 => 143 | 80 => 145 | n => n, fun | 15 => 2 | 16 => 3 | 17 => 1 | 18 => 4 | 19 => 5 | n => n⟩
theorem laysParseInt : Go.Proofs.LaysC.n174 Tryd.prog laysParseInt_ren where
  mixed := by kernel_rfl
  f129 := Tryd.func79.trans (congrArg some (by kernel_rfl))
  f171 := Tryd.func87.trans (congrArg some (by kernel_rfl))
  f174 := Tryd.func57.trans (congrArg some (by kernel_rfl))
  f205 := Tryd.func86.trans (congrArg some (by kernel_rfl))
  f243 := Tryd.func90.trans (congrArg some (by kernel_rfl))
  f245 := Tryd.func66.trans (congrArg some (by kernel_rfl))
  f246 := Tryd.func91.trans (congrArg some (by kernel_rfl))
  f247 := Tryd.func65.trans (congrArg some (by kernel_rfl))
  f279 := Tryd.func74.trans (congrArg some (by kernel_rfl))
  f280 := Tryd.func75.trans (congrArg some (by kernel_rfl))
  f281 := Tryd.func76.trans (congrArg some (by kernel_rfl))
  f282 := Tryd.func77.trans (congrArg some (by kernel_rfl))
  f283 := Tryd.func69.trans (congrArg some (by kernel_rfl))
  f284 := Tryd.func70.trans (congrArg some (by kernel_rfl))
  f285 := Tryd.func71.trans (congrArg some (by kernel_rfl))
  f286 := Tryd.func72.trans (congrArg some (by kernel_rfl))
  f287 := Tryd.func73.trans (congrArg some (by kernel_rfl))
  f316 := Tryd.func85.trans (congrArg some (by kernel_rfl))
  f317 := Tryd.func78.trans (congrArg some (by kernel_rfl))
  f318 := Tryd.func80.trans (congrArg some (by kernel_rfl))
  f319 := Tryd.func81.trans (congrArg some (by kernel_rfl))
  f320 := Tryd.func82.trans (congrArg some (by kernel_rfl))
  f321 := Tryd.func83.trans (congrArg some (by kernel_rfl))
  f322 := Tryd.func84.trans (congrArg some (by kernel_rfl))
  f337 := Tryd.func88.trans (congrArg some (by kernel_rfl))
  f338 := Tryd.func89.trans (congrArg some (by kernel_rfl))
  t0 := Tryd.underlying0
  a0 := Tryd.isAgg0
  z0 := Tryd.sizeOf0
  v0 := Tryd.zeroValue0
  t2 := Tryd.underlying2
  a2 := Tryd.isAgg2
  z2 := Tryd.sizeOf2
  v2 := Tryd.zeroValue2
  t3 := Tryd.underlying3
  a3 := Tryd.isAgg3
  z3 := Tryd.sizeOf3
  v3 := Tryd.zeroValue3
  t4 := Tryd.underlying4
  a4 := Tryd.isAgg4
  z4 := Tryd.sizeOf4
  v4 := Tryd.zeroValue4
  t5 := Tryd.underlying5
  a5 := Tryd.isAgg5
  z5 := Tryd.sizeOf5
  v5 := Tryd.zeroValue5
  t9 := Tryd.underlying9
  a9 := Tryd.isAgg9
  z9 := Tryd.sizeOf9
  v9 := Tryd.zeroValue9
  t20 := Tryd.underlying20
  a20 := Tryd.isAgg20
  z20 := Tryd.sizeOf20
  v20 := Tryd.zeroValue20
  t21 := Tryd.underlying21
  a21 := Tryd.isAgg21
  z21 := Tryd.sizeOf21
  v21 := Tryd.zeroValue21
  t37 := Tryd.underlying26
  a37 := Tryd.isAgg26
  z37 := Tryd.sizeOf26
  v37 := Tryd.zeroValue26
  t46 := Tryd.underlying110
  a46 := Tryd.isAgg110
  z46 := Tryd.sizeOf110
  v46 := Tryd.zeroValue110
  t51 := Tryd.underlying73
  a51 := Tryd.isAgg73
  z51 := Tryd.sizeOf73
  v51 := Tryd.zeroValue73
  t53 := Tryd.underlying87
  a53 := Tryd.isAgg87
  z53 := Tryd.sizeOf87
  v53 := Tryd.zeroValue87
  t75 := Tryd.underlying100
  a75 := Tryd.isAgg100
  z75 := Tryd.sizeOf100
  v75 := Tryd.zeroValue100
  t85 := Tryd.underlying101
  a85 := Tryd.isAgg101
  z85 := Tryd.sizeOf101
  v85 := Tryd.zeroValue101
  t127 := Tryd.underlying138
  a127 := Tryd.isAgg138
  z127 := Tryd.sizeOf138
  v127 := Tryd.zeroValue138
  t143 := Tryd.underlying139
  a143 := Tryd.isAgg139
  z143 := Tryd.sizeOf139
  v143 := Tryd.zeroValue139
  t145 := Tryd.underlying141
  a145 := Tryd.isAgg141
  z145 := Tryd.sizeOf141
  v145 := Tryd.zeroValue141
  t167 := Tryd.underlying120
  a167 := Tryd.isAgg120
  z167 := Tryd.sizeOf120
  v167 := Tryd.zeroValue120
  t168 := Tryd.underlying123
  a168 := Tryd.isAgg123
  z168 := Tryd.sizeOf123
  v168 := Tryd.zeroValue123
  t171 := Tryd.underlying115
  a171 := Tryd.isAgg115
  z171 := Tryd.sizeOf115
  v171 := Tryd.zeroValue115
  t173 := Tryd.underlying118
  a173 := Tryd.isAgg118
  z173 := Tryd.sizeOf118
  v173 := Tryd.zeroValue118
  t175 := Tryd.underlying121
  a175 := Tryd.isAgg121
  z175 := Tryd.sizeOf121
  v175 := Tryd.zeroValue121
  t210 := Tryd.underlying135
  a210 := Tryd.isAgg135
  z210 := Tryd.sizeOf135
  v210 := Tryd.zeroValue135
  t212 := Tryd.underlying127
  a212 := Tryd.isAgg127
  z212 := Tryd.sizeOf127
  v212 := Tryd.zeroValue127
  t213 := Tryd.underlying128
  a213 := Tryd.isAgg128
  z213 := Tryd.sizeOf128
  t232 := Tryd.underlying142
  a232 := Tryd.isAgg142
  z232 := Tryd.sizeOf142
  v232 := Tryd.zeroValue142
  t233 := Tryd.underlying143
  a233 := Tryd.isAgg143
  z233 := Tryd.sizeOf143
  v233 := Tryd.zeroValue143
  g15 := by kernel_rfl
  g16 := by kernel_rfl
  g17 := by kernel_rfl
  g18 := by kernel_rfl
  g19 := by kernel_rfl
  t80 := Tryd.underlying145
  a80 := Tryd.isAgg145
  z80 := Tryd.sizeOf145
  v80 := Tryd.zeroValue145
  i0 := by kernel_rfl
  i2 := by kernel_rfl
  i3 := by kernel_rfl
  i4 := by kernel_rfl
  i5 := by kernel_rfl
  i9 := by kernel_rfl
  i20 := by kernel_rfl
  i21 := by kernel_rfl
  i37 := by kernel_rfl
  i46 := by kernel_rfl
  i51 := by kernel_rfl
  i53 := by kernel_rfl
  i75 := by kernel_rfl
  i80 := by kernel_rfl
  i85 := by kernel_rfl
  i127 := by kernel_rfl
  i143 := by kernel_rfl
  i145 := by kernel_rfl
  i167 := by kernel_rfl
  i168 := by kernel_rfl
  i171 := by kernel_rfl
  i173 := by kernel_rfl
  i175 := by kernel_rfl
  i210 := by kernel_rfl
  i212 := by kernel_rfl
  i232 := by kernel_rfl
  i233 := by kernel_rfl
  m15 := by kernel_rfl
  m16 := by kernel_rfl
  m17 := by kernel_rfl
  m18 := by kernel_rfl
  m19 := by kernel_rfl
  c0 := by kernel_rfl
  c2 := by kernel_rfl
  c3 := by kernel_rfl
  c4 := by kernel_rfl
  c5 := by kernel_rfl
  c9 := by kernel_rfl
  c20 := by kernel_rfl
  c21 := by kernel_rfl
  c37 := by kernel_rfl
  c46 := by kernel_rfl
  c51 := by kernel_rfl
  c53 := by kernel_rfl
  c75 := by kernel_rfl
  c80 := by kernel_rfl
  c85 := by kernel_rfl
  c127 := by kernel_rfl
  c143 := by kernel_rfl
  c145 := by kernel_rfl
  c167 := by kernel_rfl
  c168 := by kernel_rfl
  c171 := by kernel_rfl
  c173 := by kernel_rfl
  c175 := by kernel_rfl
  c210 := by kernel_rfl
  c212 := by kernel_rfl
  c213 := by kernel_rfl
  c232 := by kernel_rfl
  c233 := by kernel_rfl
def laysIndexByte_ren : Go.Shelf.Ren := ⟨fun | 187 => 56 | 255 => 64 | n => n, fun | 37 => 26 | 5 => 5 | 3 => 3 | n => n, fun | n => n⟩
theorem laysIndexByte : Go.Proofs.Lays.n187 Tryd.prog laysIndexByte_ren where
  mixed := by kernel_rfl
  f187 := Tryd.func56.trans (congrArg some (by kernel_rfl))
  f255 := Tryd.func64.trans (congrArg some (by kernel_rfl))
  t3 := Tryd.underlying3
  a3 := Tryd.isAgg3
  z3 := Tryd.sizeOf3
  v3 := Tryd.zeroValue3
  t5 := Tryd.underlying5
  a5 := Tryd.isAgg5
  z5 := Tryd.sizeOf5
  v5 := Tryd.zeroValue5
  t37 := Tryd.underlying26
  a37 := Tryd.isAgg26
  z37 := Tryd.sizeOf26
  v37 := Tryd.zeroValue26
attribute [local go_sem] Oper.semAt_some
/-! What the library's calls do here. -/
def NTabs (w : World) : Prop := Lib.TabIs Tryd.prog w "internal/strconv.uint64pow10" .u64 Lib.pow10Tab ∧ (∃ tp p, w.var? Tryd.prog "strconv.ErrSyntax" = some #[.iface tp p]) ∧ ∃ tp p, w.var? Tryd.prog "strconv.ErrRange" = some #[.iface tp p]
theorem var_on {w w' : World} {n : String} {cs : Array Value} (h : w.var? Tryd.prog n = some cs) (hb : Below w.heap.size w w') : w'.var? Tryd.prog n = some cs := by
  unfold World.var? at h ⊢
  cases hg : (Tryd.prog).globalNamed n with
  | none =>
    rw [hg] at h
    cases h
  | some g =>
    rw [hg] at h
    simp only [Option.bind_some] at h ⊢
    have hlt : g < w.heap.size := by
      rcases Nat.lt_or_ge g w.heap.size with h' | h'
      · exact h'
      · rw [Array.getElem?_eq_none h'] at h
        cases h
    rw [hb.block g hlt]
    exact h
theorem NTabs.on {w w' : World} (h : NTabs w) (hb : Below w.heap.size w w') : NTabs w' :=
  ⟨var_on h.1 hb, h.2.1.elim fun tp ⟨p, e⟩ => ⟨tp, p, var_on e hb⟩, h.2.2.elim fun tp ⟨p, e⟩ => ⟨tp, p, var_on e hb⟩⟩
theorem appendint_c (n : Int) (hn : NT.Rng n) (w : World) (hT : NTabs w) :
    Calls Tryd.prog 42 #[.slice none 0 0, .int .i64 n, .int .i64 10] w fun e w' => ∃ v, e = .returned v ∧ (Kd.int .u8).R 5 w' w.heap.size (fun _ => True) v (NT.ints (Lib.itoa n)) ∧ Below w.heap.size w w' :=
  (Any.strconv_AppendInt_10 laysAppendInt w.heap.size 0 n hn.1 hn.2 (.slice none 0 0) [] w (World.ownsRow_nil _ _ _ _) (Nat.le_refl _) (by decide) (Lib.tabBelow_of_tabIs hT.1)).mono fun e w' ⟨v, e1, ho, hb, _⟩ =>
    ⟨v, e1, Kd.R_of_own (enc := Value.int .u8) (by
      have h2 : encs (Value.int .u8) (NT.ints (Lib.itoa n)) = [] ++ Lib.byteCells (Lib.itoa n) := by
        unfold encs NT.ints Lib.byteCells
        rw [List.map_map, List.nil_append]
        rfl
      rw [h2, NT.ints_len]
      rw [Nat.zero_add] at ho
      exact ho) (fun _ _ => trivial), hb⟩
def PRes (s : ByteArray) (n : Int) (u : Value) : Prop := (u = .nilIface ∧ Lib.parseIntB 64 s.data.toList = .ok n) ∨ ((∃ t p, u = .iface t p) ∧ ∀ m, Lib.parseIntB 64 s.data.toList ≠ .ok m)
theorem parse_c (s : ByteArray) (hs : s.size ≤ 1099511627776) (w : World) (hT : NTabs w) :
    Calls Tryd.prog 57 #[.string s, .int .i64 10, .int .i64 64] w fun e w' => ∃ n u, e = .returned (.tuple #[.int .i64 n, u]) ∧ PRes s n u ∧ Below w.heap.size w w' := by
  obtain ⟨_, ⟨tp1, p1, h1⟩, tp2, p2, h2⟩ := hT
  cases h : Lib.parseIntB 64 s.data.toList with
  | ok v =>
    exact (Any.strconv_ParseInt_10_at64_ok laysParseInt s (by omega) v h w).mono fun e w' ⟨e1, hw⟩ => ⟨v, _, e1, .inl ⟨rfl, h⟩, hw.elim (fun e => by rw [e]; exact Below.refl _ _) (fun ⟨t, e⟩ => by rw [e]; exact Lib.bytesWorld_below _ _ _)⟩
  | range =>
    exact (Any.strconv_ParseInt_10_at64_range_var laysParseInt s (by omega) h tp2 p2 w h2).mono fun e w' ⟨N, e1, _, _, hb⟩ => ⟨_, _, e1, .inr ⟨⟨_, _, rfl⟩, fun m e => by rw [h] at e; cases e⟩, hb⟩
  | _ =>
    exact (Any.strconv_ParseInt_10_at64_syntax_var laysParseInt s (by omega) h tp1 p1 w h1).mono fun e w' ⟨N, e1, _, _, hb⟩ => ⟨_, _, e1, .inr ⟨⟨_, _, rfl⟩, fun m e => by rw [h] at e; cases e⟩, hb⟩
/-- Where a row of ours may lie: nowhere, or in a block of cells. -/
def Plain (A : Option Addr) (c : Nat) : Prop := (A = none ∧ c = 0) ∨ ∃ g o, A = some ⟨g, o, none⟩
def NBytes (b : List Int) : Prop := ∀ x ∈ b, 0 ≤ x ∧ x < 256
theorem index_eq : ∀ (b : List Int), NBytes b → Lib.indexByte (Lib.bytesOf b) 59 = if NT.stop b < b.length then (NT.stop b : Int) else -1
  | [], _ => rfl
  | x :: r, h => by
    have hx := h x List.mem_cons_self
    have ih := index_eq r (fun y hy => h y (List.mem_cons_of_mem _ hy))
    have e1 : Lib.bytesOf (x :: r) = UInt8.ofNat x.toNat :: Lib.bytesOf r := rfl
    rw [e1]
    unfold Lib.indexByte
    rw [ih]
    by_cases hc : x = 59
    · subst hc
      rw [NT.stop, if_pos rfl]
      rfl
    · have e2 : (UInt8.ofNat x.toNat == 59) = false := by
        rw [beq_eq_false_iff_ne]
        intro e
        have := congrArg UInt8.toNat e
        rw [NT.ofNat_nat (by omega)] at this
        have e3 : (59 : UInt8).toNat = 59 := rfl
        omega
      rw [NT.stop, if_neg hc, e2, if_neg (by simp)]
      by_cases hl : NT.stop r < r.length
      · rw [if_pos hl, if_pos (show NT.stop r + 1 < (x :: r).length from Nat.succ_lt_succ hl)]
        have e4 : ((NT.stop r : Int) == -1) = false := by
          rw [beq_eq_false_iff_ne]
          omega
        rw [e4, if_neg (by simp)]
        omega
      · rw [if_neg hl, if_neg (show ¬ NT.stop r + 1 < (x :: r).length from fun h => hl (Nat.lt_of_succ_lt_succ h))]
        rfl
theorem index_c {w : World} {A : Option Addr} {c : Nat} {b : List Int} (hC : (Kd.int .u8).C w A b.length b) (hp : Plain A c) (hb : NBytes b) :
    Calls Tryd.prog 56 #[.slice A b.length c, .int .u8 59] w fun e w' => e = .returned (.int .i64 (if NT.stop b < b.length then (NT.stop b : Int) else -1)) ∧ w = w' := by
  rw [← index_eq b hb]
  rcases hp with ⟨rfl, rfl⟩ | ⟨g, o, rfl⟩
  · obtain rfl : b = [] := Kd.C_none hC
    exact (Any.bytes_IndexByte_nil laysIndexByte 59 w).mono fun e w' ⟨h1, h2⟩ => ⟨h1, h2.symm⟩
  · exact (Any.bytes_IndexByte laysIndexByte g o b.length c b 59 w rfl (fun i hi => by
      obtain ⟨ad, e, hc⟩ := hC.2.2 (by omega)
      obtain rfl := Option.some.inj e
      obtain ⟨cs, h1, h2, h3⟩ := hc i _ (List.getElem?_eq_getElem hi)
      have h4 := h3 0 (.int .u8 b[i]) (by rw [show cs = [.int .u8 b[i]] from h2]; rfl)
      rw [Nat.add_zero, show (Kd.int .u8).sz = 1 from rfl, Nat.mul_one, Kd.add_plain2] at h4
      rw [h4, List.getD_eq_getElem?_getD, List.getElem?_eq_getElem hi]
      rfl)).mono fun e w' ⟨h1, h2⟩ => ⟨h1, h2.symm⟩
end Go.Proofs.YtkicekddkgehoaaDoor.Hnd
