/- Contracts of the calls, by hand. -/
import Derived.Test.YtkicekddkgehoaaQSlotLastx1
import Derived.Test.YtkicekddkgehoaaSpan4
import Derived.RangeFuncNested
import Derived.RangeFuncBound
import Derived.RangeFuncCalls
import Derived.RangeFuncLeaves
import Derived.RangeFuncBox
import Derived.Shelf.Abstract
import Derived.Shelf.RegionOpen
import Derived.OwnWalkIn
import Derived.TacticsInMore
import Derived.LoopNIn
import Derived.LoopIn
namespace Go.Proofs.Ytkicekddkgehoaa.Hnd
open Go.RowKit Go.Proofs.Ytkicekddkgehoaa.QSlotLast Go.Proofs.YtkicekddkgehoaaW.PrintWords Go.Proofs.YtkicekddkgehoaaW.PrintLast Go.Proofs.YtkicekddkgehoaaW.Dk Go.Shelf
set_option linter.unusedVariables false
set_option linter.unusedSimpArgs false
attribute [local go_sem] Oper.semAt_some
theorem get4_f (l : List Int) (hl : 4 ≤ l.length) (hb : DS.Bytes l) : sum_Get.f 200 l = some (DS.get4 l) := by
  match l, hl with
  | a :: b :: c :: d :: r, _ =>
    have h1 := hb a (by simp)
    have h2 := hb b (by simp)
    have h3 := hb c (by simp)
    have h4 := hb d (by simp)
    rw [SumP.get4 a b c d (by omega) (by omega) (by omega) (by omega) r]
    simp only [DS.get4]
    congr 1
    omega
theorem get4_c (A : Option Addr) (n c : Nat) (l : List Int) (hn : l.length = n) (hl : 4 ≤ n) (hb : DS.Bytes l) (W : World) (hr : (Kd.int .u8).C W A n l) (hc : n ≤ c) :
    Calls Try.prog 37 #[.slice A n c] W fun e w' => e = .returned (.int .u32 (DS.get4 l)) ∧ Below W.heap.size W w' := by
  subst hn
  exact (sum_Get.calls 200 A c l _ W hr hc (get4_f l hl hb)).mono fun _ _ ⟨h1, h2⟩ => ⟨h1, h2.below⟩
theorem need_f (n : Nat) (hn : n < 1099511627776) : span_Need.f (n : Int) = some (DS.need n : Int) := by
  have e1 : Int.tmod (n : Int) 16 = ((n % 16 : Nat) : Int) := by rw [Int.tmod_eq_emod_of_nonneg (by omega)]; omega
  have e2 : Int.tdiv (n : Int) 16 = ((n / 16 : Nat) : Int) := by rw [Int.tdiv_eq_ediv_of_nonneg (by omega)]; omega
  unfold span_Need.f DS.need
  rw [if_neg (by omega), e1, e2]
  split
  · rw [show wrap64 ((n / 16 : Nat) : Int) = ((n / 16 : Nat) : Int) by unfold wrap64; omega]
    congr 1
    unfold wrap64
    omega
  · congr 1
    unfold wrap64
    omega
theorem need_c (n : Nat) (hn : n < 1099511627776) (W : World) : Calls Try.prog 21 #[.int .i64 (n : Int)] W fun e w' => e = .returned (.int .i64 (DS.need n : Int)) ∧ Below W.heap.size W w' :=
  (span_Need.calls (n : Int) _ W (need_f n hn)).mono fun _ _ ⟨h1, h2⟩ => ⟨h1, h2.below⟩
attribute [local go_sem] Oper.semAt_some
theorem get4_lt (l : List Int) (hb : DS.Bytes l) : 0 ≤ DS.get4 l ∧ DS.get4 l < 4294967296 := by
  match l with
  | a :: b :: c :: d :: r =>
    have h1 := hb a (by simp)
    have h2 := hb b (by simp)
    have h3 := hb c (by simp)
    have h4 := hb d (by simp)
    simp only [DS.get4]
    omega
  | [] => simp [DS.get4]
  | [a] => simp [DS.get4]
  | [a, b] => simp [DS.get4]
  | [a, b, c] => simp [DS.get4]
theorem grab_snoc (d : DS) : ∀ (k : Nat) (i : Int), DS.grab d i (k + 1) = DS.grab d i k ++ d.rd (i + k)
  | 0, i => by simp [DS.grab]
  | k + 1, i => by
    rw [DS.grab, grab_snoc d k (i + 1), DS.grab, List.append_assoc, show i + 1 + (k : Int) = i + ((k + 1 : Nat) : Int) by omega]
theorem grab_len {d : DS} (h : d.Ok) : ∀ (k : Nat) (i : Int), 0 ≤ i → i + k ≤ d.S.length → (DS.grab d i k).length = 16 * k
  | 0, i, _, _ => rfl
  | k + 1, i, h0, h1 => by
    rw [DS.grab, List.length_append, DS.rd_len h, if_pos (by omega), grab_len h k (i + 1) (by omega) (by omega)]
    omega
def GetPost (w0 : World) (xs : List Nat) (W : World) (g : Nat) (d : DS) (r : Int × List Int × Bool) (e : Ending) (w' : World) : Prop :=
  ∃ v, e = .returned (.tuple #[.int .u32 r.1, v, .bool r.2.2]) ∧ (Kd.int .u8).R 5 w' W.heap.size (fun _ => True) v r.2.1 ∧ St w0 xs w' g d ∧ Below W.heap.size W w'
set_option maxHeartbeats 4000000 in
set_option maxRecDepth 100000 in
theorem get_none {w0 W : World} {xs : List Nat} {g : Nat} {d : DS} (h : St w0 xs W g d) (i room : Int) (hl : (d.rd i).length ≠ 16) :
    Calls Try.prog 24 #[.pointer (some ⟨g, 0, none⟩), .int .i64 i, .int .i64 room] W (GetPost w0 xs W g d (DS.get crcO d i room)) := by
  have e : DS.get crcO d i room = (0, [], false) := by unfold DS.get; rw [if_pos hl]
  rw [e]
  have e0 : (d.rd i) = [] := by
    have := DS.rd_len h.1.isOk i
    rw [this] at hl
    split at hl
    · omega
    · rename_i hn
      unfold DS.rd
      rw [if_neg hn]
  have H := Aside0.mk h
  have E0 := Aside0.mk e0
  clear e e0 hl h
  unfold GetPost
  go_enter Try.func24, Try.ntmps24
  go_wp2_with (go_at_call 36; refine (st_read H.out i).mono ?_; rw [E0.out]; rintro e w1 ⟨v0, rfl, hR, hS, hM, hB⟩; obtain ⟨A', c', hv0, -, -⟩ := Kd.R_reads hR; subst hv0; have S1 := Aside0.mk hS; have B1 := Aside0.mk hB; clear hR hS hM hB)
  exact bodyPost_ret (v := .tuple #[.int .u32 0, .slice none 0 0, .bool false]) (by simp [results, Try.results24, go_sem]) rfl ⟨_, rfl, Kd.R_nil _ _ _ _ _, S1.out, B1.out⟩
set_option maxHeartbeats 4000000 in
set_option maxRecDepth 100000 in
theorem get_some {w0 W : World} {xs : List Nat} {g : Nat} {d : DS} (h : St w0 xs W g d) (i : Nat) (room : Int) (hl : (d.rd i).length = 16) (hb : DS.Bytes (d.rd i)) (hi : i < 100000) (hs : d.S.length ≤ 4000) (hr0 : -1000000 ≤ room) (hr1 : room ≤ 1000000) :
    Calls Try.prog 24 #[.pointer (some ⟨g, 0, none⟩), .int .i64 (i : Int), .int .i64 room] W (GetPost w0 xs W g d (DS.get crcO d i room)) := by
  obtain ⟨b, hbq⟩ : ∃ b, b = d.rd (i : Int) := ⟨_, rfl⟩
  rw [← hbq] at hl hb
  have H := Aside0.mk h
  have HL := Aside0.mk hl
  have HBY := Aside0.mk hb
  have HBQ := Aside0.mk hbq
  have hd4 : DS.Bytes (b.drop 4) := fun x hx => hb x (List.mem_of_mem_drop hx)
  have hd8 : DS.Bytes (b.drop 8) := fun x hx => hb x (List.mem_of_mem_drop hx)
  have hd12 : DS.Bytes (b.drop 12) := fun x hx => hb x (List.mem_of_mem_drop hx)
  obtain ⟨t, ht⟩ : ∃ t, t = DS.get4 b := ⟨_, rfl⟩
  obtain ⟨mn, hmn⟩ : ∃ mn : Nat, DS.get4 (b.drop 4) = (mn : Int) := ⟨(DS.get4 (b.drop 4)).toNat, by have := get4_lt _ hd4; omega⟩
  obtain ⟨ck, hck⟩ : ∃ ck, ck = DS.get4 (b.drop 8) := ⟨_, rfl⟩
  obtain ⟨t2, ht2⟩ : ∃ t2, t2 = DS.get4 (b.drop 12) := ⟨_, rfl⟩
  have hm32 : mn < 4294967296 := by have := get4_lt _ hd4; omega
  have T1 := Aside0.mk ht
  have TM := Aside0.mk hmn
  have TC := Aside0.mk hck
  have T2 := Aside0.mk ht2
  have M32 := Aside0.mk hm32
  have HI := Aside0.mk hi
  have HS := Aside0.mk hs
  have HG : Aside0 (DS.get crcO d i room = if t = 0 ∨ t ≠ t2 ∨ (DS.need mn : Int) > room ∨ (DS.need mn : Int) > d.S.length - i then (0, [], false) else
      if crcO ((DS.grab d ((i : Int) + 1) (DS.need mn - 1)).take mn) = ck then (t, (DS.grab d ((i : Int) + 1) (DS.need mn - 1)).take mn, true) else (0, [], false)) := ⟨by
    unfold DS.get
    rw [← hbq, if_neg (by rw [hl]; simp), ← ht, hmn, ← hck, ← ht2, Int.toNat_natCast]⟩
  obtain ⟨res, hres⟩ : ∃ res, res = DS.get crcO d i room := ⟨_, rfl⟩
  rw [← hres]
  obtain ⟨nd, hnd⟩ : ∃ nd, DS.need mn = nd := ⟨_, rfl⟩
  have HRES := Aside0.mk (hres.trans HG.out)
  have hmk1 : (mn : Int) ≤ 9223372036854775807 := by omega
  have hmk2 : (0 : Int) ≤ (mn : Int) := by omega
  clear ht hmn hck ht2 hm32 hi hs HG hres
  have HD4 := Aside0.mk hd4
  have HD8 := Aside0.mk hd8
  have HD12 := Aside0.mk hd12
  clear h hl hb hbq hd4 hd8 hd12
  unfold GetPost
  go_enter Try.func24, Try.ntmps24
  go_upto_region 5 with (first
    | (go_at_call 37; refine (get4_c (some ⟨q, 0, none⟩) 16 cq b HL.out (by omega) HBY.out w1 C1.out (by have := LC.out; omega)).mono ?_; rw [← T1.out]; rintro e w2 ⟨rfl, hB⟩; have S2 := Aside0.mk (S1.out.after hB); have C2 := Aside0.mk (Kd.C_below C1.out hB); have B2 := Aside0.mk (B1.out.trans (hB.mono B1.out.size)); clear hB)
    | (go_at_call 36; refine (st_read H.out (i : Int)).mono ?_; rw [← HBQ.out]; rintro e w1 ⟨v0, rfl, hR, hS, hM, hB⟩; obtain ⟨q, cq, hv0, hlc, -, -, -, hC, -⟩ := R_plain hR (by have := HL.out; omega); rw [HL.out] at hv0 hlc hC; subst hv0; (have hk1 : (16 : Int) ≤ (cq : Int) := by omega); have LC := Aside0.mk hlc; have C1 := Aside0.mk hC; have S1 := Aside0.mk hS; have B1 := Aside0.mk hB; clear hR hS hM hB hC hlc))
  have hk2 : (0 : Int) ≤ (cq : Int) := by omega
  have hk3 : (4 : Int) ≤ (cq : Int) := by omega
  have hk4 : (8 : Int) ≤ (cq : Int) := by omega
  have hk5 : (12 : Int) ≤ (cq : Int) := by omega
  have hk6 : ¬ cq = 4 := by omega
  have hk7 : ¬ cq = 8 := by omega
  have hk8 : ¬ cq = 12 := by omega
  have cut : ∀ m W', m < 16 → Below w2.heap.size w2 W' → (Kd.int .u8).C W' (some ⟨q, m, none⟩) (16 - m) (b.drop m) := fun m W' hm hB => by
    have h1 := Kd.C_drop (m := m) (c := cq) (show (Kd.int .u8).C W' (some ⟨q, 0, none⟩) b.length b by rw [HL.out]; exact Kd.C_below C2.out hB) (by rw [HL.out]; omega) (by rw [HL.out]; have := LC.out; omega)
    rw [if_neg (by have := LC.out; omega)] at h1
    have e1 : (some (⟨q, 0, none⟩ : Addr)).map (·.add (m * (Kd.int .u8).sz)) = some ⟨q, m, none⟩ := by
      show some (Addr.add _ (m * 1)) = _
      rw [Nat.mul_one, Kd.add_plain2, Nat.zero_add]
    rw [e1, List.length_drop, HL.out] at h1
    exact h1
  have HCUT := Aside0.mk cut
  clear cut
  go_region_held (fun _ => True) (trivial) (first
    | (go_at_call 37; refine (get4_c (some ⟨q, 8, none⟩) 8 (cq - 8) (b.drop 8) (by rw [List.length_drop, HL.out]) (by omega) HD8.out w3 (HCUT.out 8 w3 (by omega) (B3.out)) (by have := LC.out; omega)).mono ?_; rw [← TC.out]; rintro e w4 ⟨rfl, hB⟩; have B4 := Aside0.mk (B3.out.trans (hB.mono B3.out.size)); clear hB)
    | (go_at_call 37; refine (get4_c (some ⟨q, 4, none⟩) 12 (cq - 4) (b.drop 4) (by rw [List.length_drop, HL.out]) (by omega) HD4.out w2.drew (HCUT.out 4 w2.drew (by omega) (below_drew1 (Below.refl _ _))) (by have := LC.out; omega)).mono ?_; rw [TM.out]; rintro e w3 ⟨rfl, hB⟩; have B3 : Aside0 (Below w2.heap.size w2 w3) := ⟨(below_drew1 (Below.refl w2.heap.size w2)).trans (hB.mono (by simp))⟩; clear hB))
  all_goals
    have S4 := Aside0.mk (S2.out.after B4.out)
    have BW := Aside0.mk (B2.out.trans (B4.out.mono B2.out.size))
  have ewm : IntKind.i64.wrap (mn : Int) = (mn : Int) := by have := M32.out; rw [IntKind.wrap_i64]; omega
  simp only [ewm]
  clear ewm
  have hnd1 : 1 ≤ nd := by rw [← hnd]; unfold DS.need; omega
  have hnd2 : nd < 1099511627776 := by have := M32.out; rw [← hnd]; unfold DS.need; omega
  have ND := Aside0.mk hnd
  have HRS := HRES.out
  rw [hnd] at HRS
  have N1 := Aside0.mk hnd1
  have N2 := Aside0.mk hnd2
  have hq1 : -9223372036854775808 ≤ (d.S.length : Int) - (i : Int) := by have := HI.out; have := HS.out; omega
  have hq2 : (d.S.length : Int) - (i : Int) ≤ 9223372036854775807 := by have := HI.out; have := HS.out; omega
  clear hnd hnd1 hnd2
  by_cases h1 : t = 0
  · rw [if_pos (.inl h1)] at HRS
    have HE := Aside0.mk HRS
    clear HRS
    have hb1 : (t == 0) = true := by simp [h1]
    have hb2 : decide (t = 0) = true := by simp [h1]
    clear h1
    go_wp2
    exact bodyPost_ret (v := .tuple #[.int .u32 0, .slice none 0 0, .bool false]) (by simp [results, Try.results24, go_sem]) rfl ⟨_, by rw [HE.out], by rw [HE.out]; exact Kd.R_nil _ _ _ _ _, S4.out, BW.out⟩
  have hb1 : (t == 0) = false := by simp [h1]
  have hb2 : decide (t = 0) = false := by simp [h1]
  by_cases h2 : t ≠ t2
  · rw [if_pos (.inr (.inl h2))] at HRS
    have HE := Aside0.mk HRS
    clear HRS
    have hb3 : (t != t2) = true := by simp [h2]
    have hb4 : (t == t2) = false := by simp [h2]
    clear h1 h2
    go_wp2_with (go_at_call 37; refine (get4_c (some ⟨q, 12, none⟩) 4 (cq - 12) (b.drop 12) (by rw [List.length_drop, HL.out]) (by omega) HD12.out w4 (HCUT.out 12 w4 (by omega) B4.out) (by have := LC.out; omega)).mono ?_; rw [← T2.out]; rintro e w5 ⟨rfl, hB⟩; have S5 := Aside0.mk (S4.out.after hB); have B5 := Aside0.mk (BW.out.trans (hB.mono BW.out.size)); clear hB)
    exact bodyPost_ret (v := .tuple #[.int .u32 0, .slice none 0 0, .bool false]) (by simp [results, Try.results24, go_sem]) rfl ⟨_, by rw [HE.out], by rw [HE.out]; exact Kd.R_nil _ _ _ _ _, S5.out, B5.out⟩
  replace h2 : t = t2 := Decidable.not_not.1 h2
  have hb3 : (t != t2) = false := by simp [h2]
  have hb4 : (t == t2) = true := by simp [h2]
  by_cases h3 : (nd : Int) > room
  · rw [if_pos (.inr (.inr (.inl h3)))] at HRS
    have HE := Aside0.mk HRS
    clear HRS
    have hb5 : decide ((nd : Int) > room) = true := decide_eq_true h3
    have hb6 : decide (room < (nd : Int)) = true := decide_eq_true h3
    clear h1 h2 h3
    go_wp2_with (first | (go_at_call 21; refine (need_c mn (by have := M32.out; omega) w5).mono ?_; rw [ND.out]; rintro e w6 ⟨rfl, hB⟩; have S6 := Aside0.mk (S5.out.after hB); have B6 := Aside0.mk (B5.out.trans (hB.mono B5.out.size)); clear hB) | (go_at_call 37; refine (get4_c (some ⟨q, 12, none⟩) 4 (cq - 12) (b.drop 12) (by rw [List.length_drop, HL.out]) (by omega) HD12.out w4 (HCUT.out 12 w4 (by omega) B4.out) (by have := LC.out; omega)).mono ?_; rw [← T2.out]; rintro e w5 ⟨rfl, hB⟩; have S5 := Aside0.mk (S4.out.after hB); have B5 := Aside0.mk (BW.out.trans (hB.mono BW.out.size)); clear hB))
    exact bodyPost_ret (v := .tuple #[.int .u32 0, .slice none 0 0, .bool false]) (by simp [results, Try.results24, go_sem]) rfl ⟨_, by rw [HE.out], by rw [HE.out]; exact Kd.R_nil _ _ _ _ _, S6.out, B6.out⟩
  have hb5 : decide ((nd : Int) > room) = false := decide_eq_false h3
  have hb6 : decide (room < (nd : Int)) = false := decide_eq_false h3
  by_cases h4 : (nd : Int) > d.S.length - i
  · rw [if_pos (.inr (.inr (.inr h4)))] at HRS
    have HE := Aside0.mk HRS
    clear HRS
    have hb7 : decide ((nd : Int) > (d.S.length : Int) - (i : Int)) = true := decide_eq_true h4
    have hb8 : decide ((d.S.length : Int) - (i : Int) < (nd : Int)) = true := decide_eq_true h4
    clear h1 h2 h3 h4
    go_wp2_with (first | (go_at_call 29; refine (st_size S7.out).mono ?_; rintro e w8 ⟨rfl, rfl⟩) | (go_at_call 21; refine (need_c mn (by have := M32.out; omega) w6).mono ?_; rw [ND.out]; rintro e w7 ⟨rfl, hB⟩; have S7 := Aside0.mk (S6.out.after hB); have B7 := Aside0.mk (B6.out.trans (hB.mono B6.out.size)); clear hB) | (go_at_call 21; refine (need_c mn (by have := M32.out; omega) w5).mono ?_; rw [ND.out]; rintro e w6 ⟨rfl, hB⟩; have S6 := Aside0.mk (S5.out.after hB); have B6 := Aside0.mk (B5.out.trans (hB.mono B5.out.size)); clear hB) | (go_at_call 37; refine (get4_c (some ⟨q, 12, none⟩) 4 (cq - 12) (b.drop 12) (by rw [List.length_drop, HL.out]) (by omega) HD12.out w4 (HCUT.out 12 w4 (by omega) B4.out) (by have := LC.out; omega)).mono ?_; rw [← T2.out]; rintro e w5 ⟨rfl, hB⟩; have S5 := Aside0.mk (S4.out.after hB); have B5 := Aside0.mk (BW.out.trans (hB.mono BW.out.size)); clear hB))
    exact bodyPost_ret (v := .tuple #[.int .u32 0, .slice none 0 0, .bool false]) (by simp [results, Try.results24, go_sem]) rfl ⟨_, by rw [HE.out], by rw [HE.out]; exact Kd.R_nil _ _ _ _ _, S7.out, B7.out⟩
  have hb7 : decide ((nd : Int) > (d.S.length : Int) - (i : Int)) = false := decide_eq_false h4
  have hb8 : decide ((d.S.length : Int) - (i : Int) < (nd : Int)) = false := decide_eq_false h4
  rw [if_neg (fun h => h.elim h1 (fun h => h.elim (fun h => h h2) (fun h => h.elim h3 h4)))] at HRS
  have HE := Aside0.mk HRS
  clear HRS
  have H4 := Aside0.mk h4
  clear h1 h2 h3 h4
  go_wp2_with (first | (go_at_call 21; refine (need_c mn (by have := M32.out; omega) w7).mono ?_; rw [ND.out]; rintro e w8 ⟨rfl, hB⟩; have S8 := Aside0.mk (S7.out.after hB); have B8 := Aside0.mk (B7.out.trans (hB.mono B7.out.size)); clear hB) | (go_at_call 29; refine (st_size S7.out).mono ?_; rintro e w8 ⟨rfl, rfl⟩) | (go_at_call 21; refine (need_c mn (by have := M32.out; omega) w6).mono ?_; rw [ND.out]; rintro e w7 ⟨rfl, hB⟩; have S7 := Aside0.mk (S6.out.after hB); have B7 := Aside0.mk (B6.out.trans (hB.mono B6.out.size)); clear hB) | (go_at_call 21; refine (need_c mn (by have := M32.out; omega) w5).mono ?_; rw [ND.out]; rintro e w6 ⟨rfl, hB⟩; have S6 := Aside0.mk (S5.out.after hB); have B6 := Aside0.mk (B5.out.trans (hB.mono B5.out.size)); clear hB) | (go_at_call 37; refine (get4_c (some ⟨q, 12, none⟩) 4 (cq - 12) (b.drop 12) (by rw [List.length_drop, HL.out]) (by omega) HD12.out w4 (HCUT.out 12 w4 (by omega) B4.out) (by have := LC.out; omega)).mono ?_; rw [← T2.out]; rintro e w5 ⟨rfl, hB⟩; have S5 := Aside0.mk (S4.out.after hB); have B5 := Aside0.mk (BW.out.trans (hB.mono BW.out.size)); clear hB))
  obtain ⟨n1, hn1⟩ : ∃ n1 : Nat, nd = n1 + 1 := ⟨nd - 1, by have := N1.out; omega⟩
  have e54 : (nd : Int) - 1 = (n1 : Int) := by omega
  have e55 : IntKind.i64.wrap ((nd : Int) - 1) = (n1 : Int) := by have := N2.out; rw [IntKind.wrap_i64]; omega
  have e56 : wrap64 ((nd : Int) - 1) = (n1 : Int) := by have := N2.out; unfold wrap64; omega
  have e57 : wrap64 (n1 : Int) = (n1 : Int) := by have := N2.out; unfold wrap64; omega
  simp only [e55, e56, e54, e57]
  clear e55 e56 e57
  have HN1 := Aside0.mk hn1
  have hn2 : n1 ≤ 1099511627776 := by have := N2.out; omega
  have HN2 := Aside0.mk hn2
  clear e54 hn1 hn2 hb5 hb6 hb7 hb8 hb1 hb2 hb3 hb4 hq1 hq2 hk1 hk2 hk3 hk4 hk5 hk6 hk7 hk8 hr0 hr1 hmk1 hmk2 HD4 HD8 HD12 HCUT
  go_loopw [7, 55] (fun u7 u55 wq => ∃ k : Nat, u55 = .int .i64 (k : Int) ∧ Aside0 (k ≤ n1) ∧ Aside0 ((Kd.int .u8).R 5 wq W.heap.size (fun _ => True) u7 (DS.grab d ((i : Int) + 1) k)) ∧ Aside0 (St w0 xs wq g d) ∧ Aside0 (Below W.heap.size W wq)) (fun u7 u55 _ => n1 + 1 - (intOf u55).toNat)
  case atStart => exact ⟨0, rfl, ⟨Nat.zero_le _⟩, ⟨Kd.R_nil _ _ _ _ _⟩, S8, B8⟩
  case round =>
    obtain ⟨k, rfl, HK, HV, HSQ, HBQ'⟩ := hrel
    have hle : n1 + 1 + i ≤ d.S.length := by have := H4.out; have := HN1.out; omega
    have HLE := Aside0.mk hle
    by_cases hlt : k < n1
    · have hd : decide ((k : Int) < (n1 : Int)) = true := decide_eq_true (by omega)
      have hd2 : decide (k < n1) = true := decide_eq_true hlt
      have HGL : Aside0 ((DS.grab d ((i : Int) + 1) k).length = 16 * k) := ⟨grab_len H.out.1.isOk k _ (by omega) (by omega)⟩
      have HRL : Aside0 ((d.rd ((i : Int) + 1 + (k : Int))).length = 16) := ⟨by rw [DS.rd_len H.out.1.isOk, if_pos (by omega)]⟩
      have HGS := Aside0.mk (grab_snoc d k ((i : Int) + 1))
      have HLT := Aside0.mk hlt
      clear hlt hle
      go_upto_region 11 with (fail)
      have hp3 : (i : Int) + 1 ≤ 9223372036854775807 := by have := HI.out; omega
      have hp4 : (i : Int) + 1 + (k : Int) ≤ 9223372036854775807 := by have := HI.out; have := HN2.out; have := HLT.out; omega
      have hp5 : (0 : Int) ≤ (i : Int) + 1 := by omega
      have hp6 : (0 : Int) ≤ (i : Int) + 1 + (k : Int) := by omega
      go_upto_region 12 with (first
        | ((with_reducible refine gate_builtin (b := .append) (xs := #[.tmp 58, .tmp 64]) rfl ?_); at_builtin; go_must (refine Kd.R_append_rows (Kd.int .u8) (w0 := W) W.heap.size rfl (.tmp 58) (.tmp 64) 22 5 (.int .u8 0) 1 rfl Try.underlying22 infoU8 rfl (by decide) (by decide) _ (DS.grab d ((i : Int) + 1) k) (d.rd ((i : Int) + 1 + (k : Int))) _ _ _ (fun _ => True) (fun _ => False) rfl rfl HV9.out HC9.out (fun _ _ h => h) (fun _ h => h.elim) (fun _ _ => trivial) B9.out B9.out.size (by have := HGL.out; have := HRL.out; have := HLT.out; have := HLE.out; have := HS.out; omega) ?_; intro v3 w10 ho hb hg hat; rw [← HGS.out] at ho; have HO3 := Aside0.mk ho; have HB3 := Aside0.mk hb; have S10 := Aside0.mk (H.out.after HB3.out); clear ho hb hg hat))
        | (go_at_call 36; refine (st_read HSQ.out ((i : Int) + 1 + (k : Int))).mono ?_; rintro e w9 ⟨v0, rfl, hR, hS, hM, hB⟩; obtain ⟨A9, c9, hv0, -, hC⟩ := Kd.R_reads hR; rw [HRL.out] at hv0 hC; subst hv0; have HC9 := Aside0.mk hC; have S9 := Aside0.mk hS; have B9 := Aside0.mk (HBQ'.out.trans (hB.mono HBQ'.out.size)); have HV9 := Aside0.mk (Kd.R_step HV.out (fun k _ hk => hB.block k hk)); clear hR hS hM hB hC))
      clear hp3 hp4 hp5 hp6
      have hp2 : (k : Int) + 1 ≤ 9223372036854775807 := by have := HN2.out; have := HLT.out; omega
      have hp0 : (0 : Int) ≤ (k : Int) := by omega
      go_wp2
      all_goals exact ⟨⟨k + 1, by go_num, ⟨by have := HLT.out; omega⟩, HO3, S10, HB3⟩, by have := HLT.out; simp [intOf]; omega⟩
    · obtain rfl : k = n1 := by have := HK.out; omega
      have hd : decide ((k : Int) < (k : Int)) = false := decide_eq_false (by omega)
      have hd2 : decide (k < k) = false := decide_eq_false (by omega)
      have hGL : (DS.grab d ((i : Int) + 1) k).length = 16 * k := grab_len H.out.1.isOk k _ (by omega) (by omega)
      have hmk : mn ≤ 16 * k := by
        have h1 := ND.out
        have h2 := HN1.out
        unfold DS.need at h1
        omega
      obtain ⟨A9, c9, hv9, hlc9, hC9⟩ := Kd.R_reads HV.out
      subst hv9
      rw [hGL] at hlc9
      have hCT := Kd.C_take (m := mn) hC9 (by rw [hGL]; exact hmk)
      have hll : ((DS.grab d ((i : Int) + 1) k).take mn).length = mn := by rw [List.length_take, hGL]; omega
      have hHE := HE.out
      rw [show nd - 1 = k by have := HN1.out; omega] at hHE
      generalize (DS.grab d ((i : Int) + 1) k).take mn = l at hCT hll hHE
      rw [hGL]
      have hq1 : (0 : Int) ≤ (mn : Int) := by omega
      have hq2 : (mn : Int) ≤ (c9 : Int) := by omega
      have HCT := Aside0.mk hCT
      have HLL := Aside0.mk hll
      have HHE := Aside0.mk hHE
      have HMC : Aside0 (mn ≤ c9) := ⟨by omega⟩
      have HCL : Aside0 (bytes_Clone.f l = some l) := ⟨by rw [bytes_Clone.f, Option.bind_some, if_pos (by have := M32.out; simp only [List.length_nil, Nat.zero_add]; omega), List.nil_append]⟩
      obtain ⟨ko, hko⟩ := of_one l (by have := M32.out; omega)
      have HKO := Aside0.mk hko
      clear hle hlt hGL hmk hlc9 hC9 hCT hll hHE hko
      by_cases hx : crcO l = ck
      · have HR2 : Aside0 (res = (t, l, true)) := ⟨by rw [HHE.out, if_pos hx]⟩
        have hb1 : (crcO l != ck) = false := by simp [hx]
        have hb2 : (crcO l == ck) = true := by simp [hx]
        clear hx
        go_wp2_with (first
          | (go_at_call 39; refine (sum_Of.calls ko (some ⟨w10.heap.size, 0, none⟩) 1 [l] (crcO l) _ (Kd.C_slice_one (blk_new w10 _) HLL.out LC10.out (Kd.C_below C10.out (below_alloc (Below.refl _ _) _))) (by simp) HKO.out).mono ?_; rintro e w11 ⟨rfl, hW⟩; have hW' := (below_alloc (Below.refl w10.heap.size w10) _).trans (hW.below.mono (by simp)); have R11 := Aside0.mk (Kd.R_below R10.out hW'); have S11 := Aside0.mk (S10.out.after hW'); have B11 := Aside0.mk (B10.out.trans (hW'.mono B10.out.size)); clear hW hW')
          | (go_at_call 38; refine (by have h := bytes_Clone.calls A9 c9 l l wr HCT.out (by have := HLL.out; have := HMC.out; omega) HCL.out; rw [HLL.out] at h; exact h : Calls Try.prog 38 #[.slice A9 mn c9] wr _).mono ?_; rintro e w10 ⟨v0, rfl, ho, hB⟩; have R10 := Aside0.mk (Kd.R_lower ho (show W.heap.size ≤ _ from HBQ'.out.size)); have S10 := Aside0.mk (HSQ.out.after hB); have B10 := Aside0.mk (HBQ'.out.trans (hB.mono HBQ'.out.size)); (obtain ⟨A10, c10, hv0, l10, hC10⟩ := Kd.R_reads ho); rw [HLL.out] at hv0; subst hv0; have C10 := Aside0.mk hC10; have LC10 := Aside0.mk l10; clear ho hB hC10 l10))
        exact bodyPost_ret (v := .tuple #[.int .u32 t, .slice A10 mn c10, .bool true]) (by simp [results, Try.results24, go_sem]) rfl ⟨_, by rw [HR2.out], by rw [HR2.out]; exact R11.out, S11.out, B11.out⟩
      · have HR2 : Aside0 (res = (0, [], false)) := ⟨by rw [HHE.out, if_neg hx]⟩
        have hb1 : (crcO l != ck) = true := by simp [hx]
        have hb2 : (crcO l == ck) = false := by simp [hx]
        clear hx
        go_wp2_with (first
          | (go_at_call 39; refine (sum_Of.calls ko (some ⟨w10.heap.size, 0, none⟩) 1 [l] (crcO l) _ (Kd.C_slice_one (blk_new w10 _) HLL.out LC10.out (Kd.C_below C10.out (below_alloc (Below.refl _ _) _))) (by simp) HKO.out).mono ?_; rintro e w11 ⟨rfl, hW⟩; have hW' := (below_alloc (Below.refl w10.heap.size w10) _).trans (hW.below.mono (by simp)); have R11 := Aside0.mk (Kd.R_below R10.out hW'); have S11 := Aside0.mk (S10.out.after hW'); have B11 := Aside0.mk (B10.out.trans (hW'.mono B10.out.size)); clear hW hW')
          | (go_at_call 38; refine (by have h := bytes_Clone.calls A9 c9 l l wr HCT.out (by have := HLL.out; have := HMC.out; omega) HCL.out; rw [HLL.out] at h; exact h : Calls Try.prog 38 #[.slice A9 mn c9] wr _).mono ?_; rintro e w10 ⟨v0, rfl, ho, hB⟩; have R10 := Aside0.mk (Kd.R_lower ho (show W.heap.size ≤ _ from HBQ'.out.size)); have S10 := Aside0.mk (HSQ.out.after hB); have B10 := Aside0.mk (HBQ'.out.trans (hB.mono HBQ'.out.size)); (obtain ⟨A10, c10, hv0, l10, hC10⟩ := Kd.R_reads ho); rw [HLL.out] at hv0; subst hv0; have C10 := Aside0.mk hC10; have LC10 := Aside0.mk l10; clear ho hB hC10 l10))
        exact bodyPost_ret (v := .tuple #[.int .u32 0, .slice none 0 0, .bool false]) (by simp [results, Try.results24, go_sem]) rfl ⟨_, by rw [HR2.out], by rw [HR2.out]; exact Kd.R_nil _ _ _ _ _, S11.out, B11.out⟩
/-- What is got, wherever it is asked for. -/
theorem st_get {w0 W : World} {xs : List Nat} {g : Nat} {d : DS} (h : St w0 xs W g d) (i room : Int) (hb : d.AllB) (hi : i < 100000) (hs : d.S.length ≤ 4000) (hr0 : -1000000 ≤ room) (hr1 : room ≤ 1000000) :
    Calls Try.prog 24 #[.pointer (some ⟨g, 0, none⟩), .int .i64 i, .int .i64 room] W (GetPost w0 xs W g d (DS.get crcO d i room)) := by
  by_cases hl : (d.rd i).length = 16
  · have h0 : 0 ≤ i := by
      have := DS.rd_len h.1.isOk i
      rw [hl] at this
      split at this <;> omega
    obtain ⟨m, rfl⟩ : ∃ m : Nat, i = (m : Int) := ⟨i.toNat, by omega⟩
    exact get_some h m room hl (DS.rd_bytes hb _) (by omega) hs hr0 hr1
  · exact get_none h i room hl
end Go.Proofs.Ytkicekddkgehoaa.Hnd
