/- Contracts of the calls, by hand. -/
import Derived.Test.YtkicekddkgehoaaGreatDoorQMarkPlaysx
import Derived.Test.YtkicekddkgehoaaGreatDoorRefA
import Derived.RangeFuncNested
import Derived.RangeFuncBound
import Derived.RangeFuncCalls
import Derived.RangeFuncLeaves
import Derived.RangeFuncBox
import Derived.Shelf.Abstract
import Derived.Shelf.RegionOpen
import Derived.OwnWalkIn
import Derived.TacticsInMore
import Derived.LoopNIn
import Derived.LoopIn
import Derived.Sort.QuietIn
import Derived.Sort.CutIn
import Derived.Stop.RegionWithIn
import Derived.StillTailTactics
namespace Go.Proofs.YtkicekddkgehoaaGreatDoor.Dsk
open Go.RowKit Go.Proofs.YtkicekddkgehoaaGreatDoor.QMarkPlays Go.Proofs.YtkicekddkgehoaaGreatDoorW.PrintWords Go.Proofs.YtkicekddkgehoaaGreatDoorW.PrintLast Go.Proofs.YtkicekddkgehoaaGreatDoorW.Dk Go.Shelf
set_option linter.unusedVariables false
set_option linter.unusedSimpArgs false
set_option linter.unusedVariables false
set_option linter.unusedSimpArgs false

attribute [local go_sem] Oper.semAt_some
/-! The document's sum, head and need are the program's. -/
namespace RefP
open Go.Proofs.YtkicekddkgehoaaGreatDoor.QMarkPlays
theorem xor_nat (a b : Nat) (ha : a < 4294967296) (hb : b < 4294967296) : Go.bits .xor .u32 (a : Int) (b : Int) = ((a ^^^ b : Nat) : Int) := by
  have ha' : a % 2 ^ IntKind.u32.bits = a := Nat.mod_eq_of_lt ha
  have hb' : b % 2 ^ IntKind.u32.bits = b := Nat.mod_eq_of_lt hb
  have hx : a ^^^ b < 2 ^ 32 := Nat.xor_lt_two_pow (by simpa using ha) (by simpa using hb)
  simp only [Go.bits, BitVec.ofInt_natCast, BitVec.toNat_xor, BitVec.toNat_ofNat, ha', hb']
  exact SumP.wraps_u32 _ (Int.natCast_nonneg _) (by exact_mod_cast hx)
theorem and1_nat (a : Nat) (ha : a < 4294967296) : Go.bits .and .u32 (a : Int) 1 = ((a % 2 : Nat) : Int) := by
  have := bits_mask .u32 32 (by decide) SumP.wraps_u32 1 (by decide) a (by omega) (by omega)
  simpa using this
theorem rn_rng : ∀ (d : Nat) (x : Nat), x < 4294967296 → ∃ y : Nat, y < 4294967296 ∧ SumP.r1 (x : Int) = (y : Int) ∧ (if Go.bits .and .u32 (x : Int) 1 = 1 then Go.bits .xor .u32 ((x : Int) / 2) 2197175160 else (x : Int) / 2) = (y : Int) := by
  intro _ x hx
  have ha := and1_nat x hx
  have e2 : (x : Int) / 2 = ((x / 2 : Nat) : Int) := by omega
  unfold SumP.r1
  rw [ha, e2]
  rcases Nat.mod_two_eq_zero_or_one x with h | h
  · rw [h]
    have h0 := xor_nat (x / 2) 0 (by omega) (by omega)
    refine ⟨x / 2, by omega, ?_, by rw [if_neg (by decide)]⟩
    show Go.bits .xor .u32 ((x / 2 : Nat) : Int) ((0 : Nat) : Int) = _
    rw [h0, Nat.xor_zero]
  · rw [h]
    have h0 := xor_nat (x / 2) 2197175160 (by omega) (by omega)
    refine ⟨x / 2 ^^^ 2197175160, Nat.xor_lt_two_pow (n := 32) (by omega) (by omega), ?_, ?_⟩
    · exact h0
    · rw [if_pos (by decide)]
      exact h0
theorem ref_l1 {r : Int} (b : List Int) (x4 : Int) : ∀ (d : Nat) (x : Nat) (t : Int), 0 ≤ t → t + d = 8 → x < 4294967296 → (∀ y : Nat, y < 4294967296 → SumP.rn d (x : Int) = (y : Int) → Ev (fun k => lazarusref2_Of.l0 k b (y : Int) (wrap64 (x4 + 1))) r) →
    Ev (fun k => lazarusref2_Of.l1 k b (x : Int) x4 t) r
  | 0, x, t, h0, h1, hx, h => Ev.step (fun k => by rw [lazarusref2_Of.l1, if_neg (by omega)]) (h x hx rfl)
  | d + 1, x, t, h0, h1, hx, h => by
    obtain ⟨y, hy, e1, e2⟩ := rn_rng 0 x hx
    have hs : ∀ k, lazarusref2_Of.l1 (k + 1) b (x : Int) x4 t = lazarusref2_Of.l1 k b (y : Int) x4 (t + 1) := fun k => by
      rw [lazarusref2_Of.l1, if_pos (by omega), SumP.w64 (by omega) (by omega), ← e2]
      split <;> rfl
    exact Ev.step hs (ref_l1 b x4 d y (t + 1) (by omega) (by omega) hy (fun z hz hr => h z hz (by rw [SumP.rn, e1]; exact hr)))
theorem ref_l0 (b : List Int) (hb : DS.Bytes b) (hl : (b.length : Int) ≤ 281474976710656) : ∀ (d : Nat) (x : Nat) (i : Int), 0 ≤ i → i + d = b.length → x < 4294967296 → Ev (fun k => lazarusref2_Of.l0 k b (x : Int) i) (Go.bits .xor .u32 4294967295 (SumP.crc (x : Int) (b.drop i.toNat)))
  | 0, x, i, h0, h1, hx => by
    refine Ev.step (fun k => by rw [lazarusref2_Of.l0, if_neg (by omega)]) ?_
    rw [List.drop_of_length_le (by omega)]
    exact Ev.now _
  | d + 1, x, i, h0, h1, hx => by
    have hj : i.toNat < b.length := by omega
    have e : b.drop i.toNat = rd b i :: b.drop (i + 1).toNat := by
      rw [List.drop_eq_getElem_cons hj, rd, SumP.getD_lt _ _ _ hj]
      congr 2
      omega
    have hc := hb (rd b i) (by rw [rd, SumP.getD_lt _ _ _ hj]; exact List.getElem_mem hj)
    obtain ⟨c, hcq⟩ : ∃ c : Nat, rd b i = (c : Int) := ⟨(rd b i).toNat, by omega⟩
    have hc2 : c < 256 := by omega
    have hx0 := xor_nat x c hx (by omega)
    have hxl : x ^^^ c < 4294967296 := Nat.xor_lt_two_pow (n := 32) (by omega) (by omega)
    refine Ev.step (fun k => by rw [lazarusref2_Of.l0, if_pos (by omega), if_pos h0, hcq, show (c : Int) % 4294967296 = (c : Int) by omega, hx0]) ?_
    refine ref_l1 b i 8 (x ^^^ c) 0 (by omega) (by omega) hxl (fun y hy hr => ?_)
    rw [SumP.w64 (by omega) (by omega)]
    have h := ref_l0 b hb hl d y (i + 1) (by omega) (by omega) hy
    have e2 : SumP.crc (x : Int) (b.drop i.toNat) = SumP.crc (y : Int) (b.drop (i + 1).toNat) := by
      rw [e, SumP.crc, List.foldl_cons, hcq]
      show List.foldl SumP.stp (SumP.rn 8 (Go.bits .xor .u32 (x : Int) ((c : Int) % 4294967296))) _ = _
      rw [show (c : Int) % 4294967296 = (c : Int) by omega, hx0, hr]
      rfl
    rw [e2]
    exact h
theorem crc_rng (b : List Int) (hb : DS.Bytes b) : ∀ x : Nat, x < 4294967296 → ∃ y : Nat, y < 4294967296 ∧ SumP.crc (x : Int) b = (y : Int) := by
  have rnn : ∀ (d : Nat) (x : Nat), x < 4294967296 → ∃ y : Nat, y < 4294967296 ∧ SumP.rn d (x : Int) = (y : Int) := by
    intro d
    induction d with
    | zero => exact fun x hx => ⟨x, hx, rfl⟩
    | succ d ih =>
      intro x hx
      obtain ⟨y, hy, e1, _⟩ := rn_rng 0 x hx
      obtain ⟨z, hz, e2⟩ := ih y hy
      exact ⟨z, hz, by rw [SumP.rn, e1, e2]⟩
  induction b with
  | nil => exact fun x hx => ⟨x, hx, rfl⟩
  | cons a b ih =>
    intro x hx
    have ha := hb a List.mem_cons_self
    obtain ⟨c, hcq⟩ : ∃ c : Nat, a = (c : Int) := ⟨a.toNat, by omega⟩
    have hx0 := xor_nat x c hx (by omega)
    have hxl : x ^^^ c < 4294967296 := Nat.xor_lt_two_pow (n := 32) (by omega) (by omega)
    obtain ⟨y, hy, e1⟩ := rnn 8 _ hxl
    obtain ⟨z, hz, e2⟩ := ih (fun q hq => hb q (List.mem_cons_of_mem _ hq)) y hy
    refine ⟨z, hz, ?_⟩
    rw [SumP.crc, List.foldl_cons, hcq]
    show List.foldl SumP.stp (SumP.rn 8 (Go.bits .xor .u32 (x : Int) ((c : Int) % 4294967296))) _ = _
    rw [show (c : Int) % 4294967296 = (c : Int) by omega, hx0, e1]
    exact e2
theorem of_ref (b : List Int) (hb : DS.Bytes b) (hl : b.length < 268435456) : ∃ k, lazarusref2_Of.f k b = some (crcO b) := by
  have h := ref_l0 b hb (by omega) b.length 4294967295 0 (by omega) (by omega) (by omega)
  obtain ⟨y, hy, e⟩ := crc_rng b hb 4294967295 (by omega)
  have hc : Go.bits .xor .u32 4294967295 (SumP.crc 4294967295 b) = crcO b := by
    unfold crcO
    have e' : SumP.crc 4294967295 b = (y : Int) := e
    rw [e']
    have h1 := xor_nat 4294967295 y (by omega) hy
    have h2 := xor_nat y 4294967295 hy (by omega)
    rw [show (4294967295 : Int) = ((4294967295 : Nat) : Int) from rfl, h1, h2, Nat.xor_comm]
  have h' : Ev (fun k => lazarusref2_Of.f k b) (crcO b) := by
    rw [← hc]
    exact h
  exact h'.rounds
theorem need_ref (n : Nat) (hn : n < 1099511627776) : lazarusref4_Need.f (n : Int) = some (DS.need n : Int) := by
  have e1 : Int.tmod (n : Int) 16 = ((n % 16 : Nat) : Int) := by rw [Int.tmod_eq_emod_of_nonneg (by omega)]; omega
  have e2 : Int.tdiv (n : Int) 16 = ((n / 16 : Nat) : Int) := by rw [Int.tdiv_eq_ediv_of_nonneg (by omega)]; omega
  unfold lazarusref4_Need.f DS.need
  rw [if_neg (by omega), e1, e2]
  split
  · congr 1
    unfold wrap64
    omega
  · rw [show wrap64 ((n / 16 : Nat) : Int) = ((n / 16 : Nat) : Int) by unfold wrap64; omega]
    congr 1
    unfold wrap64
    omega
theorem head_ref (tag : Int) (b : List Int) (hb : DS.Bytes b) (hl : b.length < 268435456) : ∃ k, lazarusref4_head.f k tag b = some (DS.head crcO tag b) := by
  obtain ⟨k, hk⟩ := of_ref b hb hl
  refine ⟨k, ?_⟩
  unfold lazarusref4_head.f lazarusref2_Four.f
  simp only [Option.bind_some, hk]
  simp [DS.head, DS.four]
theorem get_ref (l : List Int) (hl : 4 ≤ l.length) (hb : DS.Bytes l) : lazarusref2_Get.f l = some (DS.get4 l) := by
  match l, hl with
  | a :: b :: c :: d :: r, _ =>
    have h1 := hb a (by simp)
    have h2 := hb b (by simp)
    have h3 := hb c (by simp)
    have h4 := hb d (by simp)
    have e1 : (a % 4294967296 * 16777216) % 4294967296 = a * 16777216 := by omega
    have e2 : (b % 4294967296 * 65536) % 4294967296 = b * 65536 := by omega
    have e3 : (c % 4294967296 * 256) % 4294967296 = c * 256 := by omega
    have e4 : d % 4294967296 = d := by omega
    have j2 := bits_join .u32 32 (by decide) SumP.wraps_u32 24 (a * 16777216) (b * 65536) (by omega) (by omega) (by omega) (by omega) (by omega) (by omega)
    have j3 := bits_join .u32 32 (by decide) SumP.wraps_u32 16 (a * 16777216 + b * 65536) (c * 256) (by omega) (by omega) (by omega) (by omega) (by omega) (by omega)
    have j4 := bits_join .u32 32 (by decide) SumP.wraps_u32 8 (a * 16777216 + b * 65536 + c * 256) d (by omega) (by omega) (by omega) (by omega) (by omega) (by omega)
    unfold lazarusref2_Get.f
    rw [if_neg (by simp; omega), if_pos (by simp; omega), if_pos (by simp; omega), if_pos (by simp; omega), if_pos (by simp; omega)]
    simp only [rd, Int.toNat_zero, List.getD_cons_zero, show (1 : Int).toNat = 1 from rfl, show (2 : Int).toNat = 2 from rfl, show (3 : Int).toNat = 3 from rfl, List.getD_cons_succ]
    rw [e1, e2, e3, e4, j2, j3, j4, DS.get4]
    congr 1
    omega
theorem get_short (l : List Int) (hl : l.length < 4) : lazarusref2_Get.f l = some 0 := by
  unfold lazarusref2_Get.f
  rw [if_pos (by omega)]
end RefP
theorem rneed_c (n : Nat) (hn : n < 1099511627776) (W : World) : Calls Tryz.prog 28 #[.int .i64 (n : Int)] W fun e w' => e = .returned (.int .i64 (DS.need n : Int)) ∧ Below W.heap.size W w' :=
  (Go.Proofs.YtkicekddkgehoaaGreatDoor.QMarkPlays.lazarusref4_Need.calls (n : Int) _ W (RefP.need_ref n hn)).mono fun _ _ ⟨h1, h2⟩ => ⟨h1, h2.below⟩
theorem rget4_c (A : Option Addr) (n c : Nat) (l : List Int) (hn : l.length = n) (hl : 4 ≤ n) (hb : DS.Bytes l) (W : World) (hr : (Kd.int .u8).C W A n l) (hc : n ≤ c) :
    Calls Tryz.prog 60 #[.slice A n c] W fun e w' => e = .returned (.int .u32 (DS.get4 l)) ∧ Below W.heap.size W w' := by
  subst hn
  exact (Go.Proofs.YtkicekddkgehoaaGreatDoor.QMarkPlays.lazarusref2_Get.calls A c l _ W hr hc (RefP.get_ref l hl hb)).mono fun _ _ ⟨h1, h2⟩ => ⟨h1, h2.below⟩
theorem sr_last {w0 W : World} {xs : List Nat} {g : Nat} {d : DS} (h : SR w0 xs W g d) (i : Int) (x c : Nat) (b : List Int) (hx : x ∈ xs) (hs : RowAt W x b) (hc : b.length ≤ c) (hP : d.P.length < 1099511627776) :
    Calls Tryz.prog 47 #[.pointer (some ⟨g, 0, none⟩), .int .i64 i, .slice (some ⟨x, 0, none⟩) b.length c] W fun e w' => e = .returned (.int .i64 (d.puth i b).2) ∧ SR w0 xs w' g (d.puth i b).1 ∧ Sm xs W w' := by
  have hwr := sr_write h i x c b hx hs hc hP
  by_cases h0 : (d.wr i b).2 = 0
  · have e : d.puth i b = (d.wr i b).1.fl := by unfold DS.puth; rw [if_pos h0]
    rw [e]
    have HW := Aside0.mk hwr
    have H0 := Aside0.mk h0
    clear hwr h0 e hs hc hP h hx
    go_enter Tryz.func47, Tryz.ntmps47
    go_wp2_with (first
      | (go_at_call 49; refine (sr_flush S1.out).mono ?_; rintro e w2 ⟨rfl, hS, hM⟩; have S2 := Aside0.mk hS; have M2 := Aside0.mk hM; clear hS hM)
      | (go_at_call 48; refine HW.out.mono ?_; rw [H0.out]; rintro e w1 ⟨rfl, hS, hM⟩; have S1 := Aside0.mk hS; have M1 := Aside0.mk hM; clear hS hM))
    go_ret
    exact ⟨rfl, S2.out, fun y hy => (M2.out y hy).trans (M1.out y hy)⟩
  · have e : d.puth i b = d.wr i b := by unfold DS.puth; rw [if_neg h0]
    rw [e]
    have hb : ((d.wr i b).2 != 0) = true := by simpa using h0
    have hb2 : ((d.wr i b).2 == 0) = false := by simpa using h0
    have HW := Aside0.mk hwr
    generalize hE : (d.wr i b).2 = E at *
    clear hwr e hs hc hP h hx
    go_enter Tryz.func47, Tryz.ntmps47
    go_wp2_with (go_at_call 48; refine HW.out.mono ?_; rintro e w1 ⟨rfl, hS, hM⟩; have S1 := Aside0.mk hS; have M1 := Aside0.mk hM; clear hS hM)
    go_ret
    exact ⟨rfl, S1.out, M1.out⟩
theorem sr_clear {w0 W : World} {xs : List Nat} {g : Nat} {d : DS} (h : SR w0 xs W g d) (i : Int) (hP : d.P.length < 1099511627776) :
    Calls Tryz.prog 29 #[.pointer (some ⟨g, 0, none⟩), .int .i64 i] W fun e w' => e = .returned (.int .i64 (d.puth i (List.replicate 16 0)).2) ∧ SR w0 xs w' g (d.puth i (List.replicate 16 0)).1 ∧ Sm xs W w' := by
  have hmk := make16
  have hS1 : SR w0 ([W.heap.size] ++ xs) (W.alloc (.cells z16 5)) g d := h.mores (below_alloc (Below.refl _ _) _) [W.heap.size] (fun y hy => by rw [List.mem_singleton.1 hy]; exact ⟨Nat.le_refl _, by simp⟩)
  have hp := sr_last hS1 i W.heap.size 16 (List.replicate 16 0) (by simp) (SecAt.row (blk_new W _) (by simp)) (by simp) hP
  rw [List.length_replicate] at hp
  have HP := Aside0.mk hp
  have H := Aside0.mk h
  clear hp hS1 hP h
  go_enter Tryz.func29, Tryz.ntmps29
  go_wp2_with (go_at_call 47; refine HP.out.mono ?_; rintro e w1 ⟨rfl, hS, hM⟩; have S1 := Aside0.mk hS; have M1 := Aside0.mk hM; clear hS hM)
  go_ret
  exact ⟨rfl, S1.out.less (fun y hy => by simp [hy]), fun y hy => (M1.out y (by simp [hy])).trans ((below_alloc (Below.refl W.heap.size W) _).block y (H.out.2.2 y hy))⟩

attribute [local go_sem] Oper.semAt_some
theorem wh_drop (b : List Int) (k : Nat) : wh (b.drop (16 * k)) = DS.pad (ch b k) := by
  unfold wh DS.pad ch
  rw [List.length_take]
  congr 2
  omega
theorem chunk_take (b : List Int) (k : Nat) (hk : k < nch b.length) : (DS.chunks b).take (k + 1) = (DS.chunks b).take k ++ [DS.pad (ch b k)] := by
  have hl : (DS.chunks b).length = nch b.length := DS.chunks_len b
  rw [List.take_add_one, List.getElem?_eq_getElem (by omega)]
  congr 1
  have : (DS.chunks b)[k]'(by omega) = DS.pad (ch b k) := by
    simp only [ch_chunks, List.getElem_map, List.getElem_range]
  rw [this]
  rfl
theorem chunk_all (b : List Int) : (DS.chunks b).take (nch b.length) = DS.chunks b := List.take_of_length_le (by rw [DS.chunks_len]; exact Nat.le_refl _)
def SPutPost (w0 : World) (xs : List Nat) (W : World) (g : Nat) (r : DS × Int) (e : Ending) (w' : World) : Prop := e = .returned (.int .i64 r.2) ∧ SR w0 xs w' g r.1 ∧ Sm xs W w'
set_option maxHeartbeats 4000000 in
set_option maxRecDepth 100000 in
theorem sr_put {w0 W : World} {xs : List Nat} {g : Nat} {d : DS} (h : SR w0 xs W g d) (i room tag : Int) (A : Option Addr) (c : Nat) (b : List Int) (hr : Rd w0 xs W A b) (hc : b.length ≤ c) (hb : b.length < 268435456) (hbb : DS.Bytes b) (hP : d.P.length < 1073741824) (hi0 : -1073741824 ≤ i) (hi1 : i ≤ 1073741824) :
    Calls Tryz.prog 30 #[.pointer (some ⟨g, 0, none⟩), .int .i64 i, .int .i64 room, .int .u32 tag, .slice A b.length c] W (SPutPost w0 xs W g (DS.put crcO d i room tag b)) := by
  have H := Aside0.mk h
  have HR := Aside0.mk hr
  have HC := Aside0.mk hc
  have HB := Aside0.mk hb
  have HBB := Aside0.mk hbb
  have HP := Aside0.mk hP
  obtain ⟨nd, hnd⟩ : ∃ nd : Nat, DS.need b.length = nd := ⟨_, rfl⟩
  have ND := Aside0.mk hnd
  unfold SPutPost
  by_cases hroom : room < (nd : Int)
  · have e : DS.put crcO d i room tag b = (d, 4) := DS.put_full crcO d i room tag b (by rw [hnd]; exact hroom)
    rw [e]
    have d1 : decide ((nd : Int) > room) = true := decide_eq_true hroom
    have d2 : decide (room < (nd : Int)) = true := decide_eq_true hroom
    clear h hr hc hb hbb hP hnd hroom e hi0 hi1
    go_enter Tryz.func30, Tryz.ntmps30
    go_wp2_with (go_at_call 28; refine (rneed_c b.length (by have := HB.out; omega) _).mono ?_; rw [ND.out]; rintro e w1 ⟨rfl, hB⟩; have B1 := Aside0.mk hB; clear hB)
    go_ret
    exact ⟨rfl, H.out.after B1.out, fun x hx => B1.out.block x (H.out.2.2 x hx)⟩
  have d1 : decide ((nd : Int) > room) = false := decide_eq_false hroom
  have d2 : decide (room < (nd : Int)) = false := decide_eq_false hroom
  have HRM : Aside0 (¬ room < (DS.need b.length : Int)) := ⟨by rw [hnd]; exact hroom⟩
  have hmk := make16
  obtain ⟨res, hres⟩ : ∃ res, DS.put crcO d i room tag b = res := ⟨_, rfl⟩
  have HRES := Aside0.mk hres
  rw [hres]
  clear h hr hc hb hbb hP hnd hroom hres
  go_enter Tryz.func30, Tryz.ntmps30
  go_wp2_with (go_at_call 28; refine (rneed_c b.length (by have := HB.out; omega) _).mono ?_; rw [ND.out]; rintro e w1 ⟨rfl, hB⟩; have B1 := Aside0.mk hB; clear hB)
  clear d1 d2
  go_loopw [11] (fun u11 wr => ∃ k : Nat, u11 = .int .i64 ((16 * k : Nat) : Int) ∧ Aside0 (k ≤ nch b.length) ∧ Aside0 (SR w0 xs wr g (DS.putC d (i + 1) ((DS.chunks b).take k)).1) ∧ Aside0 ((DS.putC d (i + 1) ((DS.chunks b).take k)).2 = 0) ∧ Aside0 (Sm xs W wr)) (fun u11 _ => b.length + 33 - (intOf u11).toNat)
  case atStart => exact ⟨0, rfl, ⟨Nat.zero_le _⟩, ⟨H.out.after B1.out⟩, ⟨rfl⟩, ⟨fun x hx => B1.out.block x (H.out.2.2 x hx)⟩⟩
  case round =>
    obtain ⟨k, rfl, HK, HS, H0, HM⟩ := hrel
    by_cases hlt : 16 * k < b.length
    · have hkn : k < nch b.length := by unfold nch; omega
      obtain ⟨ad, rfl, _⟩ := HR.out.1.2.2 (by omega)
      have hRW : Rd w0 xs wr (some ad) b := HR.out.step' H.out.2.1 HS.out.2.1 HS.out.2.2 HM.out
      have hC1 := Kd.C_drop (m := 16 * k) (c := c) hRW.1 (by omega) HC.out
      rw [if_neg (by have := HC.out; omega), List.length_drop] at hC1
      have e1 : (some ad).map (·.add (16 * k * (Kd.int .u8).sz)) = some (ad.add (16 * k)) := by
        show some (Addr.add _ (16 * k * 1)) = _
        rw [Nat.mul_one]
      rw [e1] at hC1
      obtain ⟨s, hs⟩ : ∃ s, 16 * k = s := ⟨_, rfl⟩
      have hwd := wh_drop b k
      have htk := chunk_take b k hkn
      rw [hs] at hC1 hwd hlt ⊢
      obtain ⟨dd, hdd⟩ : ∃ dd, (DS.putC d (i + 1) ((DS.chunks b).take k)).1 = dd := ⟨_, rfl⟩
      have hpl := DS.putC_Plen ((DS.chunks b).take k) d (i + 1)
      have hsn := DS.putC_snoc ((DS.chunks b).take k) (DS.pad (ch b k)) d (i + 1) H0.out
      rw [← htk, hdd] at hsn
      have hlk : ((DS.chunks b).take k).length = k := by rw [List.length_take, DS.chunks_len]; have := hkn; unfold nch at this; omega
      rw [hlk] at hsn hpl
      have hS1 := HS.out
      rw [hdd] at hS1 hpl
      have hnew : SR w0 ([wr.heap.size] ++ xs) (wr.alloc (.cells z16 5)) g dd := hS1.mores (below_alloc (Below.refl _ _) _) [wr.heap.size] (fun y hy => by rw [List.mem_singleton.1 hy]; exact ⟨Nat.le_refl _, by simp⟩)
      obtain ⟨h1, h2⟩ := wh_copied (wr.alloc (.cells z16 5)) wr.heap.size (blk_new wr _) (some (ad.add s)) (c - s) (b.drop s) 3 (by rw [List.length_drop]; exact Kd.C_below hC1 (below_alloc (Below.refl _ _) _))
      rw [hwd] at h2
      rw [List.length_drop] at h1
      obtain ⟨W2, hW2⟩ : ∃ W2, W2 = (wr.alloc (.cells z16 5)).setCells wr.heap.size 0 (((b.drop s).map (Value.int .u8)).take 16) := ⟨_, rfl⟩
      have hS2 : SR w0 ([wr.heap.size] ++ xs) W2 g dd := by
        rw [hW2]
        refine ⟨hnew.1.step (fun q hq _ => setCells_far _ _ q (fun e => hq.2 (by simp [e]))) (fun q hq => setCells_far _ _ q (by have := hnew.1.base_le; have := hS1.2.1.size; omega)), Kd.below_setCells hnew.2.1 (by have := hS1.2.1.size; omega), fun y hy => by rw [(setCells_same _ _ _ _).2.2.2]; exact hnew.2.2 y hy⟩
      have hM2 : Sm xs wr W2 := fun y hy => by
        rw [hW2]
        exact (setCells_far _ _ y (by have := hS1.2.2 y hy; omega)).trans (Below.heap_alloc wr _ y (hS1.2.2 y hy))
      rw [← hW2] at h1 h2
      have hwr := sr_write hS2 (i + 1 + (k : Int)) wr.heap.size 16 (DS.pad (ch b k)) (by simp) (SecAt.row h2 (by rw [DS.pad_len (by rw [ch_len]; omega)]; decide)) (by rw [DS.pad_len (by rw [ch_len]; omega)]; exact Nat.le_refl _) (by have := HP.out; have := HB.out; unfold nch at hkn; omega)
      rw [DS.pad_len (by rw [ch_len]; omega)] at hwr
      have hd : decide ((s : Int) < (b.length : Int)) = true := decide_eq_true (by omega)
      have hd2 : decide (s < b.length) = true := decide_eq_true hlt
      have hp0 : (0 : Int) ≤ (s : Int) := by omega
      have hp1 : (s : Int) ≤ (b.length : Int) := by omega
      have hp2 : (s : Int) ≤ (c : Int) := by have := HC.out; omega
      have hp3 : (s : Int) + 16 ≤ 9223372036854775807 := by have := HB.out; omega
      have hne : ¬ c = s := by have := HC.out; omega
      have hq1 : (s : Int) / 16 = (k : Int) := by omega
      have hq2 : Int.tdiv (s : Int) 16 = (k : Int) := by rw [Int.tdiv_eq_ediv_of_nonneg (by omega)]; exact hq1
      have hk0 : (0 : Int) ≤ (k : Int) := by omega
      have hk1 : (k : Int) ≤ 268435456 := by have := HB.out; omega
      have hb1 : i + 1 ≤ 9223372036854775807 := by omega
      have hb2 : -9223372036854775808 ≤ i + 1 := by omega
      have hb3 : i + 1 + (k : Int) ≤ 9223372036854775807 := by omega
      have hb4 : -9223372036854775808 ≤ i + 1 + (k : Int) := by omega
      have HSS := Aside0.mk hs
      have HKN := Aside0.mk hkn
      have HLT := Aside0.mk hlt
      have HTK := Aside0.mk htk
      have HSN := Aside0.mk hsn
      have HWR := Aside0.mk hwr
      have HM2 := Aside0.mk hM2
      clear hRW hC1 hwd htk hpl hsn hlk hS1 hnew h2 hS2 hM2 hwr hs hkn hlt hdd hW2 e1
      by_cases h0 : (dd.wr (i + 1 + (k : Int)) (DS.pad (ch b k))).2 = 0
      · have H00 := Aside0.mk h0
        clear h0
        go_wp2_with (go_at_call 48; refine HWR.out.mono ?_; rw [H00.out]; rintro e w3 ⟨rfl, hS, hM⟩; have S3 := Aside0.mk hS; have M3 := Aside0.mk hM; clear hS hM)
        all_goals exact ⟨⟨k + 1, by rw [show 16 * (k + 1) = 16 * k + 16 by omega, HSS.out]; go_num, ⟨HKN.out⟩, ⟨by rw [HSN.out]; exact S3.out.less (fun y hy => by simp [hy])⟩, ⟨by rw [HSN.out]; exact H00.out⟩, ⟨fun y hy => (M3.out y (by simp [hy])).trans ((HM2.out y hy).trans (HM.out y hy))⟩⟩, by have := HLT.out; simp [intOf]; omega⟩
      · have H00 := Aside0.mk h0
        have hx1 : ((dd.wr (i + 1 + (k : Int)) (DS.pad (ch b k))).2 != 0) = true := by simpa using h0
        have hx2 : ((dd.wr (i + 1 + (k : Int)) (DS.pad (ch b k))).2 == 0) = false := by simpa using h0
        generalize hE : (dd.wr (i + 1 + (k : Int)) (DS.pad (ch b k))).2 = E at hx1 hx2
        have HE := Aside0.mk hE
        clear h0 hE
        go_wp2_with (go_at_call 48; refine HWR.out.mono ?_; rw [HE.out]; rintro e w3 ⟨rfl, hS, hM⟩; have S3 := Aside0.mk hS; have M3 := Aside0.mk hM; clear hS hM)
        go_ret
        have hstop : res = dd.wr (i + 1 + (k : Int)) (DS.pad (ch b k)) := by
          have := put_stop (crc := crcO) (d := d) (i := i) (room := room) (tag := tag) (b := b) (by have := HRM.out; omega) (List.take_append_drop (k + 1) (DS.chunks b)).symm (by rw [HSN.out]; exact H00.out)
          rw [HSN.out] at this
          rw [← HRES.out]
          exact this
        rw [hstop]
        exact ⟨ret_i HE.out.symm, S3.out.less (fun y hy => by simp [hy]), fun y hy => (M3.out y (by simp [hy])).trans ((HM2.out y hy).trans (HM.out y hy))⟩
    · obtain rfl : k = nch b.length := by have := HK.out; unfold nch at this ⊢; omega
      have hk := H0.out
      have hS := HS.out
      rw [chunk_all] at hk hS
      obtain ⟨dd, hdd⟩ : ∃ dd, (DS.putC d (i + 1) (DS.chunks b)).1 = dd := ⟨_, rfl⟩
      rw [hdd] at hS
      have hput : res = if dd.fl.2 = 0 then DS.puth dd.fl.1 i (DS.head crcO tag b) else dd.fl := by
        rw [← HRES.out]
        unfold DS.put
        rw [if_neg (by have := HRM.out; omega), if_pos hk, hdd]
      have hRW : Rd w0 xs wr A b := HR.out.step' H.out.2.1 hS.2.1 hS.2.2 HM.out
      obtain ⟨s, hs⟩ : ∃ s, 16 * nch b.length = s := ⟨_, rfl⟩
      rw [hs] at hlt ⊢
      have hd : decide ((s : Int) < (b.length : Int)) = false := decide_eq_false (by omega)
      have hd2 : decide (s < b.length) = false := decide_eq_false hlt
      obtain ⟨kh, hkh⟩ := RefP.head_ref tag b HBB.out HB.out
      have HKH := Aside0.mk hkh
      have HS2 := Aside0.mk hS
      have HPUT := Aside0.mk hput
      have HRW := Aside0.mk hRW
      clear hk hS hdd hput hRW hs hlt hkh HS H0
      by_cases h0 : dd.fl.2 = 0
      · have H00 := Aside0.mk h0
        have HPU : Aside0 (res = DS.puth dd.fl.1 i (DS.head crcO tag b)) := ⟨by rw [HPUT.out, if_pos h0]⟩
        have HFP : Aside0 (dd.fl.1.P.length < 1099511627776) := ⟨by rw [DS.fl_P dd h0]; decide⟩
        clear h0
        go_wp2_with (first
          | (go_at_call 47; refine (by have h := sr_last S4.out i q cq (DS.head crcO tag b) (by simp) RA4.out (by rw [DS.head_len]; exact LCQ.out) HFP.out; rw [DS.head_len] at h; exact h : Calls Tryz.prog 47 #[.pointer (some ⟨g, 0, none⟩), .int .i64 i, .slice (some ⟨q, 0, none⟩) 16 cq] w4 _).mono ?_; rintro e w5 ⟨rfl, hS, hM⟩; have S5 := Aside0.mk hS; have M5 := Aside0.mk hM; clear hS hM)
          | (go_at_call 50; refine (Go.Proofs.YtkicekddkgehoaaGreatDoor.QMarkPlays.lazarusref4_head.calls kh tag A c b (DS.head crcO tag b) w3 (HRW.out.step' HS2.out.2.1 S3.out.2.1 S3.out.2.2 M3.out).1 HC.out HKH.out).mono ?_; rintro e w4 ⟨v0, rfl, hR, hB⟩; (obtain ⟨q, cq, z, hv0, hlc, hq1, hq2, hq3, hC⟩ := R_block hR (by rw [DS.head_len]; omega)); rw [DS.head_len] at hv0 hlc; subst hv0; (have RA4 : Aside0 (RowAt w4 q (DS.head crcO tag b)) := ⟨⟨z, hq3, hC⟩⟩); have LCQ := Aside0.mk hlc; have S4 := Aside0.mk (S3.out.mores hB [q] (fun y hy => by rw [List.mem_singleton.1 hy]; exact ⟨hq1, hq2⟩)); have B4 := Aside0.mk hB; clear hR hB hC hq1 hq2 hq3 hlc)
          | (go_at_call 49; refine (sr_flush HS2.out).mono ?_; rw [H00.out]; rintro e w3 ⟨rfl, hS, hM⟩; have S3 := Aside0.mk hS; have M3 := Aside0.mk hM; clear hS hM))
        go_ret
        rw [HPU.out]
        exact ⟨rfl, S5.out.less (fun y hy => by simp [hy]), fun y hy => (M5.out y (by simp [hy])).trans ((B4.out.block y (S3.out.2.2 y hy)).trans ((M3.out y hy).trans (HM.out y hy)))⟩
      · have HPU : Aside0 (res = dd.fl) := ⟨by rw [HPUT.out, if_neg h0]⟩
        have hx1 : (dd.fl.2 != 0) = true := by simpa using h0
        have hx2 : (dd.fl.2 == 0) = false := by simpa using h0
        generalize hE : dd.fl.2 = E at hx1 hx2
        have HE := Aside0.mk hE
        clear h0 hE
        go_wp2_with (go_at_call 49; refine (sr_flush HS2.out).mono ?_; rw [HE.out]; rintro e w3 ⟨rfl, hS, hM⟩; have S3 := Aside0.mk hS; have M3 := Aside0.mk hM; clear hS hM)
        go_ret
        rw [HPU.out]
        exact ⟨ret_i HE.out.symm, S3.out, fun y hy => (M3.out y hy).trans (HM.out y hy)⟩

attribute [local go_sem] Oper.semAt_some
theorem r_cell {w : World} {base g : Nat} {ok : Nat → Prop} {d : DS} (h : RAt w base ok g d) : ∃ A c, w.cell? ⟨g, 0, none⟩ = some (.slice A d.S.length c) := by
  obtain ⟨vS, vP, A, c, ss, h1, h2, h3, h4, h5, h6, h7⟩ := h
  obtain ⟨AS, cS, hv⟩ := r_slice h4
  subst hv
  exact ⟨AS, cS, (blk_cell h1 0).trans rfl⟩
theorem rget_nil (W : World) (A : Option Addr) (c : Nat) (hr : (Kd.int .u8).C W A 0 []) :
    Calls Tryz.prog 60 #[.slice A 0 c] W fun e w' => e = .returned (.int .u32 0) ∧ Below W.heap.size W w' :=
  (Go.Proofs.YtkicekddkgehoaaGreatDoor.QMarkPlays.lazarusref2_Get.calls A c [] 0 W hr (Nat.zero_le _) (RefP.get_short [] (by decide))).mono fun _ _ ⟨h1, h2⟩ => ⟨h1, h2.below⟩
theorem rneed_q (n : Nat) (hn : n < 1099511627776) (W : World) (m : Nat) : Calls Tryz.prog 28 #[.int .i64 (n : Int)] (W.drewN m) fun e w' => e = .returned (.int .i64 (DS.need n : Int)) ∧ ∃ q, w' = W.drewN q :=
  Calls.quiet_of ((Go.Proofs.YtkicekddkgehoaaGreatDoor.QMarkPlays.lazarusref4_Need.calls (n : Int) _ (W.drewN m) (RefP.need_ref n hn)).mono fun _ _ ⟨h1, h2⟩ => ⟨h1, h2.out⟩)
theorem rget_q (A : Option Addr) (n c : Nat) (l : List Int) (hn : l.length = n) (hl : 4 ≤ n) (hb : DS.Bytes l) (W : World) (m : Nat) (hr : (Kd.int .u8).C W A n l) (hc : n ≤ c) :
    Calls Tryz.prog 60 #[.slice A n c] (W.drewN m) fun e w' => e = .returned (.int .u32 (DS.get4 l)) ∧ ∃ q, w' = W.drewN q := by
  subst hn
  exact Calls.quiet_of ((Go.Proofs.YtkicekddkgehoaaGreatDoor.QMarkPlays.lazarusref2_Get.calls A c l _ (W.drewN m) (Kd.C_below hr (pw_below_drewN (Below.refl _ _) m)) hc (RefP.get_ref l hl hb)).mono fun _ _ ⟨h1, h2⟩ => ⟨h1, h2.out⟩)
theorem rof_q (A : Option Addr) (n c : Nat) (l : List Int) (hn : l.length = n) (hl : n < 268435456) (hb : DS.Bytes l) (W : World) (m : Nat) (hr : (Kd.int .u8).C W A n l) (hc : n ≤ c) :
    Calls Tryz.prog 61 #[.slice A n c] (W.drewN m) fun e w' => e = .returned (.int .u32 (crcO l)) ∧ ∃ q, w' = W.drewN q := by
  subst hn
  obtain ⟨k, hk⟩ := RefP.of_ref l hb hl
  exact Calls.quiet_of ((Go.Proofs.YtkicekddkgehoaaGreatDoor.QMarkPlays.lazarusref2_Of.calls k A c l _ (W.drewN m) (Kd.C_below hr (pw_below_drewN (Below.refl _ _) m)) hc hk).mono fun _ _ ⟨h1, h2⟩ => ⟨h1, h2.out⟩)
theorem grab_bytes {d : DS} (h : d.AllB) : ∀ (k : Nat) (i : Int), DS.Bytes (DS.grab d i k)
  | 0, _ => fun x hx => by simp [DS.grab] at hx
  | k + 1, i => fun x hx => by
    rw [DS.grab] at hx
    exact (List.mem_append.1 hx).elim (DS.rd_bytes h i x) (grab_bytes h k (i + 1) x)
def RGetPost (w0 : World) (xs : List Nat) (W : World) (g : Nat) (d : DS) (r : Int × List Int × Bool) (e : Ending) (w' : World) : Prop :=
  ∃ v, e = .returned (.tuple #[.int .u32 r.1, v, .bool r.2.2]) ∧ (Kd.int .u8).R 5 w' W.heap.size (fun _ => True) v r.2.1 ∧ SR w0 xs w' g d ∧ Below W.heap.size W w'
set_option maxHeartbeats 4000000 in
set_option maxRecDepth 100000 in
theorem rget_none {w0 W : World} {xs : List Nat} {g : Nat} {d : DS} (h : SR w0 xs W g d) (i room : Int) (hl : (d.rd i).length ≠ 16) :
    Calls Tryz.prog 33 #[.pointer (some ⟨g, 0, none⟩), .int .i64 i, .int .i64 room] W (RGetPost w0 xs W g d (DS.get crcO d i room)) := by
  have e : DS.get crcO d i room = (0, [], false) := by unfold DS.get; rw [if_pos hl]
  rw [e]
  have e0 : (d.rd i) = [] := by
    have := DS.rd_len h.1.isOk i
    rw [this] at hl
    split at hl
    · omega
    · rename_i hn
      unfold DS.rd
      rw [if_neg hn]
  have H := Aside0.mk h
  have E0 := Aside0.mk e0
  clear e e0 hl h
  unfold RGetPost
  go_enter Tryz.func33, Tryz.ntmps33
  go_wp2_with (first
    | (go_at_call 60; refine (rget_nil w1 A' c' C1.out).mono ?_; rintro e w2 ⟨rfl, hB⟩; have S2 := Aside0.mk (S1.out.after hB); have B2 := Aside0.mk (B1.out.trans (hB.mono B1.out.size)); clear hB)
    | (go_at_call 59; refine (sr_read H.out i).mono ?_; rw [E0.out]; rintro e w1 ⟨v0, rfl, hR, hS, hM, hB⟩; obtain ⟨A', c', hv0, -, hC⟩ := Kd.R_reads hR; rw [List.length_nil] at hv0 hC; subst hv0; have C1 := Aside0.mk hC; have S1 := Aside0.mk hS; have B1 := Aside0.mk hB; clear hR hS hM hB hC))
  exact bodyPost_ret (v := .tuple #[.int .u32 0, .slice none 0 0, .bool false]) (by simp [results, Tryz.results33, go_sem]) rfl ⟨_, rfl, Kd.R_nil _ _ _ _ _, S2.out, B2.out⟩
set_option maxHeartbeats 4000000 in
set_option maxRecDepth 100000 in
theorem rget_some {w0 W : World} {xs : List Nat} {g : Nat} {d : DS} (h : SR w0 xs W g d) (i : Nat) (room : Int) (hl : (d.rd i).length = 16) (hb : DS.Bytes (d.rd i)) (hBB : d.AllB) (hi : i < 100000) (hs : d.S.length ≤ 4000) (hr0 : -1000000 ≤ room) (hr1 : room ≤ 1000000) :
    Calls Tryz.prog 33 #[.pointer (some ⟨g, 0, none⟩), .int .i64 (i : Int), .int .i64 room] W (RGetPost w0 xs W g d (DS.get crcO d i room)) := by
  obtain ⟨b, hbq⟩ : ∃ b, b = d.rd (i : Int) := ⟨_, rfl⟩
  rw [← hbq] at hl hb
  have H := Aside0.mk h
  have HL := Aside0.mk hl
  have HBY := Aside0.mk hb
  have HBQ := Aside0.mk hbq
  have HABB := Aside0.mk hBB
  have hd4 : DS.Bytes (b.drop 4) := fun x hx => hb x (List.mem_of_mem_drop hx)
  have hd8 : DS.Bytes (b.drop 8) := fun x hx => hb x (List.mem_of_mem_drop hx)
  have hd12 : DS.Bytes (b.drop 12) := fun x hx => hb x (List.mem_of_mem_drop hx)
  obtain ⟨t, ht⟩ : ∃ t, t = DS.get4 b := ⟨_, rfl⟩
  obtain ⟨mn, hmn⟩ : ∃ mn : Nat, DS.get4 (b.drop 4) = (mn : Int) := ⟨(DS.get4 (b.drop 4)).toNat, by have := get4_lt _ hd4; omega⟩
  obtain ⟨ck, hck⟩ : ∃ ck, ck = DS.get4 (b.drop 8) := ⟨_, rfl⟩
  obtain ⟨t2, ht2⟩ : ∃ t2, t2 = DS.get4 (b.drop 12) := ⟨_, rfl⟩
  have hm32 : mn < 4294967296 := by have := get4_lt _ hd4; omega
  have T1 := Aside0.mk ht
  have TM := Aside0.mk hmn
  have TC := Aside0.mk hck
  have T2 := Aside0.mk ht2
  have M32 := Aside0.mk hm32
  have HI := Aside0.mk hi
  have HS := Aside0.mk hs
  have HG : Aside0 (DS.get crcO d i room = if t = 0 ∨ t ≠ t2 ∨ (DS.need mn : Int) > room ∨ (DS.need mn : Int) > d.S.length - i then (0, [], false) else
      if crcO ((DS.grab d ((i : Int) + 1) (DS.need mn - 1)).take mn) = ck then (t, (DS.grab d ((i : Int) + 1) (DS.need mn - 1)).take mn, true) else (0, [], false)) := ⟨by
    unfold DS.get
    rw [← hbq, if_neg (by rw [hl]; simp), ← ht, hmn, ← hck, ← ht2, Int.toNat_natCast]⟩
  obtain ⟨res, hres⟩ : ∃ res, res = DS.get crcO d i room := ⟨_, rfl⟩
  rw [← hres]
  obtain ⟨nd, hnd⟩ : ∃ nd, DS.need mn = nd := ⟨_, rfl⟩
  have HRES := Aside0.mk (hres.trans HG.out)
  have hmk1 : (mn : Int) ≤ 9223372036854775807 := by omega
  have hmk2 : (0 : Int) ≤ (mn : Int) := by omega
  clear ht hmn hck ht2 hm32 hi hs HG hres hBB
  have HD4 := Aside0.mk hd4
  have HD8 := Aside0.mk hd8
  have HD12 := Aside0.mk hd12
  clear h hl hb hbq hd4 hd8 hd12
  unfold RGetPost
  go_enter Tryz.func33, Tryz.ntmps33
  go_upto_region 3 with (first
    | (go_at_call 60; refine (rget4_c (some ⟨q, 0, none⟩) 16 cq b HL.out (by omega) HBY.out w1 C1.out (by have := LC.out; omega)).mono ?_; rw [← T1.out]; rintro e w2 ⟨rfl, hB⟩; have S2 := Aside0.mk (S1.out.after hB); have C2 := Aside0.mk (Kd.C_below C1.out hB); have B2 := Aside0.mk (B1.out.trans (hB.mono B1.out.size)); clear hB)
    | (go_at_call 59; refine (sr_read H.out (i : Int)).mono ?_; rw [← HBQ.out]; rintro e w1 ⟨v0, rfl, hR, hS, hM, hB⟩; obtain ⟨q, cq, hv0, hlc, -, -, -, hC, -⟩ := R_plain hR (by have := HL.out; omega); rw [HL.out] at hv0 hlc hC; subst hv0; (have hk1 : (16 : Int) ≤ (cq : Int) := by omega); have LC := Aside0.mk hlc; have C1 := Aside0.mk hC; have S1 := Aside0.mk hS; have B1 := Aside0.mk hB; clear hR hS hM hB hC hlc))
  have hk2 : (0 : Int) ≤ (cq : Int) := by omega
  have hk3 : (4 : Int) ≤ (cq : Int) := by omega
  have hk4 : (8 : Int) ≤ (cq : Int) := by omega
  have hk5 : (12 : Int) ≤ (cq : Int) := by omega
  have hk6 : ¬ cq = 4 := by omega
  have hk7 : ¬ cq = 8 := by omega
  have hk8 : ¬ cq = 12 := by omega
  have cut : ∀ m W', m < 16 → Below w2.heap.size w2 W' → (Kd.int .u8).C W' (some ⟨q, m, none⟩) (16 - m) (b.drop m) := fun m W' hm hB => by
    have h1 := Kd.C_drop (m := m) (c := cq) (show (Kd.int .u8).C W' (some ⟨q, 0, none⟩) b.length b by rw [HL.out]; exact Kd.C_below C2.out hB) (by rw [HL.out]; omega) (by rw [HL.out]; have := LC.out; omega)
    rw [if_neg (by have := LC.out; omega)] at h1
    have e1 : (some (⟨q, 0, none⟩ : Addr)).map (·.add (m * (Kd.int .u8).sz)) = some ⟨q, m, none⟩ := by
      show some (Addr.add _ (m * 1)) = _
      rw [Nat.mul_one, Kd.add_plain2, Nat.zero_add]
    rw [e1, List.length_drop, HL.out] at h1
    exact h1
  have HCUT := Aside0.mk cut
  clear cut
  have ewm : IntKind.i64.wrap (mn : Int) = (mn : Int) := by have := M32.out; rw [IntKind.wrap_i64]; omega
  have hnd1 : 1 ≤ nd := by rw [← hnd]; unfold DS.need; omega
  have hnd2 : nd < 1099511627776 := by have := M32.out; rw [← hnd]; unfold DS.need; omega
  have ND := Aside0.mk hnd
  have HRS := HRES.out
  rw [hnd] at HRS
  have N1 := Aside0.mk hnd1
  have N2 := Aside0.mk hnd2
  have hq1 : -9223372036854775808 ≤ (d.S.length : Int) - (i : Int) := by have := HI.out; have := HS.out; omega
  have hq2 : (d.S.length : Int) - (i : Int) ≤ 9223372036854775807 := by have := HI.out; have := HS.out; omega
  clear hnd hnd1 hnd2
  by_cases h1 : t = 0
  · rw [if_pos (.inl h1)] at HRS
    have HE := Aside0.mk HRS
    clear HRS
    have hb1 : (t == 0) = true := by simp [h1]
    have hb2 : decide (t = 0) = true := by simp [h1]
    clear h1
    go_wp2
    exact bodyPost_ret (v := .tuple #[.int .u32 0, .slice none 0 0, .bool false]) (by simp [results, Tryz.results33, go_sem]) rfl ⟨_, by rw [HE.out], by rw [HE.out]; exact Kd.R_nil _ _ _ _ _, S2.out, B2.out⟩
  have hb1 : (t == 0) = false := by simp [h1]
  have hb2 : decide (t = 0) = false := by simp [h1]
  by_cases h2 : t ≠ t2
  · rw [if_pos (.inr (.inl h2))] at HRS
    have HE := Aside0.mk HRS
    clear HRS
    have hb3 : (t != t2) = true := by simp [h2]
    have hb4 : (t == t2) = false := by simp [h2]
    clear h1 h2
    go_wp2_with (go_at_call 60; refine (rget4_c (some ⟨q, 12, none⟩) 4 (cq - 12) (b.drop 12) (by rw [List.length_drop, HL.out]) (by omega) HD12.out w2 (HCUT.out 12 w2 (by omega) (Below.refl _ _)) (by have := LC.out; omega)).mono ?_; rw [← T2.out]; rintro e w5 ⟨rfl, hB⟩; have S5 := Aside0.mk (S2.out.after hB); have B5 := Aside0.mk (B2.out.trans (hB.mono B2.out.size)); clear hB)
    exact bodyPost_ret (v := .tuple #[.int .u32 0, .slice none 0 0, .bool false]) (by simp [results, Tryz.results33, go_sem]) rfl ⟨_, by rw [HE.out], by rw [HE.out]; exact Kd.R_nil _ _ _ _ _, S5.out, B5.out⟩
  replace h2 : t = t2 := Decidable.not_not.1 h2
  have hb3 : (t != t2) = false := by simp [h2]
  have hb4 : (t == t2) = true := by simp [h2]
  go_upto_region 6 with (first
    | (go_at_call 60; refine (rget4_c (some ⟨q, 4, none⟩) 12 (cq - 4) (b.drop 4) (by rw [List.length_drop, HL.out]) (by omega) HD4.out w5 (HCUT.out 4 w5 (by omega) D5.out) (by have := LC.out; omega)).mono ?_; rw [TM.out]; rintro e w6 ⟨rfl, hB⟩; have S6 := Aside0.mk (S5.out.after hB); have B6 := Aside0.mk (B5.out.trans (hB.mono B5.out.size)); have D6 := Aside0.mk (D5.out.trans (hB.mono D5.out.size)); clear hB)
    | (go_at_call 60; refine (rget4_c (some ⟨q, 12, none⟩) 4 (cq - 12) (b.drop 12) (by rw [List.length_drop, HL.out]) (by omega) HD12.out w2 (HCUT.out 12 w2 (by omega) (Below.refl _ _)) (by have := LC.out; omega)).mono ?_; rw [← T2.out]; rintro e w5 ⟨rfl, hB⟩; have S5 := Aside0.mk (S2.out.after hB); have B5 := Aside0.mk (B2.out.trans (hB.mono B2.out.size)); have D5 := Aside0.mk hB; clear hB))
  clear ewm
  by_cases h3 : (nd : Int) > room
  · rw [if_pos (.inr (.inr (.inl h3)))] at HRS
    have HE := Aside0.mk HRS
    clear HRS
    have hb5 : decide ((nd : Int) > room) = true := decide_eq_true h3
    have hb6 : decide (room < (nd : Int)) = true := decide_eq_true h3
    clear h1 h2 h3
    go_quiet (first | (go_at_call 28; have h := rneed_q mn (by have := M32.out; omega) w6; rw [ND.out] at h; exact h _))
    go_wp2
    exact bodyPost_ret (v := .tuple #[.int .u32 0, .slice none 0 0, .bool false]) (by simp [results, Tryz.results33, go_sem]) rfl ⟨_, by rw [HE.out], by rw [HE.out]; exact Kd.R_nil _ _ _ _ _, S6.out.after (pw_below_drewN (Below.refl _ _) _), B6.out.trans (pw_below_drewN (Below.refl _ _) _)⟩
  have hb5 : decide ((nd : Int) > room) = false := decide_eq_false h3
  have hb6 : decide (room < (nd : Int)) = false := decide_eq_false h3
  by_cases h4 : (nd : Int) > d.S.length - i
  · rw [if_pos (.inr (.inr (.inr h4)))] at HRS
    have HE := Aside0.mk HRS
    clear HRS
    have hb7 : decide ((nd : Int) > (d.S.length : Int) - (i : Int)) = true := decide_eq_true h4
    have hb8 : decide ((d.S.length : Int) - (i : Int) < (nd : Int)) = true := decide_eq_true h4
    clear h1 h2 h3 h4
    obtain ⟨AS, cS, hcell⟩ := r_cell S6.out.1
    go_quiet (first | (go_at_call 28; have h := rneed_q mn (by have := M32.out; omega) w6; rw [ND.out] at h; exact h _))
    go_wp2
    exact bodyPost_ret (v := .tuple #[.int .u32 0, .slice none 0 0, .bool false]) (by simp [results, Tryz.results33, go_sem]) rfl ⟨_, by rw [HE.out], by rw [HE.out]; exact Kd.R_nil _ _ _ _ _, S6.out.after (pw_below_drewN (Below.refl _ _) _), B6.out.trans (pw_below_drewN (Below.refl _ _) _)⟩
  have hb7 : decide ((nd : Int) > (d.S.length : Int) - (i : Int)) = false := decide_eq_false h4
  have hb8 : decide ((d.S.length : Int) - (i : Int) < (nd : Int)) = false := decide_eq_false h4
  rw [if_neg (fun h => h.elim h1 (fun h => h.elim (fun h => h h2) (fun h => h.elim h3 h4)))] at HRS
  have HE := Aside0.mk HRS
  clear HRS
  have H4 := Aside0.mk h4
  have HTT := Aside0.mk h2
  clear h1 h2 h3 h4
  obtain ⟨AS, cS, hcell⟩ := r_cell S6.out.1
  go_quiet (first | (go_at_call 28; have h := rneed_q mn (by have := M32.out; omega) w6; rw [ND.out] at h; exact h _))
  go_wp2
  have E8 : Aside0 (Below w6.heap.size w6 (w6.drewN nq)) := ⟨pw_below_drewN (Below.refl _ _) _⟩
  have S8 := Aside0.mk (S6.out.after E8.out)
  have B8 := Aside0.mk (B6.out.trans (E8.out.mono B6.out.size))
  obtain ⟨n1, hn1⟩ : ∃ n1 : Nat, nd = n1 + 1 := ⟨nd - 1, by have := N1.out; omega⟩
  have HN1 := Aside0.mk hn1
  have hn2 : n1 ≤ 1099511627776 := by have := N2.out; omega
  have HN2 := Aside0.mk hn2
  have hnm : mn ≤ 16 * n1 ∧ 16 * n1 < mn + 16 := by
    have h1 := ND.out
    unfold DS.need at h1
    omega
  have HNM := Aside0.mk hnm
  have HD8B := Aside0.mk (fun (W' : World) (hB : Below w2.heap.size w2 W') => HCUT.out 8 W' (by omega) hB)
  clear hn1 hn2 hnm hb5 hb6 hb7 hb8 hb1 hb2 hb3 hb4 hq1 hq2 hk2 hk3 hk5 hk6 hk8 hr0 hr1 HD4 HD12 HCUT hcell
  have D8 := Aside0.mk (D6.out.trans (E8.out.mono D6.out.size))
  go_loopw [12, 13] (fun u12 u13 wq => ∃ k : Nat, u13 = .int .i64 ((16 * k : Nat) : Int) ∧ Aside0 (k ≤ n1) ∧ Aside0 ((Kd.int .u8).R 5 wq w2.heap.size (fun _ => True) u12 (DS.grab d ((i : Int) + 1) k)) ∧ Aside0 (SR w0 xs wq g d) ∧ Aside0 (Below w2.heap.size w2 wq)) (fun u12 u13 _ => 16 * n1 + 17 - (intOf u13).toNat)
  case atStart => exact ⟨0, rfl, ⟨Nat.zero_le _⟩, ⟨Kd.R_nil _ _ _ _ _⟩, S8, D8⟩
  case round =>
    obtain ⟨k, rfl, HK, HV, HSQ, HDQ⟩ := hrel
    have HBQ' := Aside0.mk (B2.out.trans (HDQ.out.mono B2.out.size))
    have hle : n1 + 1 + i ≤ d.S.length := by have := H4.out; have := HN1.out; omega
    have HLE := Aside0.mk hle
    by_cases hlt : k < n1
    · obtain ⟨s, hs⟩ : ∃ s, 16 * k = s := ⟨_, rfl⟩
      rw [hs]
      have hd : decide ((s : Int) < (mn : Int)) = true := decide_eq_true (by have := HNM.out; omega)
      have hd2 : decide (s < mn) = true := decide_eq_true (by have := HNM.out; omega)
      have HGL : Aside0 ((DS.grab d ((i : Int) + 1) k).length = 16 * k) := ⟨grab_len H.out.1.isOk k _ (by omega) (by omega)⟩
      have HRL : Aside0 ((d.rd ((i : Int) + 1 + (k : Int))).length = 16) := ⟨by rw [DS.rd_len H.out.1.isOk, if_pos (by omega)]⟩
      have HGS := Aside0.mk (grab_snoc d k ((i : Int) + 1))
      have HLT := Aside0.mk hlt
      have HSS := Aside0.mk hs
      have hq1 : (s : Int) / 16 = (k : Int) := by omega
      have hq2 : Int.tdiv (s : Int) 16 = (k : Int) := by rw [Int.tdiv_eq_ediv_of_nonneg (by omega)]; exact hq1
      have hp3 : (i : Int) + 1 ≤ 9223372036854775807 := by have := HI.out; omega
      have hp4 : (i : Int) + 1 + (k : Int) ≤ 9223372036854775807 := by have := HI.out; have := HN2.out; have := HLT.out; omega
      have hp5 : (0 : Int) ≤ (i : Int) + 1 := by omega
      have hp6 : (0 : Int) ≤ (i : Int) + 1 + (k : Int) := by omega
      have hp7 : (0 : Int) ≤ (s : Int) := by omega
      have hp8 : (k : Int) ≤ 9223372036854775807 := by have := HN2.out; have := HLT.out; omega
      have hp9 : (0 : Int) ≤ (k : Int) := by omega
      clear hlt hle hs
      go_upto_region 11 with (first
        | ((with_reducible refine gate_builtin (b := .append) (xs := #[.tmp 58, .tmp 65]) rfl ?_); at_builtin; go_must (refine Kd.R_append_rows (Kd.int .u8) (w0 := w2) w2.heap.size rfl (.tmp 58) (.tmp 65) 52 5 (.int .u8 0) 1 rfl Tryz.underlying52 infoU8 rfl (by decide) (by decide) _ (DS.grab d ((i : Int) + 1) k) (d.rd ((i : Int) + 1 + (k : Int))) _ _ _ (fun _ => True) (fun _ => False) rfl rfl HV9.out HC9.out (fun _ _ h => h) (fun _ h => h.elim) (fun _ _ => trivial) D9.out D9.out.size (by have := HGL.out; have := HRL.out; have := HLT.out; have := HLE.out; have := HS.out; omega) ?_; intro v3 w10 ho hb hg hat; rw [← HGS.out] at ho; have HO3 := Aside0.mk ho; have HB3 := Aside0.mk hb; have S10 := Aside0.mk (S2.out.after HB3.out); clear ho hb hg hat))
        | (go_at_call 59; refine (sr_read HSQ.out ((i : Int) + 1 + (k : Int))).mono ?_; rintro e w9 ⟨v0, rfl, hR, hS, hM, hB⟩; obtain ⟨A9, c9, hv0, -, hC⟩ := Kd.R_reads hR; rw [HRL.out] at hv0 hC; subst hv0; have HC9 := Aside0.mk hC; have S9 := Aside0.mk hS; have D9 := Aside0.mk (HDQ.out.trans (hB.mono HDQ.out.size)); have HV9 := Aside0.mk (Kd.R_step HV.out (fun k _ hk => hB.block k hk)); clear hR hS hM hB hC))
      clear hp3 hp4 hp5 hp6 hp8 hp9 hq1 hq2
      have hp2 : (s : Int) + 16 ≤ 9223372036854775807 := by have := HNM.out; have := M32.out; have := HLT.out; have := HSS.out; omega
      go_wp2
      all_goals exact ⟨⟨k + 1, by rw [show 16 * (k + 1) = 16 * k + 16 by omega, HSS.out]; go_num, ⟨by have := HLT.out; omega⟩, HO3, S10, HB3⟩, by have := HLT.out; have := HSS.out; simp [intOf]; omega⟩
    · obtain rfl : k = n1 := by have := HK.out; omega
      obtain ⟨s, hs⟩ : ∃ s, 16 * k = s := ⟨_, rfl⟩
      rw [hs]
      have hd : decide ((s : Int) < (mn : Int)) = false := decide_eq_false (by have := HNM.out; omega)
      have hd2 : decide (s < mn) = false := decide_eq_false (by have := HNM.out; omega)
      have hGL : (DS.grab d ((i : Int) + 1) k).length = 16 * k := grab_len H.out.1.isOk k _ (by omega) (by omega)
      have hmk : mn ≤ 16 * k := HNM.out.1
      obtain ⟨A9, c9, hv9, hlc9, hC9⟩ := Kd.R_reads HV.out
      have HV' := HV.out
      subst hv9
      have hRT := Kd.R_take (m := mn) HV' (by rw [hGL]; exact hmk)
      rw [hGL] at hlc9
      have hCT := Kd.C_take (m := mn) hC9 (by rw [hGL]; exact hmk)
      have hll : ((DS.grab d ((i : Int) + 1) k).take mn).length = mn := by rw [List.length_take, hGL]; omega
      have hBT : DS.Bytes ((DS.grab d ((i : Int) + 1) k).take mn) := fun x hx => grab_bytes HABB.out k _ x (List.mem_of_mem_take hx)
      rw [hll] at hCT
      have hHE := HE.out
      rw [show nd - 1 = k by have := HN1.out; omega] at hHE
      generalize (DS.grab d ((i : Int) + 1) k).take mn = l at hCT hll hHE hRT hBT
      rw [hGL, hs]
      have hq1 : (0 : Int) ≤ (mn : Int) := by omega
      have hq2 : (mn : Int) ≤ (c9 : Int) := by omega
      have HRT := Aside0.mk hRT
      have HCT := Aside0.mk hCT
      have HLL := Aside0.mk hll
      have HHE := Aside0.mk hHE
      have HBT := Aside0.mk hBT
      have HMC : Aside0 (mn ≤ c9) := ⟨by omega⟩
      have HMN : Aside0 (mn < 268435456) := ⟨by have := HS.out; omega⟩
      have HL8 : Aside0 ((b.drop 8).length = 8) := ⟨by rw [List.length_drop, HL.out]⟩
      clear hle hlt hGL hmk hlc9 hC9 hCT hll hHE hRT hBT HV' HV hs
      by_cases hx : crcO l = ck
      · have HR2 : Aside0 (res = (t, l, true)) := ⟨by rw [HHE.out, if_pos hx]⟩
        have hb1 : (crcO l != ck) = false := by simp [hx]
        have hb2 : (crcO l == ck) = true := by simp [hx]
        clear hx
        go_upto_region 14 with (fail)
        go_quiet (first
          | (go_at_call 61; exact rof_q A9 mn c9 l HLL.out HMN.out HBT.out wr _ HCT.out HMC.out)
          | (go_at_call 60; have h := fun m => rget_q (some ⟨q, 8, none⟩) 8 (cq - 8) (b.drop 8) HL8.out (by omega) HD8.out wr m (HD8B.out wr HDQ.out) (by have := LC.out; omega); rw [← TC.out] at h; exact h _))
        go_wp2
        exact bodyPost_ret (v := .tuple #[.int .u32 t2, .slice A9 mn c9, .bool true]) (by simp [results, Tryz.results33, go_sem]) rfl ⟨_, by rw [HR2.out, ← HTT.out], by rw [HR2.out]; exact Kd.R_lower (Kd.R_below HRT.out (pw_below_drewN (Below.refl _ _) _)) B2.out.size, HSQ.out.after (pw_below_drewN (Below.refl _ _) _), HBQ'.out.trans (pw_below_drewN (Below.refl _ _) _)⟩
      · have HR2 : Aside0 (res = (0, [], false)) := ⟨by rw [HHE.out, if_neg hx]⟩
        have hb1 : (crcO l != ck) = true := by simp [hx]
        have hb2 : (crcO l == ck) = false := by simp [hx]
        clear hx
        go_upto_region 14 with (fail)
        go_quiet (first
          | (go_at_call 61; exact rof_q A9 mn c9 l HLL.out HMN.out HBT.out wr _ HCT.out HMC.out)
          | (go_at_call 60; have h := fun m => rget_q (some ⟨q, 8, none⟩) 8 (cq - 8) (b.drop 8) HL8.out (by omega) HD8.out wr m (HD8B.out wr HDQ.out) (by have := LC.out; omega); rw [← TC.out] at h; exact h _))
        go_wp2
        exact bodyPost_ret (v := .tuple #[.int .u32 0, .slice none 0 0, .bool false]) (by simp [results, Tryz.results33, go_sem]) rfl ⟨_, by rw [HR2.out], by rw [HR2.out]; exact Kd.R_nil _ _ _ _ _, HSQ.out.after (pw_below_drewN (Below.refl _ _) _), HBQ'.out.trans (pw_below_drewN (Below.refl _ _) _)⟩
theorem sr_get {w0 W : World} {xs : List Nat} {g : Nat} {d : DS} (h : SR w0 xs W g d) (i room : Int) (hb : d.AllB) (hi : i < 100000) (hs : d.S.length ≤ 4000) (hr0 : -1000000 ≤ room) (hr1 : room ≤ 1000000) :
    Calls Tryz.prog 33 #[.pointer (some ⟨g, 0, none⟩), .int .i64 i, .int .i64 room] W (RGetPost w0 xs W g d (DS.get crcO d i room)) := by
  by_cases hl : (d.rd i).length = 16
  · have h0 : 0 ≤ i := by
      have := DS.rd_len h.1.isOk i
      rw [hl] at this
      split at this <;> omega
    obtain ⟨m, rfl⟩ : ∃ m : Nat, i = (m : Int) := ⟨i.toNat, by omega⟩
    exact rget_some h m room hl (DS.rd_bytes hb _) hb (by omega) hs hr0 hr1
  · exact rget_none h i room hl

attribute [local go_sem] Oper.semAt_some
def RSavePost (w0 : World) (xs : List Nat) (W : World) (g : Nat) (r : DS × Int) (e : Ending) (w' : World) : Prop := e = .returned (.int .i64 r.2) ∧ SR w0 xs w' g r.1 ∧ Sm xs W w'
/-- What is loaded. -/
def RLoadPost (w0 : World) (xs : List Nat) (W : World) (g : Nat) (d : DS) (r : Int × List Int × Bool) (e : Ending) (w' : World) : Prop :=
  ∃ v, e = .returned (.tuple #[.int .i64 r.1, v, .bool r.2.2]) ∧ (Kd.int .u8).R 5 w' W.heap.size (fun _ => True) v r.2.1 ∧ SR w0 xs w' g d ∧ Below W.heap.size W w'
/-! Two disks side by side: the program's at g, the document's at x; neither meets a block of zs. -/
def Two (w0 : World) (zs : List Nat) (W : World) (g x : Nat) (d e : DS) : Prop := ∃ xs, (∀ z, z ∈ zs → z ∈ xs) ∧ St w0 xs W g d ∧ RAt W w0.heap.size (fun k => w0.heap.size ≤ k ∧ k ∈ xs ∧ k ∉ zs) x e
namespace Two
variable {w0 W W' : World} {zs : List Nat} {g x : Nat} {d e : DS}
theorem below_eq (h : Below w0.heap.size w0 W) (h' : Below w0.heap.size w0 W') (k : Nat) (hk : k < w0.heap.size) : W'.heap[k]? = W.heap[k]? := (h'.block k hk).trans (h.block k hk).symm
theorem after (h : Two w0 zs W g x d e) (hb : Below W.heap.size W W') : Two w0 zs W' g x d e := by
  obtain ⟨xs, h0, h1, h2⟩ := h
  exact ⟨xs, h0, h1.after hb, h2.below hb⟩
theorem below (h : Two w0 zs W g x d e) : Below w0.heap.size w0 W := by
  obtain ⟨xs, h0, h1, h2⟩ := h
  exact h1.2.1
theorem first (h : Two w0 zs W g x d e) : ∃ xs, St w0 xs W g d ∧ ∀ W' d', St w0 xs W' g d' → Sm xs W W' → Two w0 zs W' g x d' e ∧ Sm zs W W' := by
  obtain ⟨xs, h0, h1, h2⟩ := h
  exact ⟨xs, h1, fun W' d' h3 h4 => ⟨⟨xs, h0, h3, h2.step (fun k hk _ => h4 k hk.2.1) (below_eq h1.2.1 h3.2.1)⟩, fun z hz => h4 z (h0 z hz)⟩⟩
theorem second (h : Two w0 zs W g x d e) : ∃ ys, SR w0 ys W x e ∧ ∀ W' e', SR w0 ys W' x e' → Sm ys W W' → Two w0 zs W' g x d e' ∧ Sm zs W W' := by
  obtain ⟨xs, h0, h1, h2⟩ := h
  obtain ⟨ys, hys⟩ : ∃ ys : List Nat, ∀ k, k ∈ ys ↔ k < W.heap.size ∧ (k ∉ xs ∨ k ∈ zs) := ⟨(List.range W.heap.size).filter (fun k => decide (k ∉ xs ∨ k ∈ zs)), fun k => by simp⟩
  have hz : ∀ z, z ∈ zs → z ∈ ys := fun z hz => (hys z).2 ⟨h1.2.2 z (h0 z hz), .inr hz⟩
  refine ⟨ys, ⟨h2.bound.mono (fun k hk => ⟨hk.1.1, fun hy => ((hys k).1 hy).2.elim (fun e => e hk.1.2.1) hk.1.2.2⟩), h1.2.1, fun y hy => ((hys y).1 hy).1⟩, fun W' e' h3 h4 => ⟨?_, fun z h => h4 z (hz z h)⟩⟩
  obtain ⟨us, hus⟩ : ∃ us : List Nat, ∀ k, k ∈ us ↔ k < W'.heap.size ∧ (k ∉ ys ∨ k ∈ zs) := ⟨(List.range W'.heap.size).filter (fun k => decide (k ∉ ys ∨ k ∈ zs)), fun k => by simp⟩
  refine ⟨us, fun z h => (hus z).2 ⟨h3.2.2 z (hz z h), .inr h⟩, ⟨?_, h3.2.1, fun z hz => ((hus z).1 hz).1⟩, h3.1.bound.mono (fun k hk => ⟨hk.1.1, (hus k).2 ⟨hk.2.2.1, .inl hk.1.2⟩, fun h => hk.1.2 (hz k h)⟩)⟩
  have hd := h1.1.bound
  exact (hd.step (fun k hk _ => h4 k ((hys k).2 ⟨hk.2.2.1, .inl hk.1.2⟩))).mono (fun k hk => ⟨hk.1.1, fun h => ((hus k).1 h).2.elim (fun e => e ((hys k).2 ⟨hk.2.2.1, .inl hk.1.2⟩)) (fun e => hk.1.2 (h0 k e))⟩)
theorem mores (h : Two w0 zs W g x d e) (hb : Below W.heap.size W W') (us : List Nat) (hy : ∀ y, y ∈ us → W.heap.size ≤ y ∧ y < W'.heap.size) : Two w0 (us ++ zs) W' g x d e := by
  obtain ⟨xs, h0, h1, h2⟩ := h
  refine ⟨us ++ xs, fun z hz => List.mem_append.2 ((List.mem_append.1 hz).imp id (h0 z)), h1.mores hb us hy, (h2.bound.mono (ok' := fun k => w0.heap.size ≤ k ∧ k ∈ us ++ xs ∧ k ∉ us ++ zs) (fun k hk => ⟨hk.1.1, List.mem_append.2 (.inr hk.1.2.1), fun e => (List.mem_append.1 e).elim (fun e => by have := (hy k e).1; have := hk.2.2.1; omega) hk.1.2.2⟩)).below hb⟩
end Two

/-! What the calls do where both disks stand. -/
theorem C_choice {w : World} {A : Option Addr} {n : Nat} {l : List S58} (h : Kd.C k58 w A n l) : (Kd.int .i64).C w A n (l.map fun x => x.f0) :=
  ⟨by rw [List.length_map]; exact h.1, h.2.1, fun hp => by
    obtain ⟨ad, e, hc⟩ := h.2.2 hp
    refine ⟨ad, e, fun j p hj => ?_⟩
    rw [List.getElem?_map] at hj
    obtain ⟨x, hx, rfl⟩ := Option.map_eq_some_iff.1 hj
    exact hc j x hx⟩
theorem left_of {w0 W : World} {A : Option Addr} {l : List S58} (h : Kd.C k58 w0 A l.length l) (hb : Below w0.heap.size w0 W) : LeftC W w0.heap.size A (l.map fun x => x.f0) :=
  ⟨by rw [List.length_map]; exact C_choice (Kd.C_below h hb), fun ad e hp => by
    subst e
    rw [List.length_map] at hp
    exact Kd.C_lt h hp (by decide)⟩
theorem rd_of {w0 W : World} (xs : List Nat) {A : Option Addr} {b : List Int} (h : (Kd.int .u8).C w0 A b.length b) (hb : Below w0.heap.size w0 W) : Rd w0 xs W A b :=
  ⟨Kd.C_below h hb, fun ad e hp => by
    subst e
    have := Kd.C_lt h hp (by decide)
    exact ⟨.inl this, Nat.lt_of_lt_of_le this hb.size⟩⟩
theorem RAt.lower {w : World} {base base' g : Nat} {ok : Nat → Prop} {d : DS} (h : RAt w base ok g d) (hb : base' ≤ base) (hl : d.left = []) : RAt w base' ok g d := by
  obtain ⟨vS, vP, A, c, ss, h1, h2, h3, h4, h5, h6, h7⟩ := h
  exact ⟨vS, vP, A, c, ss, h1, Nat.le_trans hb h2, h3, ⟨h4.1.lower hb, Kd.R_lower h4.2 hb⟩, h5, h6, h7.1, fun ad e hp => by rw [hl] at hp; cases hp⟩
section
variable {w0 W : World} {zs : List Nat} {g x : Nat} {d e : DS}
def TwoPost (w0 : World) (zs : List Nat) (W : World) (g x : Nat) (d e : DS) (v : Value) (E : Ending) (w' : World) : Prop := E = .returned v ∧ Two w0 zs w' g x d e ∧ Sm zs W w'
theorem two_arm (h : Two w0 zs W g x d e) (a : Int) (A : Option Addr) (c : Nat) (l : List S58) (hr : Kd.C k58 w0 A l.length l) (hc : l.length ≤ c) (hl : l.length < 17592186044416) :
    Calls Tryz.prog 7 #[.pointer (some ⟨g, 0, none⟩), .agg #[.int .i64 a, .slice A l.length c]] W (TwoPost w0 zs W g x (d.arm a (l.map fun x => x.f0)) e (.tuple #[])) := by
  obtain ⟨xs, h1, h2⟩ := h.first
  exact (st_arm h1 a A c l (Kd.C_below hr h1.2.1) hc hl).mono fun E w' ⟨e1, hS, hM⟩ => ⟨e1, h2 w' _ hS hM⟩
theorem two_arm' (h : Two w0 zs W g x d e) (a : Int) (A : Option Addr) (c : Nat) (l : List S58) (hr : Kd.C k58 w0 A l.length l) (hc : l.length ≤ c) :
    Calls Tryz.prog 8 #[.pointer (some ⟨x, 0, none⟩), .agg #[.int .i64 a, .slice A l.length c]] W (TwoPost w0 zs W g x d (e.arm a (l.map fun x => x.f0)) (.tuple #[])) := by
  obtain ⟨xs, h1, h2⟩ := h.second
  have h3 := sr_arm h1 a A c (l.map fun x => x.f0) (by rw [List.length_map]; exact hc) (left_of hr h1.2.1)
  rw [List.length_map] at h3
  exact h3.mono fun E w' ⟨e1, hS, hM⟩ => ⟨e1, h2 w' _ hS hM⟩
theorem two_restart (h : Two w0 zs W g x d e) : Calls Tryz.prog 11 #[.pointer (some ⟨g, 0, none⟩)] W (TwoPost w0 zs W g x d.restart e (.tuple #[])) := by
  obtain ⟨xs, h1, h2⟩ := h.first
  exact (st_restart h1).mono fun E w' ⟨e1, hS, hM⟩ => ⟨e1, h2 w' _ hS hM⟩
theorem two_restart' (h : Two w0 zs W g x d e) : Calls Tryz.prog 12 #[.pointer (some ⟨x, 0, none⟩)] W (TwoPost w0 zs W g x d e.restart (.tuple #[])) := by
  obtain ⟨xs, h1, h2⟩ := h.second
  exact (sr_restart h1).mono fun E w' ⟨e1, hS, hM⟩ => ⟨e1, h2 w' _ hS hM⟩
theorem two_room' (h : Two w0 zs W g x d e) (hS : e.S.length ≤ 4000) : Calls Tryz.prog 17 #[.pointer (some ⟨x, 0, none⟩)] W fun E w' => E = .returned (.int .i64 (e.room : Int)) ∧ W = w' := by
  obtain ⟨xs, h1, h2⟩ := h.second
  exact r_room h1.1 hS
def TwoLoad (w0 : World) (zs : List Nat) (W : World) (g x : Nat) (d e : DS) (r : Int × List Int × Bool) (E : Ending) (w' : World) : Prop :=
  ∃ A c, E = .returned (.tuple #[.int .i64 r.1, .slice A r.2.1.length c, .bool r.2.2]) ∧ (Kd.int .u8).C w' A r.2.1.length r.2.1 ∧ Two w0 zs w' g x d e ∧ Below W.heap.size W w'
theorem two_new {w : World} {g n : Nat} (h : St w [] W g (DS.new n)) (hn : n ≤ 4000) :
    Calls Tryz.prog 5 #[.int .i64 (n : Int)] W fun E w' => E = .returned (.pointer (some ⟨W.heap.size, 0, none⟩)) ∧ Two w [] w' g W.heap.size (DS.new n) (DS.new n) :=
  (r_new n hn W).mono fun E w' ⟨e1, hR, hB⟩ => by
    obtain ⟨L, hL⟩ : ∃ L : List Nat, ∀ k, k ∈ L ↔ k < w'.heap.size ∧ W.heap.size ≤ k := ⟨(List.range w'.heap.size).filter (fun k => decide (W.heap.size ≤ k)), fun k => by simp⟩
    exact ⟨e1, L, (fun z hz => by cases hz), (h.mores hB L (fun y hy => ⟨((hL y).1 hy).2, ((hL y).1 hy).1⟩)).less (fun y hy => List.mem_append.2 (.inl hy)), (hR.bound.mono (fun k hk => ⟨Nat.le_trans h.2.1.size hk.1, (hL k).2 ⟨hk.2.2.1, hk.1⟩, fun e => by cases e⟩)).lower h.2.1.size rfl⟩
end
theorem Two.none {w0 W : World} {zs : List Nat} {g x : Nat} {d e : DS} (h : Two w0 zs W g x d e) : Two w0 [] W g x d e := by
  obtain ⟨xs, h0, h1, h2⟩ := h
  exact ⟨xs, (fun z hz => by cases hz), h1, h2.mono (fun k hk => ⟨hk.1, hk.2.1, fun e => by cases e⟩)⟩
end Go.Proofs.YtkicekddkgehoaaGreatDoor.Dsk
