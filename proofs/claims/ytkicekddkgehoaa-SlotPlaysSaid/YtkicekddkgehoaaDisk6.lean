/- Contracts of the calls, by hand. -/
import Derived.Test.YtkicekddkgehoaaQSlotLastx1
import Derived.Test.YtkicekddkgehoaaDisk5
import Derived.RangeFuncNested
import Derived.RangeFuncBound
import Derived.RangeFuncCalls
import Derived.RangeFuncLeaves
import Derived.RangeFuncBox
import Derived.Shelf.Abstract
import Derived.Shelf.RegionOpen
import Derived.OwnWalkIn
import Derived.TacticsInMore
import Derived.LoopNIn
import Derived.LoopIn
namespace Go.Proofs.Ytkicekddkgehoaa.Hnd
open Go.RowKit Go.Proofs.Ytkicekddkgehoaa.QSlotLast Go.Proofs.YtkicekddkgehoaaW.PrintWords Go.Proofs.YtkicekddkgehoaaW.PrintLast Go.Proofs.YtkicekddkgehoaaW.Dk Go.Shelf
set_option linter.unusedVariables false
set_option linter.unusedSimpArgs false
attribute [local go_sem] Oper.semAt_some
/-- What a pending write's cells are: a place, and where its bytes lie. -/
structure PW where
  i : Int
  a : Addr
  c : Nat
def PW.val (p : PW) : Value := .agg #[.int .i64 p.i, .slice (some p.a) 16 p.c]
/-- The rows of pending writes that lie at ad. -/
def PAt (n₀ n : Nat) (W : World) (ad : Addr) (pw : Nat → PW) : Prop := ad.block < n₀ ∧ ∀ j, j < n → W.cell? (ad.add (j * 2)) = some (.int .i64 (pw j).i) ∧ W.cell? ⟨(ad.add (j * 2)).block, (ad.add (j * 2)).off + 1, none⟩ = some (.slice (some (pw j).a) 16 (pw j).c)
theorem add_block (a : Addr) (j : Nat) : (a.add j).block = a.block := by unfold Addr.add; split <;> rfl
theorem PAt.below {n₀ n : Nat} {W W' : World} {ad : Addr} {pw : Nat → PW} (h : PAt n₀ n W ad pw) (hb : Below n₀ W W') : PAt n₀ n W' ad pw :=
  ⟨h.1, fun j hj => ⟨(hb.cell (by rw [add_block]; exact h.1)).trans (h.2 j hj).1, (hb.cell (p := ⟨(ad.add (j * 2)).block, (ad.add (j * 2)).off + 1, none⟩) (by show (ad.add (j * 2)).block < n₀; rw [add_block]; exact h.1)).trans (h.2 j hj).2⟩⟩
def dn (n k : Nat) : List Nat := (List.range k).map fun t => n - 1 - t
theorem dn_succ (n k : Nat) : dn n (k + 1) = dn n k ++ [n - 1 - k] := by unfold dn; rw [List.range_succ, List.map_append]; rfl
theorem dn_len (n k : Nat) : (dn n k).length = k := by unfold dn; rw [List.length_map, List.length_range]
set_option maxRecDepth 100000 in
set_option maxHeartbeats 2000000 in
theorem back1_in (F : Fence) (f : Nat) (hF : F.fn 57) (hro : F.round = none) (hf : 1 ≤ f) (l Bs n₀ n c : Nat) (A : Option Addr) (pw : Nat → PW) (hn : n ≤ 9223372036854775807) (J Jx : List { j : Nat // j < n } → World → Prop)
    (hY : ∀ pre (x : { j : Nat // j < n }) W, J pre W → pre.length < n → YieldAt F (f - 1) Try.prog l #[.int .i64 (x.1 : Int), (pw x.1).val] W fun e W' =>
      (e = .returned (.bool true) ∧ J (pre ++ [x]) W' ∧ Below n₀ W W') ∨ (e = .returned (.bool false) ∧ Jx (pre ++ [x]) W'))
    (W : World) (hBs : W.cell? ⟨Bs, 0, none⟩ = some (.slice A n c)) (hBn : ∀ W', Below n₀ W W' → W'.cell? ⟨Bs, 0, none⟩ = some (.slice A n c)) (hA : 0 < n → ∃ ad, A = some ad ∧ PAt n₀ n W ad pw) (h0 : J [] W) :
    CallsIn F f Try.prog 57 #[.func (.yield l) #[] #[], .pointer (some ⟨Bs, 0, none⟩)] W fun e W' => (∃ v, e = .returned v) ∧
      ((∃ ys, ys.map (·.1) = dn n n ∧ J ys W') ∨ (∃ pre, (∃ k, k ≤ n ∧ pre.map (·.1) = dn n k) ∧ Jx pre W')) := by
  refine callsIn_of_wp Try.func57 rfl hF ?_ hro
  simp only [Try.ntmps57, List.size_toArray, List.length_cons, List.length_nil, Nat.reduceAdd, Nat.reduceSub, Array.replicate_succ, Array.replicate_zero, List.push_toArray, List.append_toArray, List.nil_append, List.cons_append]
  have hw0 : IntKind.i64.wrap ((n : Int) - 1) = (n : Int) - 1 := by rw [IntKind.wrap_i64]; omega
  have hw1 : wrap64 ((n : Int) - 1) = (n : Int) - 1 := by unfold wrap64; omega
  gi_wp2
  clear hBs
  gi_loopw [3] (fun i wr => ∃ (m k : Nat) (pre : List { j : Nat // j < n }), k + m = n ∧ pre.map (·.1) = dn n k ∧ i = .int .i64 ((m : Int) - 1) ∧ J pre wr ∧ Below n₀ W wr) (fun i _ => (intOf i + 1).toNat)
  case atStart => exact ⟨n, 0, [], by omega, rfl, rfl, h0, Below.refl _ _⟩
  case round =>
    obtain ⟨m, k, pre, hmk, hpre, rfl, hJs, hnx⟩ := hrel
    have hcB := hBn wr hnx
    cases m with
    | zero =>
      have hd : decide (((0 : Nat) : Int) - 1 ≥ 0) = false := by decide
      obtain rfl : k = n := by omega
      gi_wp2
      go_end0
      exact ⟨⟨_, rfl⟩, .inl ⟨pre, hpre, hJs⟩⟩
    | succ m =>
      have e1 : (((m + 1 : Nat) : Int) - 1) = (m : Int) := by omega
      rw [e1]
      obtain ⟨ad, rfl, hP⟩ := hA (by omega)
      obtain ⟨hx0, hx1⟩ := (hP.below hnx).2 m (by omega)
      have hmn : m < n := by omega
      have hd : decide ((m : Int) ≥ 0) = true := decide_eq_true (by omega)
      have hd2 : decide ((0 : Int) ≤ (m : Int)) = true := decide_eq_true (by omega)
      have hp1 : (0 : Int) ≤ (m : Int) := by omega
      have hp2 : (m : Int) < (n : Int) := by omega
      have hlen : pre.length < n := by have := congrArg List.length hpre; rw [List.length_map, dn_len] at this; omega
      obtain ⟨fn, tmps, assign, body, hy, hR⟩ := hY pre ⟨m, hmn⟩ wr hJs hlen
      dsimp only at hy
      unfold PW.val at hy
      have hw2 : IntKind.i64.wrap ((m : Int) - 1) = (m : Int) - 1 := by rw [IntKind.wrap_i64]; omega
      have hw3 : wrap64 ((m : Int) - 1) = (m : Int) - 1 := by unfold wrap64; omega
      have hpre2 : (pre ++ [(⟨m, hmn⟩ : { j : Nat // j < n })]).map (·.1) = dn n (k + 1) := by rw [List.map_append, hpre, dn_succ]; congr 1; simp; omega
      have HP2 := Aside0.mk hpre2
      clear hpre hpre2 e1
      gi_wp2
      refine hR.mono ?_
      rintro e W3 (⟨rfl, hJ3, hk3⟩ | ⟨rfl, hJx3⟩)
      · gi_wp2
        go_roundw
        case rel => exact ⟨m, k + 1, _, by omega, HP2.out, rfl, hJ3, hnx.trans hk3⟩
        case measure => first | (simp [intOf]; done) | (simp [intOf]; omega)
      · gi_wp2
        refine bodyPost_ret (results_none rfl _ _ _) rfl ?_
        exact ⟨⟨_, rfl⟩, .inr ⟨_, ⟨k + 1, by omega, HP2.out⟩, hJx3⟩⟩
attribute [local go_sem] Oper.semAt_some
theorem back_any (A : Option Addr) (n c : Nat) (w : World) : Calls Try.prog 52 #[.slice A n c] w fun e w' => e = .returned (.func (.func 57) #[] #[.pointer (some ⟨w.heap.size, 0, none⟩)]) ∧ w' = w.alloc (.cells #[.slice A n c] 49) := by
  have hmf : ∀ (fn : Fn) (first cap : Array Value) (w : World), (Instr.makeFunc fn first cap).run Try.prog w = .ok (.func fn first cap) w := fun _ _ _ _ => rfl
  go_enter Try.func52, Try.ntmps52
  go_wp2
  go_ret
  exact ⟨rfl, rfl⟩
theorem back_stops (f : Nat) (hf : 1 ≤ f) (Bs n₀ n c : Nat) (A : Option Addr) (pw : Nat → PW) (hn : n ≤ 9223372036854775807) (w : World) (hBs : w.cell? ⟨Bs, 0, none⟩ = some (.slice A n c)) (hB : Bs < n₀) (hn₀ : n₀ ≤ w.heap.size) (hA : 0 < n → ∃ ad, A = some ad ∧ PAt n₀ n w ad pw) :
    SeqStopsK Fence.wide f Try.prog 57 #[.pointer (some ⟨Bs, 0, none⟩)] (fun x : { j : Nat // j < n } => #[Value.int .i64 (x.1 : Int), (pw x.1).val]) (Below n₀) (fun ys => ys.map (·.1) = dn n n) (fun pre => ∃ k, k ≤ n ∧ pre.map (·.1) = dn n k) n w := fun l J Jx W hW _ _ hY h0 => by
  have hWn : Below n₀ w W := hW.mono hn₀
  exact back1_in Fence.wide f trivial rfl hf l Bs n₀ n c A pw hn J Jx hY W ((hWn.cell (p := ⟨Bs, 0, none⟩) hB).trans hBs) (fun W' hW' => ((hWn.trans hW').cell (p := ⟨Bs, 0, none⟩) hB).trans hBs) (fun h => by obtain ⟨ad, e, hp⟩ := hA h; exact ⟨ad, e, hp.below hWn⟩) h0
theorem pw_of {w : World} {base : Nat} {ok : Nat → Prop} {vS vP vL : Value} {ss : List Nat} {S : List (List Int)} {P : List (Int × List Int)} {L : List Int} (h : DiskIn w base ok vS vP vL S P L ss) (hf : DS.Fit S P) :
    ∃ (A : Option Addr) (c : Nat) (pw : Nat → PW), vP = .slice A P.length c ∧ P.length ≤ 9223372036854775807 ∧ (0 < P.length → ∃ ad, A = some ad ∧ PAt w.heap.size P.length w ad pw) ∧ ∀ j, j < P.length → (pw j).i = (P.getD j (0, [])).1 ∧ 16 ≤ (pw j).c ∧ (Kd.int .u8).C w (some (pw j).a) (P.getD j (0, [])).2.length (P.getD j (0, [])).2 := by
  obtain ⟨A, c, hv, hlc, hC⟩ := Kd.R_reads h.2.2.2.2.2.1
  have each : ∀ j, j < P.length → ∃ p : PW, ∃ ad, A = some ad ∧ w.cell? (ad.add (j * 2)) = some (.int .i64 p.i) ∧ w.cell? ⟨(ad.add (j * 2)).block, (ad.add (j * 2)).off + 1, none⟩ = some (.slice (some p.a) 16 p.c) ∧ p.i = (P.getD j (0, [])).1 ∧ 16 ≤ p.c ∧ (Kd.int .u8).C w (some p.a) (P.getD j (0, [])).2.length (P.getD j (0, [])).2 := fun j hj => by
    have hb : (P.getD j (0, [])).2.length = 16 := by
      have hm : P.getD j (0, []) ∈ P := by rw [List.getD_eq_getElem?_getD, List.getElem?_eq_getElem hj]; exact List.getElem_mem hj
      exact (hf.2 _ hm).2.2
    obtain ⟨ad, ad', c', e, h1, h2, h3, h4⟩ := write_at hC j hj hb
    exact ⟨⟨(P.getD j (0, [])).1, ad', c'⟩, ad, e, h1, h2, rfl, h3, h4⟩
  refine ⟨A, c, fun j => if hj : j < P.length then Classical.choose (each j hj) else ⟨0, ⟨0, 0, none⟩, 0⟩, hv, hC.2.1, fun h0 => ?_, fun j hj => ?_⟩
  · obtain ⟨ad, e, _⟩ := Classical.choose_spec (each 0 h0)
    refine ⟨ad, e, ?_, fun j hj => ?_⟩
    · obtain ⟨_, e2, h1, _⟩ := Classical.choose_spec (each 0 h0)
      rw [e] at e2
      injection e2 with e2
      subst e2
      have := World.block_lt_of_cell? w _ h1
      rwa [add_block] at this
    · obtain ⟨_, e2, h1, h2, _⟩ := Classical.choose_spec (each j hj)
      rw [e] at e2
      injection e2 with e2
      subst e2
      simp only [dif_pos hj]
      exact ⟨h1, h2⟩
  · obtain ⟨_, _, _, _, h3, h4, h5⟩ := Classical.choose_spec (each j hj)
    simp only [dif_pos hj]
    exact ⟨h3, h4, h5⟩
theorem lastP_none (i : Int) : ∀ (P : List (Int × List Int)), (∀ j, j < P.length → (P.getD j (0, [])).1 ≠ i) → DS.lastP i P = none
  | [], _ => rfl
  | p :: P, h => by
    rw [DS.lastP, lastP_none i P (fun j hj => by have := h (j + 1) (by simpa using hj); simpa using this), if_neg (by have := h 0 (by simp); simpa using this)]
    rfl
theorem lastP_at (i : Int) : ∀ (P : List (Int × List Int)) (m : Nat), m < P.length → (P.getD m (0, [])).1 = i → (∀ j, m < j → j < P.length → (P.getD j (0, [])).1 ≠ i) → DS.lastP i P = some (P.getD m (0, [])).2
  | [], m, h, _, _ => by simp at h
  | p :: P, 0, h, e, hn => by
    rw [DS.lastP, lastP_none i P (fun j hj => by have := hn (j + 1) (by omega) (by simpa using hj); simpa using this), if_pos (by simpa using e)]
    rfl
  | p :: P, m + 1, h, e, hn => by
    rw [DS.lastP, lastP_at i P m (by simpa using h) (by simpa using e) (fun j h1 h2 => by have := hn (j + 1) (by omega) (by simpa using h2); simpa using this)]
    simp
end Go.Proofs.Ytkicekddkgehoaa.Hnd
