/- Contracts of the calls, by hand. -/
import Derived.Test.YtkicekddkgehoaaQSlotLastx1
import Derived.Test.YtkicekddkgehoaaSpan5
import Derived.RangeFuncNested
import Derived.RangeFuncBound
import Derived.RangeFuncCalls
import Derived.RangeFuncLeaves
import Derived.RangeFuncBox
import Derived.Shelf.Abstract
import Derived.Shelf.RegionOpen
import Derived.OwnWalkIn
import Derived.TacticsInMore
import Derived.LoopNIn
import Derived.LoopIn
import Derived.Sort.QuietIn
import Derived.Sort.CutIn
import Derived.Stop.RegionWithIn
namespace Go.Proofs.Ytkicekddkgehoaa.Hnd
open Go.RowKit Go.Proofs.Ytkicekddkgehoaa.QSlotLast Go.Proofs.YtkicekddkgehoaaW.PrintWords Go.Proofs.YtkicekddkgehoaaW.PrintLast Go.Proofs.YtkicekddkgehoaaW.Dk Go.Shelf
set_option linter.unusedVariables false
set_option linter.unusedSimpArgs false
end Go.Proofs.Ytkicekddkgehoaa.Hnd
namespace Go.Proofs.YtkicekddkgehoaaW.Dk
namespace DS
theorem putC_fail : ∀ (cs ds : List (List Int)) (d : DS) (i : Int), (putC d i cs).2 ≠ 0 → putC d i (cs ++ ds) = putC d i cs
  | [], ds, d, i, h => absurd rfl h
  | c :: cs, ds, d, i, h => by
    rw [List.cons_append, putC, putC]
    rw [putC] at h
    split
    · rename_i h0
      rw [if_pos h0] at h
      exact putC_fail cs ds _ _ h
    · rfl
theorem putC_snoc : ∀ (cs : List (List Int)) (c : List Int) (d : DS) (i : Int), (putC d i cs).2 = 0 → putC d i (cs ++ [c]) = (putC d i cs).1.wr (i + cs.length) c
  | [], c, d, i, h => by
    rw [List.nil_append, putC, putC, putC, List.length_nil, Int.natCast_zero, Int.add_zero]
    split
    · rename_i h0
      exact Prod.ext rfl h0.symm
    · rfl
  | x :: cs, c, d, i, h => by
    rw [putC] at h
    rw [List.cons_append, putC, putC]
    split
    · rename_i h0
      rw [if_pos h0] at h
      rw [putC_snoc cs c _ _ h, List.length_cons]
      congr 1
      omega
    · rename_i h0
      rw [if_neg h0] at h
      exact absurd h h0
theorem wr_Plen (d : DS) (i : Int) (b : List Int) : (d.wr i b).1.P.length ≤ d.P.length + 1 := by
  unfold wr
  split
  · exact Nat.le_succ _
  split
  · exact Nat.le_succ _
  split
  · exact Nat.le_succ _
  split
  · exact Nat.zero_le _
  · show (d.P ++ [(i, b)]).length ≤ _
    rw [List.length_append]
    exact Nat.le_refl _
theorem putC_Plen : ∀ (cs : List (List Int)) (d : DS) (i : Int), (putC d i cs).1.P.length ≤ d.P.length + cs.length
  | [], d, i => Nat.le_refl _
  | c :: cs, d, i => by
    have h := wr_Plen d i c
    rw [putC, List.length_cons]
    split
    · have := putC_Plen cs (d.wr i c).1 (i + 1)
      omega
    · omega
theorem fl_P (d : DS) (h : d.fl.2 = 0) : d.fl.1.P = [] := by
  unfold fl at h ⊢
  split
  · rename_i h0
    rw [if_pos h0] at h
    cases h
  · split
    · rfl
    · rfl
end DS
end Go.Proofs.YtkicekddkgehoaaW.Dk
namespace Go.Proofs.Ytkicekddkgehoaa.Hnd
open Go.RowKit Go.Proofs.Ytkicekddkgehoaa.QSlotLast Go.Proofs.YtkicekddkgehoaaW.PrintWords Go.Proofs.YtkicekddkgehoaaW.PrintLast Go.Proofs.YtkicekddkgehoaaW.Dk Go.Shelf
attribute [local go_sem] Oper.semAt_some
/-! Rows that come from elsewhere; chunks of a row. -/
theorem cell_of_heap {w W : World} {p : Addr} (h : W.heap[p.block]? = w.heap[p.block]?) : W.cell? p = w.cell? p := by
  unfold World.cell?
  rw [h]
/-- A row of bytes reads the same where its block lies as it lay. -/
theorem C_blk {w W : World} {A : Option Addr} {n : Nat} {b : List Int} (h : (Kd.int .u8).C w A n b) (hm : ∀ ad, A = some ad → 0 < n → W.heap[ad.block]? = w.heap[ad.block]?) : (Kd.int .u8).C W A n b :=
  ⟨h.1, h.2.1, fun hp => by
    obtain ⟨ad, e, hc⟩ := h.2.2 hp
    refine ⟨ad, e, fun j p hj => ?_⟩
    obtain ⟨c, g1, g2, g3⟩ := hc j p hj
    exact ⟨c, g1, g2, fun i u hu => (cell_of_heap (by rw [add_block]; exact hm ad e hp)).trans (g3 i u hu)⟩⟩
/-- A row of bytes that no disk made since w0 beside xs can touch. -/
def Rd (w0 : World) (xs : List Nat) (W : World) (A : Option Addr) (b : List Int) : Prop :=
  (Kd.int .u8).C W A b.length b ∧ ∀ ad, A = some ad → 0 < b.length → (ad.block < w0.heap.size ∨ ad.block ∈ xs) ∧ ad.block < W.heap.size
theorem Rd.step {w0 W W' : World} {xs : List Nat} {A : Option Addr} {b : List Int} (h : Rd w0 xs W A b) (h1 : Below w0.heap.size w0 W) (h2 : Below w0.heap.size w0 W') (hs : W.heap.size ≤ W'.heap.size) (hm : Sm xs W W') : Rd w0 xs W' A b :=
  ⟨C_blk h.1 (fun ad e hp => (h.2 ad e hp).1.elim (fun hl => (h2.block _ hl).trans (h1.block _ hl).symm) (fun hx => hm _ hx)), fun ad e hp => ⟨(h.2 ad e hp).1, Nat.lt_of_lt_of_le (h.2 ad e hp).2 hs⟩⟩
theorem Rd.below {w0 W W' : World} {xs : List Nat} {A : Option Addr} {b : List Int} (h : Rd w0 xs W A b) (hb : Below W.heap.size W W') : Rd w0 xs W' A b :=
  ⟨Kd.C_below h.1 hb, fun ad e hp => ⟨(h.2 ad e hp).1, Nat.lt_of_lt_of_le (h.2 ad e hp).2 hb.size⟩⟩
theorem Rd.mono {w0 W : World} {xs ys : List Nat} {A : Option Addr} {b : List Int} (h : Rd w0 xs W A b) (hs : ∀ x, x ∈ xs → x ∈ ys) : Rd w0 ys W A b :=
  ⟨h.1, fun ad e hp => ⟨(h.2 ad e hp).1.elim .inl (fun hx => .inr (hs _ hx)), (h.2 ad e hp).2⟩⟩
theorem St.less {w0 W : World} {xs ys : List Nat} {g : Nat} {d : DS} (h : St w0 xs W g d) (hs : ∀ x, x ∈ ys → x ∈ xs) : St w0 ys W g d :=
  ⟨h.1.mono (fun k hk => ⟨hk.1, fun e => hk.2 (hs k e)⟩), h.2.1, fun y hy => h.2.2 y (hs y hy)⟩
theorem St.own {w0 W W' : World} {xs : List Nat} {g : Nat} {d : DS} {row : Option Nat} (h : St w0 xs W g d) (hg : W.grownBy W' row) (hr : ∀ r, row = some r → w0.heap.size ≤ r ∧ ∃ o : Obj, W.heap[r]? = some o ∧ o.isCells = false) : St w0 xs W' g d := by
  refine ⟨(h.1.bound.step (w1 := W') (fun k hk hlt => hg.block k hlt (fun e => ?_))).mono (fun k hk => hk.1), ?_, fun x hx => Nat.lt_of_lt_of_le (h.2.2 x hx) hg.size⟩
  · obtain ⟨_, o, ho, hoc⟩ := hr k e.symm
    obtain ⟨_, _, cells, q, fr, hc⟩ := hk.2
    rw [hc] at ho
    injection ho with ho
    subst ho
    cases hoc
  · exact ⟨hg.os.trans h.2.1.os, hg.tape.trans h.2.1.tape, hg.output.trans h.2.1.output, Nat.le_trans h.2.1.size hg.size, fun k hk => (hg.block k (Nat.lt_of_lt_of_le hk h.2.1.size) (fun e => by have := (hr k e.symm).1; omega)).trans (h.2.1.block k hk)⟩
/-- A write, and that it keeps what is no cells. -/
theorem st_writeK {w0 W : World} {xs : List Nat} {g : Nat} {d : DS} (h : St w0 xs W g d) (i : Int) (x : Nat) (b : List Int) (hx : x ∈ xs) (hs : SecAt W x b) (hl : b.length = 16) (hP : d.P.length < 1099511627776) :
    Calls Try.prog 33 #[.pointer (some ⟨g, 0, none⟩), .int .i64 i, .slice (some ⟨x, 0, none⟩) 16 16] W fun e w' => e = .returned (.int .i64 (d.wr i b).2) ∧ St w0 xs w' g (d.wr i b).1 ∧ Sm xs W w' ∧ KeepsOthers W w' := by
  have hw := write_any h.1.bound i (some ⟨x, 0, none⟩) 16 b (fun W_ hk => Kd.C_int_cells (T := 5) (fr := (0, 0)) ((hk.2 x (h.2.2 x hx) (fun e => e.1.2 hx)).trans hs) rfl (by omega)) (by omega) hP
  rw [hl] at hw
  refine hw.mono fun e w' ⟨h1, h2, h3⟩ => ⟨h1, ?_⟩
  obtain ⟨q1, q2⟩ := h.kept (h2.mono (fun k hk => hk.elim (fun e => .inl e.1) .inr)) (h3.mono (fun k hk => hk.1))
  refine ⟨q1, q2, h3.size, fun k o hk hc => (h3.block k (Array.getElem?_eq_some_iff.1 hk).1 (fun e => ?_)).trans hk⟩
  obtain ⟨_, _, cells, q, fr, hcc⟩ := e.2
  rw [hcc] at hk
  injection hk with hk
  subst hk
  cases hc
/-- The j-th chunk of a row. -/
def chV (ad : Addr) (L j : Nat) : Value := .slice (some (ad.add (16 * j))) (min 16 (L - 16 * j)) (min 16 (L - 16 * j))
def ch (b : List Int) (j : Nat) : List Int := (b.drop (16 * j)).take 16
theorem ch_len (b : List Int) (j : Nat) : (ch b j).length = min 16 (b.length - 16 * j) := by rw [ch, List.length_take, List.length_drop]
theorem ch_C {w : World} {ad : Addr} {b : List Int} (h : (Kd.int .u8).C w (some ad) b.length b) (j : Nat) (hj : 16 * j < b.length) : (Kd.int .u8).C w (some (ad.add (16 * j))) (ch b j).length (ch b j) := by
  have h1 := Kd.C_drop (m := 16 * j) (c := b.length) h (by omega) (Nat.le_refl _)
  rw [if_neg (by omega)] at h1
  have e1 : (some ad).map (·.add (16 * j * (Kd.int .u8).sz)) = some (ad.add (16 * j)) := by
    show some (Addr.add _ (16 * j * 1)) = _
    rw [Nat.mul_one]
  rw [e1] at h1
  have h2 := Kd.C_take (m := min 16 (b.length - 16 * j)) h1 (by rw [List.length_drop]; omega)
  have e2 : (b.drop (16 * j)).take (min 16 (b.length - 16 * j)) = ch b j := by
    rw [ch]
    by_cases hb : b.length - 16 * j ≤ 16
    · rw [List.take_of_length_le (by rw [List.length_drop]; omega), List.take_of_length_le (by rw [List.length_drop]; omega)]
    · rw [Nat.min_eq_left (by omega)]
  rw [e2] at h2
  exact h2
theorem ch_chunk (b : List Int) : ∀ (k j : Nat), DS.chunkN k (b.drop (16 * j)) = (List.range' j k).map fun t => DS.pad (ch b t)
  | 0, j => rfl
  | k + 1, j => by
    rw [DS.chunkN, List.drop_drop, show 16 * j + 16 = 16 * (j + 1) by omega, ch_chunk b k (j + 1)]
    rfl
theorem ch_chunks (b : List Int) : DS.chunks b = (List.range ((b.length + 15) / 16)).map fun t => DS.pad (ch b t) := by
  have := ch_chunk b ((b.length + 15) / 16) 0
  rw [Nat.mul_zero, List.drop_zero, ← List.range_eq_range'] at this
  exact this
def nch (L : Nat) : Nat := (L + 15) / 16
set_option maxRecDepth 100000 in
set_option maxHeartbeats 2000000 in
theorem chunk1_in (f : Nat) (hf : 1 ≤ f) (l Bs Bn L c : Nat) (A : Option Addr) (hc : L ≤ c) (hc2 : L ≤ 4611686018427387904) (J Jx : List { j : Nat // j < nch L } → World → Prop)
    (Kp : World → World → Prop) (hKp : ∀ W W', Kp W W' → W'.cell? ⟨Bs, 0, none⟩ = W.cell? ⟨Bs, 0, none⟩ ∧ W'.cell? ⟨Bn, 0, none⟩ = W.cell? ⟨Bn, 0, none⟩)
    (ad : Addr) (hA : 0 < L → A = some ad)
    (hJ : ∀ pre W n, J pre W → J pre (W.drewN n))
    (hY : ∀ pre (x : { j : Nat // j < nch L }) W, J pre W → pre.length < nch L → YieldAt Fence.wide (f - 1) Try.prog l #[chV ad L x.1] W fun e W' =>
      (e = .returned (.bool true) ∧ J (pre ++ [x]) W' ∧ Kp W W') ∨ (e = .returned (.bool false) ∧ Jx (pre ++ [x]) W'))
    (W : World) (hBs : W.cell? ⟨Bs, 0, none⟩ = some (.slice A L c)) (hBn : W.cell? ⟨Bn, 0, none⟩ = some (.int .i64 16)) (h0 : J [] W) :
    CallsIn Fence.wide f Try.prog 47 #[.func (.yield l) #[] #[], .pointer (some ⟨Bs, 0, none⟩), .pointer (some ⟨Bn, 0, none⟩)] W fun e W' => (∃ v, e = .returned v) ∧
      ((∃ ys, ys.map (·.1) = List.range (nch L) ∧ J ys W') ∨ (∃ pre, (∃ k, k ≤ nch L ∧ pre.map (·.1) = List.range k) ∧ Jx pre W')) := by
  refine callsIn_of_wp Try.func47 rfl trivial ?_ rfl
  simp only [Try.ntmps47, List.size_toArray, List.length_cons, List.length_nil, Nat.reduceAdd, Nat.reduceSub, Array.replicate_succ, Array.replicate_zero, List.push_toArray, List.append_toArray, List.nil_append, List.cons_append]
  have HS : Aside0 (W.cell? ⟨Bs, 0, none⟩ = some (.slice A L c) ∧ W.cell? ⟨Bn, 0, none⟩ = some (.int .i64 16)) := ⟨hBs, hBn⟩
  clear hBs hBn
  gi_wp2
  gi_loopw [4] (fun u wr => ∃ (k : Nat) (pre : List { j : Nat // j < nch L }), u = .int .i64 ((16 * k : Nat) : Int) ∧ Aside0 (k ≤ nch L) ∧ Aside0 (pre.map (·.1) = List.range k) ∧ Aside0 (J pre wr) ∧ Aside0 (wr.cell? ⟨Bs, 0, none⟩ = some (.slice A L c) ∧ wr.cell? ⟨Bn, 0, none⟩ = some (.int .i64 16))) (fun u _ => L + 17 - (intOf u).toNat)
  case atStart => exact ⟨0, [], rfl, ⟨Nat.zero_le _⟩, ⟨rfl⟩, ⟨h0⟩, HS⟩
  case round =>
    obtain ⟨k, pre, rfl, HK, HP, HJ, HC⟩ := hrel
    obtain ⟨hcS, hcN⟩ := HC.out
    by_cases hlt : 16 * k < L
    · have hkn : k < nch L := by unfold nch; omega
      obtain rfl := hA (by omega)
      have hlen : pre.length < nch L := by have := congrArg List.length HP.out; rw [List.length_map, List.length_range] at this; omega
      obtain ⟨s, hs⟩ : ∃ s, 16 * k = s := ⟨_, rfl⟩
      obtain ⟨m, hm⟩ : ∃ m, min 16 (L - s) = m := ⟨_, rfl⟩
      have HS2 := Aside0.mk hs
      rw [hs] at hlt ⊢
      have hd : decide ((s : Int) < (L : Int)) = true := decide_eq_true (by omega)
      have hd2 : decide (s < L) = true := decide_eq_true hlt
      have hp0 : (0 : Int) ≤ (s : Int) := by omega
      have hp1 : (s : Int) ≤ (L : Int) := by omega
      have hp2 : (s : Int) ≤ (c : Int) := by omega
      have hp3 : (m : Int) ≤ 16 := by omega
      have hp4 : (0 : Int) ≤ (m : Int) := by omega
      have hp5 : (s : Int) + (m : Int) ≤ (c : Int) := by omega
      have hp6 : (s : Int) + (m : Int) ≤ 4611686018427387904 := by omega
      have hne : ¬ c = s := by omega
      have hm0 : ¬ m = 0 := by omega
      have hm1 : ¬ s + m = s := by omega
      have hm2 : ¬ (m : Int) = 0 := by omega
      have HM := Aside0.mk hm
      have HLT := Aside0.mk hlt
      have HKN := Aside0.mk hkn
      have HLEN := Aside0.mk hlen
      clear hm hs hlt hkn hlen hA
      gi_wp2_with fail
      gi_quiet (fail)
      have em : (if ((L - s : Nat) : Int) < 16 then ((L - s : Nat) : Int) else 16) = (m : Int) := by have := HM.out; split <;> omega
      simp only [em]
      clear em
      obtain ⟨fn, tmps, assign, body, hy, hR⟩ := hY pre ⟨k, HKN.out⟩ (wr.drewN nq) (hJ _ _ _ HJ.out) HLEN.out
      have evv : chV ad L k = .slice (some (ad.add s)) m m := by unfold chV; rw [HS2.out, HM.out]
      dsimp only at hy
      rw [evv] at hy
      clear evv
      have hpre2 : (pre ++ [(⟨k, HKN.out⟩ : { j : Nat // j < nch L })]).map (·.1) = List.range (k + 1) := by rw [List.map_append, HP.out, List.range_succ]; rfl
      have HP2 := Aside0.mk hpre2
      clear hpre2
      gi_wp2
      refine hR.mono ?_
      rintro e W3 (⟨rfl, hJ3, hk3⟩ | ⟨rfl, hJx3⟩)
      · obtain ⟨e1, e2⟩ := hKp _ _ hk3
        have HC3 : Aside0 (W3.cell? ⟨Bs, 0, none⟩ = some (.slice (some ad) L c) ∧ W3.cell? ⟨Bn, 0, none⟩ = some (.int .i64 16)) := ⟨e1.trans HC.out.1, e2.trans HC.out.2⟩
        have hcN3 := HC3.out.2
        have hp7 : (s : Int) + 16 ≤ 9223372036854775807 := by omega
        clear e1 e2
        gi_wp2
        go_roundw
        case rel => exact ⟨k + 1, _, by rw [← HS2.out]; go_num, ⟨HKN.out⟩, HP2, ⟨hJ3⟩, HC3⟩
        case measure => have := HLT.out; simp [intOf]; omega
      · gi_wp2
        refine bodyPost_ret (results_none rfl _ _ _) rfl ?_
        exact ⟨⟨_, rfl⟩, .inr ⟨_, ⟨k + 1, HKN.out, HP2.out⟩, hJx3⟩⟩
    · obtain rfl : k = nch L := by have := HK.out; unfold nch at this ⊢; omega
      have hge : L ≤ 16 * nch L := by unfold nch; omega
      obtain ⟨s, hs⟩ : ∃ s, 16 * nch L = s := ⟨_, rfl⟩
      rw [hs] at hge hlt ⊢
      have hd : decide ((s : Int) < (L : Int)) = false := decide_eq_false (by omega)
      have hd2 : decide (s < L) = false := decide_eq_false hlt
      clear hlt hge hs
      gi_wp2
      go_end0
      exact ⟨⟨_, rfl⟩, .inl ⟨pre, HP.out, HJ.out⟩⟩
def KpC (Bs Bn : Nat) (W W' : World) : Prop := W'.cell? ⟨Bs, 0, none⟩ = W.cell? ⟨Bs, 0, none⟩ ∧ W'.cell? ⟨Bn, 0, none⟩ = W.cell? ⟨Bn, 0, none⟩
theorem KpC.trans {Bs Bn : Nat} {A B C : World} (h : KpC Bs Bn A B) (k : KpC Bs Bn B C) : KpC Bs Bn A C := ⟨k.1.trans h.1, k.2.trans h.2⟩
theorem KpC.put {Bs Bn N : Nat} (h1 : Bs < N) (h2 : Bn < N) (W : World) (l : Nat) (o o' : Obj) (hl : N ≤ l) (_ : W.heap[l]? = some o) (_ : o.isCells = false) (_ : o.isWalk = false) : KpC Bs Bn W (W.putObj l o') :=
  ⟨cell_of_heap (World.putObj_heap_other (by show Bs ≠ l; omega)), cell_of_heap (World.putObj_heap_other (by show Bn ≠ l; omega))⟩
theorem grown_below {W W' : World} (hb : Below W.heap.size W W') : W.grownBy W' none := ⟨hb.os, hb.tape, hb.output, hb.size, fun k hk _ => hb.block k hk⟩
theorem chunk_stops (f : Nat) (hf : 1 ≤ f) (Bs Bn L c : Nat) (A : Option Addr) (hc : L ≤ c) (hc2 : L ≤ 4611686018427387904) (ad : Addr) (hA : 0 < L → A = some ad) (w : World) (hBs : w.cell? ⟨Bs, 0, none⟩ = some (.slice A L c)) (hBn : w.cell? ⟨Bn, 0, none⟩ = some (.int .i64 16)) (h1 : Bs < w.heap.size) (h2 : Bn < w.heap.size) :
    SeqStopsK Fence.wide f Try.prog 47 #[.pointer (some ⟨Bs, 0, none⟩), .pointer (some ⟨Bn, 0, none⟩)] (fun x : { j : Nat // j < nch L } => #[chV ad L x.1]) (KpC Bs Bn) (fun ys => ys.map (·.1) = List.range (nch L)) (fun pre => ∃ k, k ≤ nch L ∧ pre.map (·.1) = List.range k) (nch L) w := fun l J Jx W hW hJ _ hY h0 =>
  chunk1_in f hf l Bs Bn L c A hc hc2 J Jx (KpC Bs Bn) (fun _ _ h => h) ad hA (fun pre W n h => hJ pre W _ none h (grown_below (pw_below_drewN (Below.refl _ _) n)) (fun r e => by cases e)) hY W
    ((hW.cell (p := ⟨Bs, 0, none⟩) h1).trans hBs) ((hW.cell (p := ⟨Bn, 0, none⟩) h2).trans hBn) h0
theorem chunk_any (A : Option Addr) (n c : Nat) (w : World) : Calls Try.prog 32 #[.slice A n c, .int .i64 16] w fun e w' => e = .returned (.func (.func 47) #[] #[.pointer (some ⟨w.heap.size, 0, none⟩), .pointer (some ⟨w.heap.size + 1, 0, none⟩)]) ∧ w' = (w.alloc (.cells #[.slice A n c] 22)).alloc (.cells #[.int .i64 16] 3) := by
  have hmf : ∀ (fn : Fn) (first cap : Array Value) (w : World), (Instr.makeFunc fn first cap).run Try.prog w = .ok (.func fn first cap) w := fun _ _ _ _ => rfl
  go_enter Try.func32, Try.ntmps32
  go_wp2
  go_ret
  exact ⟨rfl, rfl⟩
end Go.Proofs.Ytkicekddkgehoaa.Hnd
