/- Contracts of the calls, by hand. -/
import Derived.Test.YtkicekddkgehoaaGreatDoorQMarkPlaysx
import Derived.Test.YtkicekddkgehoaaGreatDoorWDisk
import Derived.RangeFuncNested
import Derived.RangeFuncBound
import Derived.RangeFuncCalls
import Derived.RangeFuncLeaves
import Derived.RangeFuncBox
import Derived.Shelf.Abstract
import Derived.Shelf.RegionOpen
import Derived.OwnWalkIn
import Derived.TacticsInMore
import Derived.LoopNIn
import Derived.LoopIn
import Derived.Sort.QuietIn
import Derived.Sort.CutIn
import Derived.Stop.RegionWithIn
import Derived.StillTailTactics
namespace Go.Proofs.YtkicekddkgehoaaGreatDoor.Dsk
open Go.RowKit Go.Proofs.YtkicekddkgehoaaGreatDoor.QMarkPlays Go.Proofs.YtkicekddkgehoaaGreatDoorW.PrintWords Go.Proofs.YtkicekddkgehoaaGreatDoorW.PrintLast Go.Proofs.YtkicekddkgehoaaGreatDoorW.Dk Go.Shelf
set_option linter.unusedVariables false
set_option linter.unusedSimpArgs false
set_option linter.unusedVariables false
set_option linter.unusedSimpArgs false

/-! A disk's calls. -/
theorem ret_i {k : IntKind} {a b : Int} (h : a = b) : Ending.returned (.int k a) = .returned (.int k b) := by rw [h]
theorem R_iso {α β : Type} {d : Kd α} {f : β → α} {e base : Nat} {ok : Nat → Prop} {w : World} {v : Value} {xs : List β} (h : (Kd.iso d f).R e w base ok v xs) : d.R e w base ok v (xs.map f) := by
  obtain ⟨h0, inner, ho, hr⟩ := h
  refine ⟨h0, inner, by rw [List.length_map]; exact ho, ?_⟩
  have : ∀ (ps : List β) (cs : List Value), Reps ((Kd.iso d f).M w base (fun k => ok k ∧ some k ≠ v.ownBlock)) (Kd.iso d f).sz ps cs → Reps (d.M w base (fun k => ok k ∧ some k ≠ v.ownBlock)) d.sz (ps.map f) cs := by
    intro ps cs h
    refine ⟨by rw [List.length_map]; exact h.1, fun j p hj => ?_⟩
    rw [List.getElem?_map] at hj
    cases hp : ps[j]? with
    | none => rw [hp] at hj; cases hj
    | some q =>
      rw [hp] at hj
      injection hj with hj
      subst hj
      exact h.2 j q hp
  exact this xs inner hr
theorem slice_of {w : World} {base : Nat} {ok : Nat → Prop} {vS vP vL : Value} {S : List (List Int)} {P : List (Int × List Int)} {L : List Int} {ss : List Nat} (h : DiskIn w base ok vS vP vL S P L ss) : ∃ A c, vS = .slice A S.length c := by
  rcases h.1.2 with ⟨rfl, h0⟩ | ⟨g, cap, cur, rfl, _⟩
  · exact ⟨none, 0, by rw [← h.2.2.1.1, h0]⟩
  · exact ⟨_, _, by rw [h.2.2.1.1]⟩
theorem down_any {w : World} {base g : Nat} {ok : Nat → Prop} {d : DS} (h : DiskAt w base ok g d) : Calls Tryz.prog 67 #[.pointer (some ⟨g, 0, none⟩)] w fun e w' => e = .returned (.bool d.down) ∧ w = w' := by
  obtain ⟨vS, vP, vL, ss, h1, h2, h3, h4, h5⟩ := h
  have hc : w.cell? ⟨g, 3, none⟩ = some (.bool d.down) := (blk_cell h1 3).trans rfl
  clear h1 h2 h3 h4 h5
  go_enter Tryz.func67, Tryz.ntmps67
  go_wp2
  go_ret
  exact ⟨rfl, rfl⟩
theorem size_any {w : World} {base g : Nat} {ok : Nat → Prop} {d : DS} (h : DiskAt w base ok g d) : Calls Tryz.prog 21 #[.pointer (some ⟨g, 0, none⟩)] w fun e w' => e = .returned (.int .i64 (d.S.length : Int)) ∧ w = w' := by
  obtain ⟨vS, vP, vL, ss, h1, h2, h3, h4, h5⟩ := h
  obtain ⟨A, c, hv⟩ := slice_of h4
  subst hv
  have hc : w.cell? ⟨g, 0, none⟩ = some (.slice A d.S.length c) := (blk_cell h1 0).trans rfl
  clear h1 h2 h3 h4 h5
  go_enter Tryz.func21, Tryz.ntmps21
  go_wp2
  go_ret
  exact ⟨rfl, rfl⟩
theorem keep_any {w : World} {base g : Nat} {ok : Nat → Prop} {vS vP vL : Value} {ss : List Nat} {d : DS} {S : List (List Int)} {P : List (Int × List Int)} (h1 : w.heap[g]? = some (.cells (dcells vS vP vL d) 51 (0, 0))) (h4 : DiskIn w base ok vS vP vL S P d.left ss) (k : Nat) :
    Calls Tryz.prog 76 #[.pointer (some ⟨g, 0, none⟩), .int .i64 (k : Int)] w fun e w' => e = .returned (.int .i64 (DS.keepN d.left k : Int)) ∧ w = w' := by
  obtain ⟨A, c, rfl, hlc, hC⟩ := Kd.R_reads h4.2.2.2.2.2.2
  have hc : w.cell? ⟨g, 6, none⟩ = some (.slice A d.left.length c) := (blk_cell h1 6).trans rfl
  by_cases hk : k < d.left.length
  · obtain ⟨ad, e0, hx⟩ := Kd.at_int hC (k : Int) (by omega) (by omega)
    subst e0
    have er : rd d.left (k : Int) = d.left.getD k 0 := rfl
    rw [er, Int.toNat_natCast] at hx
    have hkn : DS.keepN d.left k = (min (max (d.left.getD k 0) 0) 16).toNat := rfl
    have hd : decide ((k : Int) ≥ (d.left.length : Int)) = false := decide_eq_false (by omega)
    have hd2 : decide ((d.left.length : Int) ≤ (k : Int)) = false := decide_eq_false (by omega)
    have hd3 : decide (d.left.length ≤ k) = false := decide_eq_false (by omega)
    have hp1 : (0 : Int) ≤ (k : Int) := by omega
    have hp2 : (k : Int) < (d.left.length : Int) := by omega
    generalize d.left.getD k 0 = x at hx hkn
    have HK := Aside0.mk hkn
    clear h1 h4 hlc hC hkn er
    go_enter Tryz.func76, Tryz.ntmps76
    go_wp2
    all_goals
      go_ret
      refine ⟨ret_i ?_, rfl⟩
      rw [HK.out]
      (try split at *)
      all_goals omega
  · have HK : Aside0 (DS.keepN d.left k = 0) := ⟨by unfold DS.keepN; rw [List.getD_eq_getElem?_getD, List.getElem?_eq_none (by omega)]; rfl⟩
    have hd : decide ((k : Int) ≥ (d.left.length : Int)) = true := decide_eq_true (by omega)
    have hd2 : decide ((d.left.length : Int) ≤ (k : Int)) = true := decide_eq_true (by omega)
    have hd3 : decide (d.left.length ≤ k) = true := decide_eq_true (by omega)
    clear h1 h4 hlc hC hk
    go_enter Tryz.func76, Tryz.ntmps76
    go_wp2
    go_ret
    rw [HK.out]
    exact ⟨rfl, rfl⟩

theorem size5 : (Tryz.prog.info? 5).map (·.size) = some 1 := by kernel_rfl
theorem sec_value {w : World} {base : Nat} {ok : Nat → Prop} {vS vP vL : Value} {S : List (List Int)} {P : List (Int × List Int)} {L : List Int} {ss : List Nat} (h : DiskIn w base ok vS vP vL S P L ss) (i : Nat) (hi : i < S.length) :
    ∃ (k q cap : Nat), ss[i]? = some k ∧ vS = .slice (some ⟨q, 0, none⟩) S.length cap ∧ w.cell? ⟨q, i, none⟩ = some (secV k) ∧ SecAt w k (S.getD i []) := by
  have hl : i < ss.length := by rw [h.2.2.1.1]; exact hi
  refine ⟨ss[i], ?_⟩
  have hk : ss[i]? = some ss[i] := List.getElem?_eq_getElem hl
  have hs : SecAt w ss[i] (S.getD i []) := h.2.2.1.2 i _ _ hk (by rw [List.getD_eq_getElem?_getD, List.getElem?_eq_getElem hi]; rfl)
  rcases h.1.2 with ⟨rfl, h0⟩ | ⟨q, cap, cur, rfl, _, hh, _, _, _, ht⟩
  · omega
  · refine ⟨q, cap, hk, by rw [h.2.2.1.1], ?_, hs⟩
    rw [cell_of_row w q _ cur _ (0, 0) hh, ← Array.getElem?_toList]
    have := congrArg (fun l : List Value => l[i]?) ht
    simp only [List.getElem?_take, Nat.mul_one, if_pos hl, List.getElem?_map, hk, Option.map_some] at this
    exact this
/-- The first n bytes of what is read are laid over a sector's. -/
theorem copied {w : World} {base : Nat} {ok : Nat → Prop} {vS vP vL : Value} {S : List (List Int)} {P : List (Int × List Int)} {L : List Int} {ss : List Nat} (h : DiskIn w base ok vS vP vL S P L ss) (hS : ∀ s ∈ S, s.length = 16) (i k n sc : Nat) (hi : i < S.length) (hk : ss[i]? = some k)
    (ad : Addr) (b : List Int) (hb : b.length = 16) (hn : n ≤ 16) (hC : (Kd.int .u8).C w (some ad) b.length b) (ty : TypeId) :
    (Builtin.copy_ #[52, 52] ty #[secV k, .slice (some ad) n sc]).run Tryz.prog w = .ok (goInt n) (w.setCells k 0 ((b.map (Value.int .u8)).take n)) ∧
      DiskIn (w.setCells k 0 ((b.map (Value.int .u8)).take n)) base ok vS vP vL (S.set i (DS.lay b (S.getD i []) n)) P L ss ∧ ok k ∧ base ≤ k ∧ k < w.heap.size := by
  rw [← List.map_take]
  have hmem : k ∈ ss := List.mem_of_getElem? hk
  have hsec : SecAt w k (S.getD i []) := h.2.2.1.2 i _ _ hk (by rw [List.getD_eq_getElem?_getD, List.getElem?_eq_getElem hi]; rfl)
  have hsl : (S.getD i []).length = 16 := DS.getD_len hS hi
  have hlen : ((b.take n).map (Value.int .u8)).length = n := by rw [List.length_map, List.length_take]; omega
  have hcs : ((S.getD i []).map (Value.int .u8)).toArray.size = 16 := by rw [List.size_toArray, List.length_map]; exact hsl
  have hcell : ∀ j v, ((b.take n).map (Value.int .u8))[j]? = some v → w.cell? (ad.add j) = some v := fun j v hj => by
    have hjn : j < n := by rw [← hlen]; exact (List.getElem?_eq_some_iff.1 hj).1
    obtain ⟨ad', e, hc⟩ := Kd.at_int hC (j : Int) (by omega) (by omega)
    injection e with e
    subst e
    rw [Int.toNat_natCast] at hc
    rw [hc, ← hj, List.getElem?_map, List.getElem?_take, if_pos hjn, rd, Int.toNat_natCast, List.getD_eq_getElem?_getD, List.getElem?_eq_getElem (by omega)]
    rfl
  obtain ⟨cur', h1, h2, h3⟩ := setCells_row ((b.take n).map (Value.int .u8)) 0 w _ hsec (by rw [hlen, hcs]; omega)
  have hmin : Nat.min n 16 = n := Nat.min_eq_left hn
  refine ⟨?_, ⟨?_, h.2.1, ?_, h.2.2.2.1, h.2.2.2.2.1, ?_, ?_⟩, (h.2.2.2.2.1 k hmem).2, (h.2.2.2.2.1 k hmem).1, h.2.2.1.lt hmem⟩
  · exact Kd.run_copy_cells_sz w _ _ ty 5 k 0 16 16 ad n sc n 1 _ Tryz.underlying52 size5 hmin.symm (by rw [hlen, Nat.mul_one]) hcell
      (fun j hj => by rw [Nat.zero_add, cell_of_row w k j _ _ (0, 0) hsec, Array.getElem?_eq_getElem (by rw [hcs]; rw [hlen] at hj; omega)]; rfl) (fun j hj => blk_frozen hsec _) (fun v hv => by obtain ⟨x, _, rfl⟩ := List.mem_map.1 hv; rfl)
  · exact own_move h.1 (fun q hq => setCells_far _ _ q (fun e => (h.2.1 q hq).2 (e ▸ hmem)))
  · refine h.2.2.1.set h.2.2.2.1 hk ?_ (fun j hj hne => setCells_far _ _ j hne)
    show _ = _
    rw [h1]
    congr 2
    apply Array.toList_inj.1
    rw [h3, hlen, DS.lay]
    simp
  · exact Kd.R_step h.2.2.2.2.2.1 (fun q hq _ => setCells_far _ _ q (fun e => hq.2 (e ▸ hmem)))
  · exact Kd.R_step h.2.2.2.2.2.2 (fun q hq _ => setCells_far _ _ q (fun e => hq.2 (e ▸ hmem)))
/-- A pending write is read. -/
theorem write_at {w : World} {A : Option Addr} {P : List (Int × List Int)} (h : kW.C w A P.length P) (k : Nat) (hk : k < P.length) (hb : (P.getD k (0, [])).2.length = 16) :
    ∃ (ad ad' : Addr) (c' : Nat), A = some ad ∧ w.cell? (ad.add (k * 2)) = some (.int .i64 (P.getD k (0, [])).1) ∧ w.cell? ⟨(ad.add (k * 2)).block, (ad.add (k * 2)).off + 1, none⟩ = some (.slice (some ad') 16 c') ∧ 16 ≤ c' ∧ (Kd.int .u8).C w (some ad') (P.getD k (0, [])).2.length (P.getD k (0, [])).2 := by
  obtain ⟨ad, c, e, hl, hK, hc0⟩ := Kd.C_get h (0, []) (k : Int) (by omega) (by omega)
  rw [Int.toNat_natCast] at hK hc0
  have hc : ∀ j u, c[j]? = some u → w.cell? (ad.add (k * 2 + j)) = some u := hc0
  generalize P.getD k (0, []) = p at hK hb ⊢
  obtain ⟨c0, c1, rfl, h0, A', c', h1, h2, h3⟩ := hK
  have h0' : c0 = [.int .i64 p.1] := h0
  subst h0' h1
  have hpos : 0 < p.2.length := by omega
  obtain ⟨ad', e', _⟩ := h3.2.2 hpos
  subst e'
  refine ⟨ad, ad', c', e, ?_, ?_, by rw [hb] at h2; exact h2, h3⟩
  · have := hc 0 _ rfl
    rwa [Nat.add_zero] at this
  · have := hc 1 (.slice (some ad') p.2.length c') rfl
    rw [hb] at this
    rwa [← Addr.add_add] at this

set_option maxHeartbeats 2000000 in
theorem crashes_not {w : World} {base g : Nat} {ok : Nat → Prop} {d : DS} (h : DiskAt w base ok g d) (hn : d.bad = false) :
    Calls Tryz.prog 68 #[.pointer (some ⟨g, 0, none⟩)] w fun e w' => e = .returned (.bool false) ∧ DiskAt w' base ok g d.counted ∧ KeptB ok w w' := by
  obtain ⟨vS, vP, vL, ss, h1, h2, h3, h4, h5⟩ := h
  have hc2 : w.cell? ⟨g, 2, none⟩ = some (.int .i64 d.N) := (blk_cell h1 2).trans rfl
  have hc4 : w.cell? ⟨g, 4, none⟩ = some (.bool d.armed) := (blk_cell h1 4).trans rfl
  have hc5 : w.cell? ⟨g, 5, none⟩ = some (.int .i64 d.at_) := (blk_cell h1 5).trans rfl
  have hf2 : w.frozen? ⟨g, 2, none⟩ = false := blk_frozen h1 2
  have fin : ∀ (n : Nat), DiskAt ((w.drewN n).setCell ⟨g, 2, none⟩ (.int .i64 (wrap64 (d.N + 1)))) base ok g d.counted ∧ KeptB ok w ((w.drewN n).setCell ⟨g, 2, none⟩ (.int .i64 (wrap64 (d.N + 1)))) := fun n =>
    ⟨DiskAt.set (w := w) (d' := d.counted) h1 h2 h3 h4 h5 rfl rfl rfl (blk_put (cs := dcells vS vP vL d) (blk_drewN h1 n) 2 _ rfl) rfl (fun k hk => (Below.heap_setCell (w.drewN n) ⟨g, 2, none⟩ _ k hk).trans rfl), ((KeptB.refl ok w).drewN n).setCell (.inl h3) _⟩
  have HF := Aside0.mk fin
  cases ha : d.armed with
  | false =>
    rw [ha] at hc4
    clear h1 h2 h3 h4 h5 hn fin ha
    go_enter Tryz.func68, Tryz.ntmps68
    go_wp2_with fail
    go_quiet (fail)
    go_wp2
    go_ret
    exact ⟨rfl, HF.out _⟩
  | true =>
    rw [ha] at hc4
    have hlt : d.N < d.at_ := by
      unfold DS.bad at hn
      rw [ha, Bool.true_and, decide_eq_false_iff_not] at hn
      omega
    have hd : decide (d.N < d.at_) = true := decide_eq_true hlt
    clear h1 h2 h3 h4 h5 hn fin ha
    go_enter Tryz.func68, Tryz.ntmps68
    go_wp2_with fail
    go_quiet (fail)
    go_wp2
    go_ret
    exact ⟨rfl, HF.out _⟩

def CrInv (w wr : World) (base g : Nat) (ok : Nat → Prop) (d : DS) (vS vP vL : Value) (ss : List Nat) (k : Nat) (S' : List (List Int)) : Prop :=
  DS.spill d.left S' (d.P.drop k) k = DS.spill d.left d.S d.P 0 ∧ DS.Fit S' (d.P.drop k) ∧ wr.heap[g]? = some (.cells (dcells vS vP vL d) 51 (0, 0)) ∧ DiskIn wr base (fun k => ok k ∧ k ≠ g) vS vP vL S' d.P d.left ss ∧ KeptB ok w wr
set_option maxHeartbeats 4000000 in
set_option maxRecDepth 100000 in
theorem crashes_bad {w : World} {base g : Nat} {ok : Nat → Prop} {d : DS} (h : DiskAt w base ok g d) (hn : d.bad = true) :
    Calls Tryz.prog 68 #[.pointer (some ⟨g, 0, none⟩)] w fun e w' => e = .returned (.bool true) ∧ DiskAt w' base ok g d.crashed ∧ KeptB ok w w' := by
  obtain ⟨vS, vP, vL, ss, h1, h2, h3, h4, h5⟩ := h
  obtain ⟨A, c, rfl, hlc, hC⟩ := Kd.R_reads h4.2.2.2.2.2.1
  have hc1 : w.cell? ⟨g, 1, none⟩ = some (.slice A d.P.length c) := (blk_cell h1 1).trans rfl
  have hc2 : w.cell? ⟨g, 2, none⟩ = some (.int .i64 d.N) := (blk_cell h1 2).trans rfl
  have hc4 : w.cell? ⟨g, 4, none⟩ = some (.bool true) := by
    unfold DS.bad at hn
    rw [Bool.and_eq_true] at hn
    exact (blk_cell h1 4).trans (by rw [← hn.1]; rfl)
  have hc5 : w.cell? ⟨g, 5, none⟩ = some (.int .i64 d.at_) := (blk_cell h1 5).trans rfl
  have hd : decide (d.N < d.at_) = false := by
    unfold DS.bad at hn
    rw [Bool.and_eq_true, decide_eq_true_eq] at hn
    exact decide_eq_false (by omega)
  have H2 := Aside0.mk h2
  have H3 := Aside0.mk h3
  have HI : Aside0 (CrInv w w base g ok d vS (.slice A d.P.length c) vL ss 0 d.S) := ⟨rfl, h5, h1, h4, KeptB.refl _ _⟩
  have H5 := Aside0.mk h5
  clear h1 h2 h3 h4 h5 hn hlc hC
  go_enter Tryz.func68, Tryz.ntmps68
  go_wp2_with fail
  go_quiet (fail)
  go_wp2
  go_loopw [34] (fun u34 wr => ∃ (k : Nat) (S' : List (List Int)), u34 = .int .i64 (k : Int) ∧ Aside0 (k ≤ d.P.length) ∧ Aside0 (CrInv w wr base g ok d vS (.slice A d.P.length c) vL ss k S')) (fun u34 _ => d.P.length + 1 - (intOf u34).toNat)
  case atStart => exact ⟨0, d.S, rfl, ⟨Nat.zero_le _⟩, ⟨HI.out.1, HI.out.2.1, HI.out.2.2.1, HI.out.2.2.2.1.step (fun k _ _ => rfl), HI.out.2.2.2.2.drewN _⟩⟩
  case round =>
    clear hc1 hc2 hc4 hc5 HI
    obtain ⟨k, S', rfl, HK, HI⟩ := hrel
    by_cases hlt : k < d.P.length
    · have hp : d.P.drop k = d.P.getD k (0, []) :: d.P.drop (k + 1) := by
        rw [List.drop_eq_getElem_cons hlt, List.getD_eq_getElem?_getD, List.getElem?_eq_getElem hlt]
        rfl
      obtain ⟨i1, i2, i3, i4, i5⟩ := HI.out
      rw [hp] at i1 i2
      obtain ⟨f1, f2, f3⟩ := i2.head
      obtain ⟨A', c', hv, hlc, hC⟩ := Kd.R_reads i4.2.2.2.2.2.1
      injection hv with hA hl0 hc0
      subst hA hc0
      clear hl0
      obtain ⟨ad, ad', cb, rfl, hx0, hx1, hcb, hCb⟩ := write_at hC k hlt f3
      obtain ⟨i, hi⟩ : ∃ i : Nat, (d.P.getD k (0, [])).1 = (i : Int) := ⟨(d.P.getD k (0, [])).1.toNat, by omega⟩
      have hiS : i < S'.length := by omega
      obtain ⟨kq, q, cap, hkq, rfl, hq, hsec⟩ := sec_value i4 i hiS
      generalize hpp : d.P.getD k (0, []) = p at *
      rw [hi] at hx0
      have hd : decide ((k : Int) < (d.P.length : Int)) = true := decide_eq_true (by omega)
      have hp8 : (k : Int) + 1 ≤ 9223372036854775807 := by have := hC.2.1; omega
      have hp1 : (0 : Int) ≤ (k : Int) := by omega
      have hp2 : (k : Int) < (d.P.length : Int) := by omega
      have hp3 : (0 : Int) ≤ (i : Int) := by omega
      have hp4 : (i : Int) < (S'.length : Int) := by omega
      have hk16 := DS.keepN_le d.left k
      have hp5 : (0 : Int) ≤ (DS.keepN d.left k : Int) := by omega
      have hp6 : (DS.keepN d.left k : Int) ≤ (16 : Int) := by omega
      have hp7 : (DS.keepN d.left k : Int) ≤ (cb : Int) := by omega
      have HSP : Aside0 (DS.spill d.left (S'.set i (DS.lay p.2 (S'.getD i []) (DS.keepN d.left k))) (d.P.drop (k + 1)) (k + 1) = DS.spill d.left d.S d.P 0) := ⟨by rw [← i1, DS.spill, hi, Int.toNat_natCast]⟩
      have HFT : Aside0 (DS.Fit (S'.set i (DS.lay p.2 (S'.getD i []) (DS.keepN d.left k))) (d.P.drop (k + 1))) := ⟨by have := i2.laid (DS.keepN d.left k) hk16; rwa [hi, Int.toNat_natCast] at this⟩
      have I1 := Aside0.mk i1
      have I2 := Aside0.mk i2
      have I3 := Aside0.mk i3
      have I4 := Aside0.mk i4
      have I5 := Aside0.mk i5
      have F3 := Aside0.mk f3
      have KQ := Aside0.mk hkq
      have CB := Aside0.mk hCb
      clear i1 i2 i3 i4 i5 f1 f2 f3 hlc hC hkq hCb hsec hpp hp HI hi
      go_upto_region 7 with (fail)
      obtain ⟨W0, hW0⟩ : ∃ W0, W0 = wr.alloc (.cells #[.int .i64 (i : Int), .slice (some ad') 16 cb] 105) := ⟨_, rfl⟩
      have hWb : Below wr.heap.size wr W0 := by rw [hW0]; exact below_alloc (Below.refl _ _) _
      have hWn : W0.heap[wr.heap.size]? = some (.cells #[.int .i64 (i : Int), .slice (some ad') 16 cb] 105 (0, 0)) := by rw [hW0]; exact blk_new wr _
      rw [← hW0]
      clear hW0
      have J3 : W0.heap[g]? = some (.cells (dcells (.slice (some ⟨q, 0, none⟩) S'.length cap) (.slice (some ad) d.P.length c) vL d) 51 (0, 0)) := blk_below I3.out hWb
      have J4 : DiskIn W0 base (fun k => ok k ∧ k ≠ g) (.slice (some ⟨q, 0, none⟩) S'.length cap) (.slice (some ad) d.P.length c) vL S' d.P d.left ss := I4.out.step (fun k _ hk => hWb.block k hk)
      have J4d : DiskIn W0.drew base (fun k => ok k ∧ k ≠ g) (.slice (some ⟨q, 0, none⟩) S'.length cap) (.slice (some ad) d.P.length c) vL S' d.P d.left ss := J4.step (fun _ _ _ => rfl)
      obtain ⟨hcp, J5, hokk, hbk, hltk⟩ := copied J4d I2.out.1 i kq (DS.keepN d.left k) cb hiS KQ.out ad' p.2 F3.out hk16 (Kd.C_below CB.out (hWb.trans (below_drew1 (Below.refl _ _)))) 3
      have hc0 : W0.cell? ⟨g, 0, none⟩ = some (.slice (some ⟨q, 0, none⟩) S'.length cap) := (blk_cell J3 0).trans rfl
      have hb0 : W0.cell? ⟨wr.heap.size, 0, none⟩ = some (.int .i64 (i : Int)) := (blk_cell hWn 0).trans rfl
      have hb1 : W0.cell? ⟨wr.heap.size, 1, none⟩ = some (.slice (some ad') 16 cb) := (blk_cell hWn 1).trans rfl
      have hq1 : W0.cell? ⟨q, i, none⟩ = some (.slice (some ⟨kq, 0, none⟩) 16 16) := pw_cell_below hWb hq
      unfold secV at hcp
      have HD := Aside0.mk (I5.out.then_ (KeptB.setCells (((KeptB.refl ok wr).after hWb).drew) (.inl hokk.1) (vs := (p.2.map (Value.int .u8)).take (DS.keepN d.left k)) (o := 0)) (fun _ hk => .inl hk))
      have J3d : (W0.drew.setCells kq 0 ((p.2.map (Value.int .u8)).take (DS.keepN d.left k))).heap[g]? = some (.cells (dcells (.slice (some ⟨q, 0, none⟩) S'.length cap) (.slice (some ad) d.P.length c) vL d) 51 (0, 0)) := (setCells_far _ _ g (Ne.symm hokk.2)).trans J3
      have HINV : Aside0 (CrInv w (W0.drew.setCells kq 0 ((p.2.map (Value.int .u8)).take (DS.keepN d.left k))) base g ok d (.slice (some ⟨q, 0, none⟩) S'.length cap) (.slice (some ad) d.P.length c) vL ss (k + 1) (S'.set i (DS.lay p.2 (S'.getD i []) (DS.keepN d.left k)))) := ⟨HSP.out, HFT.out, J3d, J5, HD.out⟩
      have J3a := Aside0.mk J3
      have J4a := Aside0.mk J4
      clear J3 J4 J4d J5 J3d hWn hWb hokk hbk hltk HD hq hx0 hx1 I1 I2 I3 I4 I5 HSP HFT CB KQ F3
      go_region_law (first
        | (refine Kd.step_copy_run rfl _ _ 52 52 rfl _ _ (by simp [Act.eval, Act.put]) (by simp [Act.eval, Act.put]) hcp ?_)
        | (go_simp; go_at_call 76; refine (keep_any (w := W0.drew) (blk_drew J3a.out) (J4a.out.step (w1 := W0.drew) (fun _ _ _ => rfl)) k).mono ?_; rintro e w' ⟨rfl, rfl⟩))
      all_goals
        go_wp2
        all_goals exact ⟨⟨k + 1, _, by go_num, ⟨by omega⟩, HINV⟩, by simp [intOf]; omega⟩
    · obtain rfl : k = d.P.length := by have := HK.out; omega
      obtain ⟨i1, i2, i3, i4, i5⟩ := HI.out
      rw [List.drop_of_length_le (Nat.le_refl _), DS.spill] at i1
      subst i1
      have hd : decide ((d.P.length : Int) < (d.P.length : Int)) = false := decide_eq_false (by omega)
      have hf1 : wr.frozen? ⟨g, 1, none⟩ = false := blk_frozen i3 1
      have hf3 : wr.frozen? ⟨g, 3, none⟩ = false := blk_frozen i3 3
      have hc1 : wr.cell? ⟨g, 1, none⟩ = some (.slice A d.P.length c) := (blk_cell i3 1).trans rfl
      have hc3 : wr.cell? ⟨g, 3, none⟩ = some (.bool d.down) := (blk_cell i3 3).trans rfl
      have hfin : DiskAt ((wr.setCell ⟨g, 1, none⟩ (.slice none 0 0)).setCell ⟨g, 3, none⟩ (.bool true)) base ok g d.crashed ∧ KeptB ok w ((wr.setCell ⟨g, 1, none⟩ (.slice none 0 0)).setCell ⟨g, 3, none⟩ (.bool true)) := by
        refine ⟨⟨vS, .slice none 0 0, vL, ss, blk_put (blk_put i3 1 _ rfl) 3 _ rfl, H2.out, H3.out, ?_, DS.crashed_ok H5.out⟩, (i5.setCell (.inl H3.out) _).setCell (.inl H3.out) _⟩
        have hs : ∀ q, q ≠ g → ((wr.setCell ⟨g, 1, none⟩ (.slice none 0 0)).setCell ⟨g, 3, none⟩ (.bool true)).heap[q]? = wr.heap[q]? := fun q hq => (Below.heap_setCell _ _ _ _ hq).trans (Below.heap_setCell _ _ _ _ hq)
        have h := i4.step (w1 := (wr.setCell ⟨g, 1, none⟩ (.slice none 0 0)).setCell ⟨g, 3, none⟩ (.bool true)) (fun q hq _ => hs q hq.2)
        exact ⟨h.1, h.2.1, h.2.2.1, h.2.2.2.1, h.2.2.2.2.1, Kd.R_nil _ _ _ _ _, h.2.2.2.2.2.2⟩
      have HFIN := Aside0.mk hfin
      clear i2 i3 i4 i5 hlt HI hfin HK
      go_wp2
      go_ret
      exact ⟨rfl, HFIN.out⟩

set_option maxHeartbeats 1000000 in
theorem restart_any {w : World} {base g : Nat} {ok : Nat → Prop} {d : DS} (h : DiskAt w base ok g d) :
    Calls Tryz.prog 11 #[.pointer (some ⟨g, 0, none⟩)] w fun e w' => e = .returned (.tuple #[]) ∧ DiskAt w' base ok g d.restart ∧ KeptB ok w w' := by
  obtain ⟨vS, vP, vL, ss, h1, h2, h3, h4, h5⟩ := h
  have hc1 : w.cell? ⟨g, 1, none⟩ = some vP := (blk_cell h1 1).trans rfl
  have hc2 : w.cell? ⟨g, 2, none⟩ = some (.int .i64 d.N) := (blk_cell h1 2).trans rfl
  have hc3 : w.cell? ⟨g, 3, none⟩ = some (.bool d.down) := (blk_cell h1 3).trans rfl
  have hc4 : w.cell? ⟨g, 4, none⟩ = some (.bool d.armed) := (blk_cell h1 4).trans rfl
  have hf : ∀ i, w.frozen? ⟨g, i, none⟩ = false := fun i => blk_frozen h1 i
  have hf1 := hf 1
  have hf2 := hf 2
  have hf3 := hf 3
  have hf4 := hf 4
  have HF : Aside0 (DiskAt ((((w.setCell ⟨g, 1, none⟩ (.slice none 0 0)).setCell ⟨g, 3, none⟩ (.bool false)).setCell ⟨g, 4, none⟩ (.bool false)).setCell ⟨g, 2, none⟩ (.int .i64 0)) base ok g d.restart ∧ KeptB ok w ((((w.setCell ⟨g, 1, none⟩ (.slice none 0 0)).setCell ⟨g, 3, none⟩ (.bool false)).setCell ⟨g, 4, none⟩ (.bool false)).setCell ⟨g, 2, none⟩ (.int .i64 0))) := by
    refine ⟨⟨vS, .slice none 0 0, vL, ss, blk_put (blk_put (blk_put (blk_put h1 1 _ rfl) 3 _ rfl) 4 _ rfl) 2 _ rfl, h2, h3, ?_, DS.restart_ok h5⟩, ((((KeptB.refl ok w).setCell (.inl h3) _).setCell (.inl h3) _).setCell (.inl h3) _).setCell (.inl h3) _⟩
    have h := h4.step (w1 := (((w.setCell ⟨g, 1, none⟩ (.slice none 0 0)).setCell ⟨g, 3, none⟩ (.bool false)).setCell ⟨g, 4, none⟩ (.bool false)).setCell ⟨g, 2, none⟩ (.int .i64 0)) (fun q hq _ => (((Below.heap_setCell _ _ _ _ hq.2).trans (Below.heap_setCell _ _ _ _ hq.2)).trans (Below.heap_setCell _ _ _ _ hq.2)).trans (Below.heap_setCell _ _ _ _ hq.2))
    exact ⟨h.1, h.2.1, h.2.2.1, h.2.2.2.1, h.2.2.2.2.1, Kd.R_nil _ _ _ _ _, h.2.2.2.2.2.2⟩
  clear h1 h2 h3 h4 h5 hf
  go_enter Tryz.func11, Tryz.ntmps11
  go_wp2
  go_end0
  exact ⟨rfl, HF.out⟩
set_option maxHeartbeats 1000000 in
theorem arm_any {w : World} {base g : Nat} {ok : Nat → Prop} {d : DS} (h : DiskAt w base ok g d) (a : Int) (A : Option Addr) (c : Nat) (l : List S58) (hr : Kd.C k58 w A l.length l) (hc : l.length ≤ c) (hl : l.length < 17592186044416) :
    Calls Tryz.prog 7 #[.pointer (some ⟨g, 0, none⟩), .agg #[.int .i64 a, .slice A l.length c]] w fun e w' => e = .returned (.tuple #[]) ∧ DiskAt w' base (fun k => ok k ∨ w.heap.size ≤ k) g (d.arm a (l.map fun x => x.f0)) ∧ KeptB ok w w' := by
  have HR := Aside0.mk hr
  have HC := Aside0.mk hc
  have HCL : Aside0 (api_Choice.f l = some l) := ⟨by
    rw [api_Choice.f, Option.bind_some, if_pos (by simpa using hl), List.nil_append]⟩
  have hs := h.lt
  have hbw : base ≤ w.heap.size := Nat.le_trans h.base_le (Nat.le_of_lt hs)
  obtain ⟨vS, vP, vL, ss, h1, h2, h3, h4, h5⟩ := h
  have HSS : Aside0 (∀ k, k ∈ ss → k < w.heap.size) := ⟨fun k hk => h4.2.2.1.lt hk⟩
  have G1 := Aside0.mk h1
  have H2 := Aside0.mk h2
  have H3 := Aside0.mk h3
  have G4 := Aside0.mk h4
  have H5 := Aside0.mk h5
  have HBW := Aside0.mk hbw
  clear hr hc hl h1 h2 h3 h4 h5 hbw
  go_enter Tryz.func7, Tryz.ntmps7
  go_upto_region 2 with (fail)
  go_region_law (go_simp; go_at_call 18; (refine (api_Choice.calls A c l l _ ?s1 HC.out HCL.out).mono ?_); (case s1 => exact Kd.C_below HR.out (below_drew1 (below_alloc (Below.refl _ _) _))); rintro e w1 ⟨v0, rfl, ho, hb⟩; (obtain ⟨A', c', hv0, hlc, hC⟩ := Kd.R_reads ho); subst hv0; (have HB := Aside0.mk ((below_drew1 (below_alloc (Below.refl w.heap.size w) (.cells #[.int .i64 a, .slice A l.length c] 26))).trans (hb.mono (by simp)))); (have HO := Aside0.mk (R_iso ho)); (have hX : w1.heap[w.heap.size]? = some (.cells #[.int .i64 a, .slice A l.length c] 26 (0, 0)) := blk_below (blk_drew (blk_new w _)) hb); (have hx0 : w1.cell? ⟨w.heap.size, 0, none⟩ = some (.int .i64 a) := (blk_cell hX 0).trans rfl); (have hx1 : w1.cell? ⟨w.heap.size, 1, none⟩ = some (.slice A l.length c) := (blk_cell hX 1).trans rfl); (have h1 := blk_below G1.out HB.out); (have H1 := Aside0.mk h1); (have H4 := Aside0.mk (G4.out.step (w1 := w1) (fun k _ hk => HB.out.block k hk))); (have hc4 : w1.cell? ⟨g, 4, none⟩ = some (.bool d.armed) := (blk_cell h1 4).trans rfl); (have hc5 : w1.cell? ⟨g, 5, none⟩ = some (.int .i64 d.at_) := (blk_cell h1 5).trans rfl); (have hc6 : w1.cell? ⟨g, 6, none⟩ = some vL := (blk_cell h1 6).trans rfl); (have hf4 := blk_frozen h1 4); (have hf5 := blk_frozen h1 5); (have hf6 := blk_frozen h1 6); clear h1 hlc hC hb ho hX)
  all_goals
    go_end0
    refine ⟨rfl, ⟨vS, vP, _, ss, blk_put (blk_put (blk_put H1.out 4 _ rfl) 5 _ rfl) 6 _ rfl, H2.out, .inl H3.out, ?_, DS.arm_ok H5.out _ _⟩, (((((KeptB.refl ok w).after HB.out).setCell (.inl H3.out) _).setCell (.inl H3.out) _).setCell (.inl H3.out) _)⟩
    have hst : ∀ k, k ≠ g → (((w1.setCell ⟨g, 4, none⟩ (.bool true)).setCell ⟨g, 5, none⟩ (.int .i64 a)).setCell ⟨g, 6, none⟩ (.slice A' l.length c')).heap[k]? = w1.heap[k]? := fun k hk => ((Below.heap_setCell _ _ _ _ hk).trans (Below.heap_setCell _ _ _ _ hk)).trans (Below.heap_setCell _ _ _ _ hk)
    have q4 := (H4.out.step (w1 := ((w1.setCell ⟨g, 4, none⟩ (.bool true)).setCell ⟨g, 5, none⟩ (.int .i64 a)).setCell ⟨g, 6, none⟩ (.slice A' l.length c')) (fun k hk _ => hst k hk.2)).mono (ok' := fun k => (ok k ∨ w.heap.size ≤ k) ∧ k ≠ g) (fun k hk => ⟨.inl hk.1, hk.2⟩)
    refine ⟨q4.1, q4.2.1, q4.2.2.1, q4.2.2.2.1, q4.2.2.2.2.1, q4.2.2.2.2.2.1, ?_⟩
    have r1 := Kd.R_mono (Kd.R_bound HO.out) (ok' := fun k => ((ok k ∨ w.heap.size ≤ k) ∧ k ≠ g) ∧ k ∉ ss) (fun k hk => by
      have h1 : w.heap.size + 1 ≤ k := by have := hk.2.1; simpa using this
      exact ⟨⟨.inr (by omega), by omega⟩, fun e => by have := HSS.out k e; omega⟩)
    exact Kd.R_lower (Kd.R_step r1 (fun k hk _ => hst k hk.1.2)) (Nat.le_trans HBW.out (by simp))

theorem appended {W w3 : World} {base : Nat} {ok : Nat → Prop} {vS vP vL v1 : Value} {S : List (List Int)} {P P' : List (Int × List Int)} {L : List Int} {ss : List Nat} (h : DiskIn W base ok vS vP vL S P L ss) (hg : W.grownBy w3 vP.ownBlock)
    (hO : kW.R 105 w3 base (fun k => ok k ∧ k ∉ ss) v1 P') : DiskIn w3 base ok vS v1 vL S P' L ss := by
  obtain ⟨inner, hown⟩ := Kd.R_own h.2.2.2.2.2.1
  refine ⟨own_other h.1 hg (own_type_ne h.1 hown (by decide)), h.2.1, h.2.2.1.step (fun k hk => hg.block k (h.2.2.1.lt hk) (fun e => (h.2.2.2.2.2.1.1 k e.symm).2 hk)), h.2.2.2.1, h.2.2.2.2.1, hO, ?_⟩
  cases hb : vP.ownBlock with
  | none =>
    rw [hb] at hg
    exact Kd.R_grown h.2.2.2.2.2.2 hg (fun k _ e => by cases e)
  | some b =>
    rw [hb] at hg
    obtain ⟨cells, hc⟩ := own_typed hown b hb
    exact Kd.R_mono (Kd.R_grown (Kd.R_types h.2.2.2.2.2.2 hc (fun q hq => by simp [Kd.int, Kd.scalar] at hq; subst hq; decide)) hg (fun k hk e => hk.2 (by injection e))) (fun _ hk => hk.1)
theorem info58 : (Tryz.prog.info? 105).map (fun i => (i.zero, i.size, i.bytes)) = some (some (.agg #[.int .i64 0, .slice none 0 0]), kW.sz, 32) := by kernel_rfl
set_option maxHeartbeats 4000000 in
set_option maxRecDepth 100000 in
theorem write_any {w : World} {base g : Nat} {ok : Nat → Prop} {d : DS} (h : DiskAt w base ok g d) (i : Int) (A : Option Addr) (c : Nat) (b : List Int) (hr : ∀ W_, Kept w W_ ok → (Kd.int .u8).C W_ A b.length b) (hc : b.length ≤ c) (hP : d.P.length < 1099511627776) :
    Calls Tryz.prog 42 #[.pointer (some ⟨g, 0, none⟩), .int .i64 i, .slice A b.length c] w fun e w' => e = .returned (.int .i64 (d.wr i b).2) ∧ DiskAt w' base (fun k => ok k ∨ w.heap.size ≤ k) g (d.wr i b).1 ∧ KeptB ok w w' := by
  have HD := Aside0.mk h
  have HM := Aside0.mk (h.mono (ok' := fun k => ok k ∨ w.heap.size ≤ k) (fun k hk => .inl hk))
  have HR := Aside0.mk hr
  have HC := Aside0.mk hc
  have HP := Aside0.mk hP
  have hbg := h.base_le
  have hgl := h.lt
  clear hr hc hP
  by_cases h1 : d.down = true
  · have e : d.wr i b = (d, 5) := by unfold DS.wr; rw [if_pos h1]
    have HDN := Aside0.mk h1
    rw [e]
    clear e h h1
    go_enter Tryz.func42, Tryz.ntmps42
    go_wp2_with (go_at_call 67; refine (down_any HD.out).mono ?_; rw [HDN.out]; rintro e w' ⟨rfl, rfl⟩)
    go_ret
    exact ⟨rfl, HM.out, KeptB.refl _ _⟩
  · have h1f : d.down = false := by simpa using h1
    have HDN := Aside0.mk h1f
    by_cases h2 : b.length = 16
    · by_cases h3 : i < 0
      · have e : d.wr i b = (d, 4) := by unfold DS.wr; rw [if_neg h1, if_neg (by omega), if_pos (.inl h3)]
        have hd : decide (i < 0) = true := decide_eq_true h3
        have hl : ((b.length : Int) == 16) = true := by simp [h2]
        have hl2 : ((b.length : Int) != 16) = false := by simp [h2]
        rw [e]
        clear e h h1 h1f h3 h2
        go_enter Tryz.func42, Tryz.ntmps42
        go_wp2_with (go_at_call 67; refine (down_any HD.out).mono ?_; rw [HDN.out]; rintro e w' ⟨rfl, rfl⟩)
        go_ret
        exact ⟨rfl, HM.out, KeptB.refl _ _⟩
      · obtain ⟨vS, vP, vL, ss, g1, g2, g3, g4, g5⟩ := h
        obtain ⟨AS, cS, hv⟩ := slice_of g4
        subst hv
        have hc0 : w.cell? ⟨g, 0, none⟩ = some (.slice AS d.S.length cS) := (blk_cell g1 0).trans rfl
        have hd : decide (i < 0) = false := decide_eq_false h3
        have hl : ((b.length : Int) == 16) = true := by simp [h2]
        have hl2 : ((b.length : Int) != 16) = false := by simp [h2]
        by_cases h4 : (d.S.length : Int) ≤ i
        · have e : d.wr i b = (d, 4) := by unfold DS.wr; rw [if_neg h1, if_neg (by omega), if_pos (.inr h4)]
          have hd4 : decide (i ≥ (d.S.length : Int)) = true := decide_eq_true h4
          have hd5 : decide ((d.S.length : Int) ≤ i) = true := decide_eq_true h4
          rw [e]
          clear e h1 h1f h2 h3 h4 g1 g2 g3 g4 g5
          go_enter Tryz.func42, Tryz.ntmps42
          go_wp2_with (go_at_call 67; refine (down_any HD.out).mono ?_; rw [HDN.out]; rintro e w' ⟨rfl, rfl⟩)
          go_ret
          exact ⟨rfl, HM.out, KeptB.refl _ _⟩
        · have hd4 : decide (i ≥ (d.S.length : Int)) = false := decide_eq_false h4
          have hd5 : decide ((d.S.length : Int) ≤ i) = false := decide_eq_false h4
          by_cases h5 : d.bad = true
          · have e : d.wr i b = (d.crashed, 5) := by unfold DS.wr; rw [if_neg h1, if_neg (by omega), if_neg (by omega), if_pos h5]
            rw [e]
            have HBD := Aside0.mk h5
            clear e h1 h1f h2 h3 h4 g1 g2 g3 g4 g5 h5
            go_enter Tryz.func42, Tryz.ntmps42
            go_wp2_with (first | (go_at_call 67; refine (down_any HD.out).mono ?_; rw [HDN.out]; rintro e w' ⟨rfl, rfl⟩) | (go_at_call 68; refine (crashes_bad HD.out HBD.out).mono ?_; rintro e w1 ⟨rfl, hd1, hk1⟩; have HD1 := Aside0.mk hd1; have HK1 := Aside0.mk hk1; clear hd1 hk1))
            go_ret
            exact ⟨rfl, HD1.out.mono (fun k hk => .inl hk), HK1.out⟩
          · have h5f : d.bad = false := by simpa using h5
            have e : d.wr i b = ({ d.counted with P := d.P ++ [(i, b)] }, 0) := by unfold DS.wr; rw [if_neg h1, if_neg (by omega), if_neg (by omega), if_neg h5]
            have HOK := Aside0.mk (DS.wr_ok g5 i b)
            rw [e] at HOK ⊢
            have HBD := Aside0.mk h5f
            have HBL := Aside0.mk h2
            clear e h1 h1f h2 h3 h4 g1 g2 g3 g4 g5 h5 h5f
            go_enter Tryz.func42, Tryz.ntmps42
            go_upto_region 9 with (first | (go_at_call 67; refine (down_any HD.out).mono ?_; rw [HDN.out]; rintro e w' ⟨rfl, rfl⟩) | (go_at_call 68; refine (crashes_not HD.out HBD.out).mono ?_; rintro e w1 ⟨rfl, hd1, hk1⟩; have HD1 := Aside0.mk hd1; have HK1 := Aside0.mk hk1; clear hd1 hk1))
            clear hc0
            obtain ⟨vS1, vP1, vL1, ss1, q1, q2, q3, q4, q5⟩ := HD1.out
            have hL1 : g < w1.heap.size := (Array.getElem?_eq_some_iff.1 q1).1
            have HWB := HK1.out.size
            have hcg : w1.cell? ⟨g, 1, none⟩ = some vP1 := (blk_cell q1 1).trans rfl
            have Q1 := Aside0.mk q1
            have Q4 := Aside0.mk q4
            have Q2 := Aside0.mk q2
            have Q3 := Aside0.mk q3
            have HL1 := Aside0.mk hL1
            have HCL : Aside0 (bytes_Clone.f b = some b) := ⟨by rw [bytes_Clone.f, Option.bind_some, if_pos (by have := HBL.out; simp; omega), List.nil_append]⟩
            have HBB : Aside0 ((d.P.length + 1) * 32 ≤ 140737488355328) := ⟨by have := HP.out; omega⟩
            have HWS := Aside0.mk HWB
            clear q1 q2 q3 q4 q5 hL1 HWB
            go_region_law (first
              | (go_simp; go_at_call 53; (refine (bytes_Clone.calls A c b b _ ?s1 HC.out HCL.out).mono ?_); (case s1 => exact HR.out _ (HK1.out.drew).kept); rintro e w2 ⟨v0, rfl, ho, hb⟩; (obtain ⟨A0, c0, hv0, hlc0, hC0⟩ := Kd.R_reads ho); subst hv0; (have HB2 := Aside0.mk ((below_drew1 (Below.refl w1.heap.size w1)).trans hb)); (have HO2 := Aside0.mk ho); (have J1 := Aside0.mk (blk_below Q1.out HB2.out)); (have hcg2 : w2.cell? ⟨g, 1, none⟩ = some vP1 := (blk_cell J1.out 1).trans rfl); (have hcg2a : (w2.alloc (.cells #[.int .i64 i, .slice A0 b.length c0] 105)).cell? ⟨g, 1, none⟩ = some vP1 := (blk_cell (blk_alloc J1.out _) 1).trans rfl); (have J4 := Aside0.mk ((Q4.out.step (w1 := w2) (fun k _ hk => HB2.out.block k hk)).mono (ok' := fun k => (ok k ∨ w.heap.size ≤ k) ∧ k ≠ g) (fun k hk => ⟨.inl hk.1, hk.2⟩))); clear hb ho hlc0 hC0)
              | (refine Kd.R_append_step kW base (by simp [Region.wanted]) (.tmp 33) (.tmp 38) 49 105 _ 32 rfl Tryz.underlying49 info58 rfl (by decide) (by decide) vP1 d.P (i, b) [.int .i64 i, .slice A0 b.length c0] (fun k => ((ok k ∨ w.heap.size ≤ k) ∧ k ≠ g) ∧ k ∉ ss1) (fun k => w1.heap.size ≤ k ∧ k < w2.heap.size) (by simp [Act.eval, Act.put]) (by simp [Act.eval, Act.put]) ?a1 ?a2 ?a3 J4.out.2.2.2.2.2.1 (Below.refl base _) ?a4 HBB.out ?_; (case a1 => exact ⟨[.int .i64 i], [.slice A0 b.length c0], rfl, rfl, _, rfl, Kd.R_lower (Kd.R_mono (Kd.R_bound HO2.out) (fun k hk => ⟨hk.2.1, hk.2.2.1⟩)) (by have := HWS.out; show base ≤ w1.heap.size; omega)⟩); (case a2 => exact fun k hk => ⟨⟨⟨.inr (Nat.le_trans HWS.out hk.1), by have := HL1.out; omega⟩, fun e => by have := Q4.out.2.2.1.lt e; omega⟩, fun e => by obtain ⟨_, hown⟩ := Kd.R_own Q4.out.2.2.2.2.2.1; have := own_lt hown k e.symm; omega⟩); (case a3 => exact fun k hk => ⟨⟨.inr (by have := HWS.out; have := HB2.out.size; omega), by have := HL1.out; have := HB2.out.size; omega⟩, fun e => by have := Q4.out.2.2.1.lt e; have := HB2.out.size; omega⟩); (case a4 => have := HWS.out; have := HB2.out.size; omega); intro v1 w3 hO1 hB1 hG1 hA1; (obtain ⟨g1, cap1, hv1, hcap1⟩ := Kd.own_some hO1 (by simp)); (rw [List.length_append, List.length_singleton] at hv1); subst hv1; (have K4 := Aside0.mk (appended J4.out hG1 hO1)); (have K1 := Aside0.mk ((hG1.block g (by have := HL1.out; have := HB2.out.size; omega) (fun e => (J4.out.2.2.2.2.2.1.1 g e.symm).1.2 rfl)).trans J1.out)); (have hcg3 : w3.cell? ⟨g, 1, none⟩ = some vP1 := (blk_cell K1.out 1).trans rfl); (have hfg3 : w3.frozen? ⟨g, 1, none⟩ = false := blk_frozen K1.out 1); (have HK3 := Aside0.mk ((HK1.out.after HB2.out).grown hG1 (fun k hk => (J4.out.2.2.2.2.2.1.1 k hk).1.1))); clear hO1 hB1 hG1 hA1 hcap1))
            all_goals
              go_wp2
              go_ret
              exact ⟨rfl, ⟨vS1, _, vL1, ss1, blk_put K1.out 1 _ rfl, Q2.out, .inl Q3.out, K4.out.step (fun k hk _ => Below.heap_setCell _ _ _ _ hk.2), HOK.out⟩, HK3.out.setCell (.inl Q3.out) _⟩
    · have e : d.wr i b = (d, 1) := by unfold DS.wr; rw [if_neg h1, if_pos h2]
      have hl : ((b.length : Int) == 16) = false := by rw [beq_eq_false_iff_ne]; omega
      have hl2 : ((b.length : Int) != 16) = true := by rw [bne_iff_ne]; omega
      rw [e]
      clear e h h1 h1f h2
      go_enter Tryz.func42, Tryz.ntmps42
      go_wp2_with (go_at_call 67; refine (down_any HD.out).mono ?_; rw [HDN.out]; rintro e w' ⟨rfl, rfl⟩)
      go_ret
      exact ⟨rfl, HM.out, KeptB.refl _ _⟩

theorem lay_all {b s : List Int} (hb : b.length = 16) (hs : s.length = 16) : DS.lay b s 16 = b := by
  unfold DS.lay
  rw [List.take_of_length_le (by omega), List.drop_of_length_le (by omega), List.append_nil]
def FlInv (w wr : World) (base g : Nat) (ok : Nat → Prop) (d : DS) (vS vP vL : Value) (ss : List Nat) (k : Nat) (S' : List (List Int)) : Prop :=
  DS.flushed S' (d.P.drop k) = DS.flushed d.S d.P ∧ DS.Fit S' (d.P.drop k) ∧ wr.heap[g]? = some (.cells (dcells vS vP vL d) 51 (0, 0)) ∧ DiskIn wr base (fun k => ok k ∧ k ≠ g) vS vP vL S' d.P d.left ss ∧ KeptB ok w wr
set_option maxHeartbeats 4000000 in
set_option maxRecDepth 100000 in
theorem flush_any {w : World} {base g : Nat} {ok : Nat → Prop} {d0 : DS} (h : DiskAt w base ok g d0) :
    Calls Tryz.prog 43 #[.pointer (some ⟨g, 0, none⟩)] w fun e w' => e = .returned (.int .i64 d0.fl.2) ∧ DiskAt w' base ok g d0.fl.1 ∧ KeptB ok w w' := by
  have HD := Aside0.mk h
  by_cases h1 : d0.down = true
  · have e : d0.fl = (d0, 5) := by unfold DS.fl; rw [if_pos h1]
    have HDN := Aside0.mk h1
    rw [e]
    clear e h h1
    go_enter Tryz.func43, Tryz.ntmps43
    go_wp2_with (go_at_call 67; refine (down_any HD.out).mono ?_; rw [HDN.out]; rintro e w' ⟨rfl, rfl⟩)
    go_ret
    exact ⟨rfl, HD.out, KeptB.refl _ _⟩
  · have h1f : d0.down = false := by simpa using h1
    have HDN := Aside0.mk h1f
    by_cases h5 : d0.bad = true
    · have e : d0.fl = (d0.crashed, 5) := by unfold DS.fl; rw [if_neg h1, if_pos h5]
      have HBD := Aside0.mk h5
      rw [e]
      clear e h h1 h1f h5
      go_enter Tryz.func43, Tryz.ntmps43
      go_wp2_with (first | (go_at_call 67; refine (down_any HD.out).mono ?_; rw [HDN.out]; rintro e w' ⟨rfl, rfl⟩) | (go_at_call 68; refine (crashes_bad HD.out HBD.out).mono ?_; rintro e w1 ⟨rfl, hd1, hk1⟩; have HD1 := Aside0.mk hd1; have HK1 := Aside0.mk hk1; clear hd1 hk1))
      go_ret
      exact ⟨rfl, HD1.out, HK1.out⟩
    · have h5f : d0.bad = false := by simpa using h5
      have e : d0.fl = ({ d0.counted with S := DS.flushed d0.S d0.P, P := [] }, 0) := by unfold DS.fl; rw [if_neg h1, if_neg h5]
      have HOK := Aside0.mk (DS.fl_ok h.isOk)
      rw [e] at HOK ⊢
      have HBD := Aside0.mk h5f
      obtain ⟨d, hd⟩ : ∃ d, d = d0.counted := ⟨_, rfl⟩
      have hdS : d0.S = d.S := by rw [hd]; rfl
      have hdP : d0.P = d.P := by rw [hd]; rfl
      rw [← hd, hdS, hdP] at HOK ⊢
      have HDC := Aside0.mk hd
      clear e h h1 h1f h5 h5f hd hdS hdP
      go_enter Tryz.func43, Tryz.ntmps43
      go_upto_region 3 with (first | (go_at_call 67; refine (down_any HD.out).mono ?_; rw [HDN.out]; rintro e w' ⟨rfl, rfl⟩) | (go_at_call 68; refine (crashes_not HD.out HBD.out).mono ?_; rw [← HDC.out]; rintro e w1 ⟨rfl, hd1, hk1⟩; have HD1 := Aside0.mk hd1; have HK1 := Aside0.mk hk1; clear hd1 hk1))
      clear HD HBD HDN HDC
      obtain ⟨vS, vP, vL, ss, q1, q2, q3, q4, q5⟩ := HD1.out
      obtain ⟨A, c, rfl, hlc, hC⟩ := Kd.R_reads q4.2.2.2.2.2.1
      have hc1 : w1.cell? ⟨g, 1, none⟩ = some (.slice A d.P.length c) := (blk_cell q1 1).trans rfl
      have H2 := Aside0.mk q2
      have H3 := Aside0.mk q3
      have HI : Aside0 (FlInv w w1 base g ok d vS (.slice A d.P.length c) vL ss 0 d.S) := ⟨rfl, q5, q1, q4, HK1.out⟩
      clear q1 q2 q3 q4 q5 hlc hC HD1 HK1
      go_wp2
      go_loopw [16] (fun u16 wr => ∃ (k : Nat) (S' : List (List Int)), u16 = .int .i64 (k : Int) ∧ Aside0 (k ≤ d.P.length) ∧ Aside0 (FlInv w wr base g ok d vS (.slice A d.P.length c) vL ss k S')) (fun u16 _ => d.P.length + 1 - (intOf u16).toNat)
      case atStart => exact ⟨0, d.S, rfl, ⟨Nat.zero_le _⟩, HI⟩
      case round =>
        clear hc1 HI
        obtain ⟨k, S', rfl, HK, HI⟩ := hrel
        by_cases hlt : k < d.P.length
        · have hp : d.P.drop k = d.P.getD k (0, []) :: d.P.drop (k + 1) := by
            rw [List.drop_eq_getElem_cons hlt, List.getD_eq_getElem?_getD, List.getElem?_eq_getElem hlt]
            rfl
          obtain ⟨i1, i2, i3, i4, i5⟩ := HI.out
          rw [hp] at i1 i2
          obtain ⟨f1, f2, f3⟩ := i2.head
          obtain ⟨A', c', hv, hlc, hC⟩ := Kd.R_reads i4.2.2.2.2.2.1
          injection hv with hA hl0 hc0
          subst hA hc0
          clear hl0
          obtain ⟨ad, ad', cb, rfl, hx0, hx1, hcb, hCb⟩ := write_at hC k hlt f3
          obtain ⟨i, hi⟩ : ∃ i : Nat, (d.P.getD k (0, [])).1 = (i : Int) := ⟨(d.P.getD k (0, [])).1.toNat, by omega⟩
          have hiS : i < S'.length := by omega
          obtain ⟨kq, q, cap, hkq, rfl, hq, hsec⟩ := sec_value i4 i hiS
          generalize hpp : d.P.getD k (0, []) = p at *
          rw [hi] at hx0
          have hd : decide ((k : Int) < (d.P.length : Int)) = true := decide_eq_true (by omega)
          have hp8 : (k : Int) + 1 ≤ 9223372036854775807 := by have := hC.2.1; omega
          have hp1 : (0 : Int) ≤ (k : Int) := by omega
          have hp2 : (k : Int) < (d.P.length : Int) := by omega
          have hp3 : (0 : Int) ≤ (i : Int) := by omega
          have hp4 : (i : Int) < (S'.length : Int) := by omega
          have hlay : DS.lay p.2 (S'.getD i []) 16 = p.2 := lay_all f3 (DS.getD_len i2.1 hiS)
          have HSP : Aside0 (DS.flushed (S'.set i p.2) (d.P.drop (k + 1)) = DS.flushed d.S d.P) := ⟨by rw [← i1, DS.flushed, hi, Int.toNat_natCast]⟩
          have HFT : Aside0 (DS.Fit (S'.set i p.2) (d.P.drop (k + 1))) := ⟨i2.tail.set i f3⟩
          have HLY := Aside0.mk hlay
          have I2 := Aside0.mk i2
          have I3 := Aside0.mk i3
          have I4 := Aside0.mk i4
          have I5 := Aside0.mk i5
          have F3 := Aside0.mk f3
          have KQ := Aside0.mk hkq
          have CB := Aside0.mk hCb
          clear i1 i2 i3 i4 i5 f1 f2 f3 hlc hC hkq hCb hsec hpp hp HI hi hlay
          go_upto_region 6 with (fail)
          obtain ⟨W0, hW0⟩ : ∃ W0, W0 = wr.alloc (.cells #[.int .i64 (i : Int), .slice (some ad') 16 cb] 105) := ⟨_, rfl⟩
          have hWb : Below wr.heap.size wr W0 := by rw [hW0]; exact below_alloc (Below.refl _ _) _
          have hWn : W0.heap[wr.heap.size]? = some (.cells #[.int .i64 (i : Int), .slice (some ad') 16 cb] 105 (0, 0)) := by rw [hW0]; exact blk_new wr _
          rw [← hW0]
          clear hW0
          have J3 : W0.heap[g]? = some (.cells (dcells (.slice (some ⟨q, 0, none⟩) S'.length cap) (.slice (some ad) d.P.length c) vL d) 51 (0, 0)) := blk_below I3.out hWb
          have J4 : DiskIn W0.drew base (fun k => ok k ∧ k ≠ g) (.slice (some ⟨q, 0, none⟩) S'.length cap) (.slice (some ad) d.P.length c) vL S' d.P d.left ss := I4.out.step (fun k _ hk => hWb.block k hk)
          obtain ⟨hcp, J5, hokk, hbk, hltk⟩ := copied J4 I2.out.1 i kq 16 cb hiS KQ.out ad' p.2 F3.out (Nat.le_refl _) (Kd.C_below CB.out (hWb.trans (below_drew1 (Below.refl _ _)))) 3
          rw [HLY.out] at J5
          have hc0 : W0.cell? ⟨g, 0, none⟩ = some (.slice (some ⟨q, 0, none⟩) S'.length cap) := (blk_cell J3 0).trans rfl
          have hb0 : W0.cell? ⟨wr.heap.size, 0, none⟩ = some (.int .i64 (i : Int)) := (blk_cell hWn 0).trans rfl
          have hb1 : W0.cell? ⟨wr.heap.size, 1, none⟩ = some (.slice (some ad') 16 cb) := (blk_cell hWn 1).trans rfl
          have hq1 : W0.cell? ⟨q, i, none⟩ = some (.slice (some ⟨kq, 0, none⟩) 16 16) := pw_cell_below hWb hq
          unfold secV at hcp
          have HD := Aside0.mk (I5.out.then_ (KeptB.setCells (((KeptB.refl ok wr).after hWb).drew) (.inl hokk.1) (vs := (p.2.map (Value.int .u8)).take 16) (o := 0)) (fun _ hk => .inl hk))
          have J3d : (W0.drew.setCells kq 0 ((p.2.map (Value.int .u8)).take 16)).heap[g]? = some (.cells (dcells (.slice (some ⟨q, 0, none⟩) S'.length cap) (.slice (some ad) d.P.length c) vL d) 51 (0, 0)) := (setCells_far _ _ g (Ne.symm hokk.2)).trans J3
          have HINV : Aside0 (FlInv w (W0.drew.setCells kq 0 ((p.2.map (Value.int .u8)).take 16)) base g ok d (.slice (some ⟨q, 0, none⟩) S'.length cap) (.slice (some ad) d.P.length c) vL ss (k + 1) (S'.set i p.2)) := ⟨HSP.out, HFT.out, J3d, J5, HD.out⟩
          obtain ⟨vs, hvs⟩ : ∃ vs, vs = (p.2.map (Value.int .u8)).take 16 := ⟨_, rfl⟩
          rw [← hvs] at hcp HINV
          clear hvs J3 J4 J5 J3d hWn hWb hokk hbk hltk HD hq hx0 hx1 I2 I3 I4 I5 HSP HFT CB KQ F3 HLY
          go_region_law (refine Kd.step_copy_run rfl _ _ 52 52 rfl _ _ (by simp [Act.eval, Act.put]) (by simp [Act.eval, Act.put]) hcp ?_)
          all_goals
            go_wp2
            all_goals exact ⟨⟨k + 1, _, by go_num, ⟨by omega⟩, HINV⟩, by simp [intOf]; omega⟩
        · obtain rfl : k = d.P.length := by have := HK.out; omega
          obtain ⟨i1, i2, i3, i4, i5⟩ := HI.out
          rw [List.drop_of_length_le (Nat.le_refl _), DS.flushed] at i1
          subst i1
          have hd : decide ((d.P.length : Int) < (d.P.length : Int)) = false := decide_eq_false (by omega)
          have hf1 : wr.frozen? ⟨g, 1, none⟩ = false := blk_frozen i3 1
          have hc1 : wr.cell? ⟨g, 1, none⟩ = some (.slice A d.P.length c) := (blk_cell i3 1).trans rfl
          have hfin : DiskAt (wr.setCell ⟨g, 1, none⟩ (.slice none 0 0)) base ok g { d with S := DS.flushed d.S d.P, P := [] } ∧ KeptB ok w (wr.setCell ⟨g, 1, none⟩ (.slice none 0 0)) := by
            refine ⟨⟨vS, .slice none 0 0, vL, ss, blk_put i3 1 _ rfl, H2.out, H3.out, ?_, HOK.out⟩, i5.setCell (.inl H3.out) _⟩
            have h := i4.step (w1 := wr.setCell ⟨g, 1, none⟩ (.slice none 0 0)) (fun q hq _ => Below.heap_setCell _ _ _ _ hq.2)
            exact ⟨h.1, h.2.1, h.2.2.1, h.2.2.2.1, h.2.2.2.2.1, Kd.R_nil _ _ _ _ _, h.2.2.2.2.2.2⟩
          have HFIN := Aside0.mk hfin
          clear i2 i3 i4 i5 hlt HI hfin HK
          go_wp2
          go_ret
          exact ⟨rfl, HFIN.out⟩

def z16 : Array Value := ((List.replicate 16 (0 : Int)).map (Value.int .u8)).toArray
theorem make16 (W : World) : (Instr.makeSlice 52 (.int .i64 16) (.int .i64 16)).run Tryz.prog W = .ok (.slice (some ⟨W.heap.size, 0, none⟩) 16 16) (W.alloc (.cells z16 5)) := by
  have h := run_make_row' (P := Tryz.prog) 52 5 (.int .u8 0) 1 Tryz.underlying52 (by kernel_rfl) rfl .i64 .i64 16 (by decide) (by decide) W
  have e : madeCells #[.int .u8 0] 16 = z16 := by kernel_rfl
  rw [e] at h
  exact h
theorem info26 : (Tryz.prog.info? 52).map (fun i => (i.zero, i.size, i.bytes)) = some (some (.slice none 0 0), 1, 24) := by kernel_rfl
def NewInv (w wr : World) (k : Nat) : Prop :=
  ∃ (vS : Value) (ss : List Nat), wr.heap[w.heap.size]? = some (.cells (dcells vS (.slice none 0 0) (.slice none 0 0) (DS.new k)) 51 (0, 0)) ∧ DiskIn wr w.heap.size (fun q => w.heap.size ≤ q ∧ q ≠ w.heap.size) vS (.slice none 0 0) (.slice none 0 0) (DS.new k).S [] [] ss ∧ Below w.heap.size w wr
theorem new_step {w wr w1 : World} {k : Nat} {vS v1 : Value} {ss : List Nat} (h4 : DiskIn wr w.heap.size (fun q => w.heap.size ≤ q ∧ q ≠ w.heap.size) vS (.slice none 0 0) (.slice none 0 0) (DS.new k).S [] [] ss) (hlt : w.heap.size < wr.heap.size)
    (hO : w1.ownsRow w.heap.size 52 1 v1 (ss.length + 1) (ss.map secV ++ [secV wr.heap.size])) (hg : (wr.drew.alloc (.cells z16 5)).grownBy w1 vS.ownBlock) (hat : v1.ownBlock = vS.ownBlock ∨ ∃ b, v1.ownBlock = some b ∧ (wr.drew.alloc (.cells z16 5)).heap.size ≤ b) :
    DiskIn w1 w.heap.size (fun q => w.heap.size ≤ q ∧ q ≠ w.heap.size) v1 (.slice none 0 0) (.slice none 0 0) (DS.new (k + 1)).S [] [] (ss ++ [wr.heap.size]) := by
  have hsz : (wr.drew.alloc (.cells z16 5)).heap.size = wr.heap.size + 1 := by simp
  have hold : ∀ q, q < wr.heap.size → some q ≠ vS.ownBlock → w1.heap[q]? = wr.heap[q]? := fun q hq hne => (hg.block q (by omega) hne).trans (Below.heap_alloc wr.drew _ q hq)
  have hnss : ∀ q, q ∈ ss → some q ≠ vS.ownBlock := fun q hq e => (h4.2.1 q e.symm).2 hq
  have hnk : some wr.heap.size ≠ vS.ownBlock := fun e => by have := own_lt h4.1 _ e.symm; omega
  have hsec : SecAt w1 wr.heap.size (List.replicate 16 0) := (hg.block _ (by omega) hnk).trans (blk_new wr.drew _)
  refine ⟨by rw [List.length_append, List.length_singleton, List.map_append]; exact hO, fun q hq => ?_, ⟨?_, ?_⟩, ?_, ?_, Kd.R_nil _ _ _ _ _, Kd.R_nil _ _ _ _ _⟩
  · rcases hat with hat | ⟨b, hb, hle⟩
    · rw [hat] at hq
      refine ⟨(h4.2.1 q hq).1, fun e => ?_⟩
      rcases List.mem_append.1 e with e | e
      · exact (h4.2.1 q hq).2 e
      · rw [List.mem_singleton.1 e] at hq
        exact hnk hq.symm
    · rw [hb] at hq
      injection hq with hq
      subst hq
      refine ⟨⟨by omega, by omega⟩, fun e => ?_⟩
      rcases List.mem_append.1 e with e | e
      · have := h4.2.2.1.lt e; omega
      · have := List.mem_singleton.1 e; omega
  · rw [List.length_append, List.length_singleton, h4.2.2.1.1]
    simp [DS.new]
  · intro i q b hq hb
    have hS : (DS.new (k + 1)).S = (DS.new k).S ++ [List.replicate 16 0] := List.replicate_succ'
    rw [hS] at hb
    by_cases hi : i < ss.length
    · rw [List.getElem?_append_left hi] at hq
      rw [List.getElem?_append_left (by rw [← h4.2.2.1.1]; exact hi)] at hb
      have hm := List.mem_of_getElem? hq
      exact (hold q (h4.2.2.1.lt hm) (hnss q hm)).trans (h4.2.2.1.2 i q b hq hb)
    · rw [List.getElem?_append_right (by omega)] at hq
      rw [List.getElem?_append_right (by rw [← h4.2.2.1.1]; omega), ← h4.2.2.1.1] at hb
      cases hj : i - ss.length with
      | zero =>
        rw [hj] at hq hb
        simp at hq hb
        subst hq hb
        exact hsec
      | succ j => rw [hj] at hq; simp at hq
  · rw [List.nodup_append]
    exact ⟨h4.2.2.2.1, by simp, fun a ha b hb e => by have := h4.2.2.1.lt ha; have := List.mem_singleton.1 hb; omega⟩
  · intro q hq
    rcases List.mem_append.1 hq with hq | hq
    · exact h4.2.2.2.2.1 q hq
    · have := List.mem_singleton.1 hq
      exact ⟨by omega, by omega, by omega⟩
set_option maxHeartbeats 2000000 in
set_option maxRecDepth 100000 in
theorem new_any (n : Nat) (hn : n ≤ 4000) (w : World) :
    Calls Tryz.prog 4 #[.int .i64 (n : Int)] w fun e w' => e = .returned (.pointer (some ⟨w.heap.size, 0, none⟩)) ∧ DiskAt w' w.heap.size (fun k => w.heap.size ≤ k) w.heap.size (DS.new n) ∧ Below w.heap.size w w' := by
  have hd0 : decide ((n : Int) < 0) = false := decide_eq_false (by omega)
  have hd1 : decide ((n : Int) > 4000) = false := decide_eq_false (by omega)
  have hd2 : decide (4000 < n) = false := decide_eq_false (by omega)
  have hmk := make16
  have hn0 : (0 : Int) ≤ (n : Int) := by omega
  have hn1 : (n : Int) ≤ 4000 := by omega
  go_enter Tryz.func4, Tryz.ntmps4
  go_wp2
  go_loopw [13] (fun u wr => ∃ k : Nat, u = .int .i64 (k : Int) ∧ Aside0 (k ≤ n) ∧ Aside0 (NewInv w wr k)) (fun u _ => n + 1 - (intOf u).toNat)
  case atStart => exact ⟨0, rfl, ⟨Nat.zero_le _⟩, ⟨.slice none 0 0, [], blk_new w _, ⟨World.ownsRow_nil _ _ _ _, fun k hk => by simp [Value.ownBlock] at hk, ⟨rfl, fun i k b hk => by simp at hk⟩, by simp, fun k hk => by simp at hk, Kd.R_nil _ _ _ _ _, Kd.R_nil _ _ _ _ _⟩, below_alloc (Below.refl _ _) _⟩⟩
  case round =>
    obtain ⟨k, rfl, HK, HI⟩ := hrel
    obtain ⟨vS, ss, h1, h4, hb⟩ := HI.out
    by_cases hlt : k < n
    · have hd : decide ((k : Int) < (n : Int)) = true := decide_eq_true (by omega)
      have hd3 : decide (k < n) = true := decide_eq_true hlt
      have hgl : w.heap.size < wr.heap.size := (Array.getElem?_eq_some_iff.1 h1).1
      have hc0 : wr.cell? ⟨w.heap.size, 0, none⟩ = some vS := (blk_cell h1 0).trans rfl
      have hk1 : (k : Int) + 1 ≤ 4000 := by omega
      have hk0 : (0 : Int) ≤ (k : Int) := by omega
      have hssl : ss.length = k := by rw [h4.2.2.1.1]; simp [DS.new]
      have hcA : (wr.alloc (.cells z16 5)).cell? ⟨w.heap.size, 0, none⟩ = some vS := (blk_cell (blk_alloc h1 _) 0).trans rfl
      have hcB : ((wr.alloc (.cells z16 5)).alloc (.cells #[.slice (some ⟨wr.heap.size, 0, none⟩) 16 16] 52)).cell? ⟨w.heap.size, 0, none⟩ = some vS := (blk_cell (blk_alloc (blk_alloc h1 _) _) 0).trans rfl
      have G1 := Aside0.mk h1
      have G4 := Aside0.mk h4
      have GB := Aside0.mk hb
      have GL := Aside0.mk hgl
      have SSL := Aside0.mk hssl
      have HKN := Aside0.mk hlt
      clear h1 h4 hb HI hgl hssl hlt
      go_upto_region 6 with (fail)
      go_region_law (refine step_append_cells (w0 := wr.drew.alloc (.cells z16 5)) w.heap.size (by simp [Region.wanted]) (.tmp 19) (.tmp 21) 48 52 _ 1 24 rfl Tryz.underlying48 info26 rfl (by decide) (by decide) vS ss.length (ss.map secV) [.slice (some ⟨wr.heap.size, 0, none⟩) 16 16] (by simp [Act.eval, Act.put]) (by simp [Act.eval, Act.put]) rfl (by simp [Value.oneCell']) ?a1 (Below.refl _ _) ?a2 ?a3 ?_; (case a1 => exact own_move G4.out.1 (fun q hq => Below.heap_alloc wr.drew _ q (own_lt G4.out.1 q hq))); (case a2 => have := GL.out; simp; omega); (case a3 => have := SSL.out; have := HKN.out; omega); intro v1 w1 hO1 hB1 hG1 hA1; (have hO1' := Aside0.mk hO1); (rw [SSL.out] at hO1); (obtain ⟨g1, cap1, hv1⟩ : ∃ g1 cap1, v1 = .slice (some ⟨g1, 0, none⟩) (k + 1) cap1 := by rcases hO1.2 with ⟨_, h0⟩ | ⟨g1, cap1, _, e, _⟩; (· omega); (· exact ⟨g1, cap1, e⟩)); subst hv1; (have K4 := Aside0.mk (new_step G4.out GL.out hO1'.out hG1 hA1)); (have K1 := Aside0.mk ((hG1.block w.heap.size (by have := GL.out; simp; omega) (fun e => (G4.out.2.1 _ e.symm).1.2 rfl)).trans (blk_alloc (blk_drew G1.out) (.cells z16 5)))); (have hcg3 : w1.cell? ⟨w.heap.size, 0, none⟩ = some vS := (blk_cell K1.out 0).trans rfl); (have hfg3 : w1.frozen? ⟨w.heap.size, 0, none⟩ = false := blk_frozen K1.out 0); (have HB3 := Aside0.mk (((GB.out.drew).alloc (by have := GL.out; show w.heap.size ≤ wr.heap.size; omega) (.cells z16 5)).grown hG1 (by have := GL.out; simp; omega) (fun q hq => own_base G4.out.1 q hq))); clear hO1 hO1' hB1 hG1 hA1)
      all_goals
        go_wp2
        all_goals exact ⟨⟨k + 1, by go_num, ⟨by have := HKN.out; omega⟩, ⟨_, ss ++ [wr.heap.size], blk_put K1.out 0 _ rfl, K4.out.step (fun q hq _ => Below.heap_setCell _ _ _ _ hq.2), HB3.out.setCell (Nat.le_refl _) _⟩⟩, by have := HKN.out; simp [intOf]; omega⟩
    · obtain rfl : k = n := by have := HK.out; omega
      have hd : decide ((k : Int) < (k : Int)) = false := decide_eq_false (by omega)
      have HF : Aside0 (DiskAt wr w.heap.size (fun q => w.heap.size ≤ q) w.heap.size (DS.new k) ∧ Below w.heap.size w wr) := ⟨⟨vS, .slice none 0 0, .slice none 0 0, ss, h1, Nat.le_refl _, Nat.le_refl _, h4, DS.new_ok k⟩, hb⟩
      clear h1 h4 hb HI hlt
      go_wp2
      go_ret
      exact ⟨rfl, HF.out⟩

attribute [local go_sem] Oper.semAt_some
/-- What a pending write's cells are: a place, and where its bytes lie. -/
structure PW where
  i : Int
  a : Addr
  c : Nat
def PW.val (p : PW) : Value := .agg #[.int .i64 p.i, .slice (some p.a) 16 p.c]
/-- The rows of pending writes that lie at ad. -/
def PAt (n₀ n : Nat) (W : World) (ad : Addr) (pw : Nat → PW) : Prop := ad.block < n₀ ∧ ∀ j, j < n → W.cell? (ad.add (j * 2)) = some (.int .i64 (pw j).i) ∧ W.cell? ⟨(ad.add (j * 2)).block, (ad.add (j * 2)).off + 1, none⟩ = some (.slice (some (pw j).a) 16 (pw j).c)
theorem add_block (a : Addr) (j : Nat) : (a.add j).block = a.block := by unfold Addr.add; split <;> rfl
theorem PAt.below {n₀ n : Nat} {W W' : World} {ad : Addr} {pw : Nat → PW} (h : PAt n₀ n W ad pw) (hb : Below n₀ W W') : PAt n₀ n W' ad pw :=
  ⟨h.1, fun j hj => ⟨(hb.cell (by rw [add_block]; exact h.1)).trans (h.2 j hj).1, (hb.cell (p := ⟨(ad.add (j * 2)).block, (ad.add (j * 2)).off + 1, none⟩) (by show (ad.add (j * 2)).block < n₀; rw [add_block]; exact h.1)).trans (h.2 j hj).2⟩⟩
def dn (n k : Nat) : List Nat := (List.range k).map fun t => n - 1 - t
theorem dn_succ (n k : Nat) : dn n (k + 1) = dn n k ++ [n - 1 - k] := by unfold dn; rw [List.range_succ, List.map_append]; rfl
theorem dn_len (n k : Nat) : (dn n k).length = k := by unfold dn; rw [List.length_map, List.length_range]
set_option maxRecDepth 100000 in
set_option maxHeartbeats 2000000 in
theorem back1_in (F : Fence) (f : Nat) (hF : F.fn 78) (hro : F.round = none) (hf : 1 ≤ f) (l Bs n₀ n c : Nat) (A : Option Addr) (pw : Nat → PW) (hn : n ≤ 9223372036854775807) (J Jx : List { j : Nat // j < n } → World → Prop)
    (hY : ∀ pre (x : { j : Nat // j < n }) W, J pre W → pre.length < n → YieldAt F (f - 1) Tryz.prog l #[.int .i64 (x.1 : Int), (pw x.1).val] W fun e W' =>
      (e = .returned (.bool true) ∧ J (pre ++ [x]) W' ∧ Below n₀ W W') ∨ (e = .returned (.bool false) ∧ Jx (pre ++ [x]) W'))
    (W : World) (hBs : W.cell? ⟨Bs, 0, none⟩ = some (.slice A n c)) (hBn : ∀ W', Below n₀ W W' → W'.cell? ⟨Bs, 0, none⟩ = some (.slice A n c)) (hA : 0 < n → ∃ ad, A = some ad ∧ PAt n₀ n W ad pw) (h0 : J [] W) :
    CallsIn F f Tryz.prog 78 #[.func (.yield l) #[] #[], .pointer (some ⟨Bs, 0, none⟩)] W fun e W' => (∃ v, e = .returned v) ∧
      ((∃ ys, ys.map (·.1) = dn n n ∧ J ys W') ∨ (∃ pre, (∃ k, k ≤ n ∧ pre.map (·.1) = dn n k) ∧ Jx pre W')) := by
  refine callsIn_of_wp Tryz.func78 rfl hF ?_ hro
  simp only [Tryz.ntmps78, List.size_toArray, List.length_cons, List.length_nil, Nat.reduceAdd, Nat.reduceSub, Array.replicate_succ, Array.replicate_zero, List.push_toArray, List.append_toArray, List.nil_append, List.cons_append]
  have hw0 : IntKind.i64.wrap ((n : Int) - 1) = (n : Int) - 1 := by rw [IntKind.wrap_i64]; omega
  have hw1 : wrap64 ((n : Int) - 1) = (n : Int) - 1 := by unfold wrap64; omega
  gi_wp2
  clear hBs
  gi_loopw [3] (fun i wr => ∃ (m k : Nat) (pre : List { j : Nat // j < n }), k + m = n ∧ pre.map (·.1) = dn n k ∧ i = .int .i64 ((m : Int) - 1) ∧ J pre wr ∧ Below n₀ W wr) (fun i _ => (intOf i + 1).toNat)
  case atStart => exact ⟨n, 0, [], by omega, rfl, rfl, h0, Below.refl _ _⟩
  case round =>
    obtain ⟨m, k, pre, hmk, hpre, rfl, hJs, hnx⟩ := hrel
    have hcB := hBn wr hnx
    cases m with
    | zero =>
      have hd : decide (((0 : Nat) : Int) - 1 ≥ 0) = false := by decide
      obtain rfl : k = n := by omega
      gi_wp2
      go_end0
      exact ⟨⟨_, rfl⟩, .inl ⟨pre, hpre, hJs⟩⟩
    | succ m =>
      have e1 : (((m + 1 : Nat) : Int) - 1) = (m : Int) := by omega
      rw [e1]
      obtain ⟨ad, rfl, hP⟩ := hA (by omega)
      obtain ⟨hx0, hx1⟩ := (hP.below hnx).2 m (by omega)
      have hmn : m < n := by omega
      have hd : decide ((m : Int) ≥ 0) = true := decide_eq_true (by omega)
      have hd2 : decide ((0 : Int) ≤ (m : Int)) = true := decide_eq_true (by omega)
      have hp1 : (0 : Int) ≤ (m : Int) := by omega
      have hp2 : (m : Int) < (n : Int) := by omega
      have hlen : pre.length < n := by have := congrArg List.length hpre; rw [List.length_map, dn_len] at this; omega
      obtain ⟨fn, tmps, assign, body, hy, hR⟩ := hY pre ⟨m, hmn⟩ wr hJs hlen
      dsimp only at hy
      unfold PW.val at hy
      have hw2 : IntKind.i64.wrap ((m : Int) - 1) = (m : Int) - 1 := by rw [IntKind.wrap_i64]; omega
      have hw3 : wrap64 ((m : Int) - 1) = (m : Int) - 1 := by unfold wrap64; omega
      have hpre2 : (pre ++ [(⟨m, hmn⟩ : { j : Nat // j < n })]).map (·.1) = dn n (k + 1) := by rw [List.map_append, hpre, dn_succ]; congr 1; simp; omega
      have HP2 := Aside0.mk hpre2
      clear hpre hpre2 e1
      gi_wp2
      refine hR.mono ?_
      rintro e W3 (⟨rfl, hJ3, hk3⟩ | ⟨rfl, hJx3⟩)
      · gi_wp2
        go_roundw
        case rel => exact ⟨m, k + 1, _, by omega, HP2.out, rfl, hJ3, hnx.trans hk3⟩
        case measure => first | (simp [intOf]; done) | (simp [intOf]; omega)
      · gi_wp2
        refine bodyPost_ret (results_none rfl _ _ _) rfl ?_
        exact ⟨⟨_, rfl⟩, .inr ⟨_, ⟨k + 1, by omega, HP2.out⟩, hJx3⟩⟩

attribute [local go_sem] Oper.semAt_some
theorem back_any (A : Option Addr) (n c : Nat) (w : World) : Calls Tryz.prog 73 #[.slice A n c] w fun e w' => e = .returned (.func (.func 78) #[] #[.pointer (some ⟨w.heap.size, 0, none⟩)]) ∧ w' = w.alloc (.cells #[.slice A n c] 49) := by
  have hmf : ∀ (fn : Fn) (first cap : Array Value) (w : World), (Instr.makeFunc fn first cap).run Tryz.prog w = .ok (.func fn first cap) w := fun _ _ _ _ => rfl
  go_enter Tryz.func73, Tryz.ntmps73
  go_wp2
  go_ret
  exact ⟨rfl, rfl⟩
theorem back_stops (f : Nat) (hf : 1 ≤ f) (Bs n₀ n c : Nat) (A : Option Addr) (pw : Nat → PW) (hn : n ≤ 9223372036854775807) (w : World) (hBs : w.cell? ⟨Bs, 0, none⟩ = some (.slice A n c)) (hB : Bs < n₀) (hn₀ : n₀ ≤ w.heap.size) (hA : 0 < n → ∃ ad, A = some ad ∧ PAt n₀ n w ad pw) :
    SeqStopsK Fence.wide f Tryz.prog 78 #[.pointer (some ⟨Bs, 0, none⟩)] (fun x : { j : Nat // j < n } => #[Value.int .i64 (x.1 : Int), (pw x.1).val]) (Below n₀) (fun ys => ys.map (·.1) = dn n n) (fun pre => ∃ k, k ≤ n ∧ pre.map (·.1) = dn n k) n w := fun l J Jx W hW _ _ hY h0 => by
  have hWn : Below n₀ w W := hW.mono hn₀
  exact back1_in Fence.wide f trivial rfl hf l Bs n₀ n c A pw hn J Jx hY W ((hWn.cell (p := ⟨Bs, 0, none⟩) hB).trans hBs) (fun W' hW' => ((hWn.trans hW').cell (p := ⟨Bs, 0, none⟩) hB).trans hBs) (fun h => by obtain ⟨ad, e, hp⟩ := hA h; exact ⟨ad, e, hp.below hWn⟩) h0
theorem pw_of {w : World} {base : Nat} {ok : Nat → Prop} {vS vP vL : Value} {ss : List Nat} {S : List (List Int)} {P : List (Int × List Int)} {L : List Int} (h : DiskIn w base ok vS vP vL S P L ss) (hf : DS.Fit S P) :
    ∃ (A : Option Addr) (c : Nat) (pw : Nat → PW), vP = .slice A P.length c ∧ P.length ≤ 9223372036854775807 ∧ (0 < P.length → ∃ ad, A = some ad ∧ PAt w.heap.size P.length w ad pw) ∧ ∀ j, j < P.length → (pw j).i = (P.getD j (0, [])).1 ∧ 16 ≤ (pw j).c ∧ (Kd.int .u8).C w (some (pw j).a) (P.getD j (0, [])).2.length (P.getD j (0, [])).2 := by
  obtain ⟨A, c, hv, hlc, hC⟩ := Kd.R_reads h.2.2.2.2.2.1
  have each : ∀ j, j < P.length → ∃ p : PW, ∃ ad, A = some ad ∧ w.cell? (ad.add (j * 2)) = some (.int .i64 p.i) ∧ w.cell? ⟨(ad.add (j * 2)).block, (ad.add (j * 2)).off + 1, none⟩ = some (.slice (some p.a) 16 p.c) ∧ p.i = (P.getD j (0, [])).1 ∧ 16 ≤ p.c ∧ (Kd.int .u8).C w (some p.a) (P.getD j (0, [])).2.length (P.getD j (0, [])).2 := fun j hj => by
    have hb : (P.getD j (0, [])).2.length = 16 := by
      have hm : P.getD j (0, []) ∈ P := by rw [List.getD_eq_getElem?_getD, List.getElem?_eq_getElem hj]; exact List.getElem_mem hj
      exact (hf.2 _ hm).2.2
    obtain ⟨ad, ad', c', e, h1, h2, h3, h4⟩ := write_at hC j hj hb
    exact ⟨⟨(P.getD j (0, [])).1, ad', c'⟩, ad, e, h1, h2, rfl, h3, h4⟩
  refine ⟨A, c, fun j => if hj : j < P.length then Classical.choose (each j hj) else ⟨0, ⟨0, 0, none⟩, 0⟩, hv, hC.2.1, fun h0 => ?_, fun j hj => ?_⟩
  · obtain ⟨ad, e, _⟩ := Classical.choose_spec (each 0 h0)
    refine ⟨ad, e, ?_, fun j hj => ?_⟩
    · obtain ⟨_, e2, h1, _⟩ := Classical.choose_spec (each 0 h0)
      rw [e] at e2
      injection e2 with e2
      subst e2
      have := World.block_lt_of_cell? w _ h1
      rwa [add_block] at this
    · obtain ⟨_, e2, h1, h2, _⟩ := Classical.choose_spec (each j hj)
      rw [e] at e2
      injection e2 with e2
      subst e2
      simp only [dif_pos hj]
      exact ⟨h1, h2⟩
  · obtain ⟨_, _, _, _, h3, h4, h5⟩ := Classical.choose_spec (each j hj)
    simp only [dif_pos hj]
    exact ⟨h3, h4, h5⟩
theorem lastP_none (i : Int) : ∀ (P : List (Int × List Int)), (∀ j, j < P.length → (P.getD j (0, [])).1 ≠ i) → DS.lastP i P = none
  | [], _ => rfl
  | p :: P, h => by
    rw [DS.lastP, lastP_none i P (fun j hj => by have := h (j + 1) (by simpa using hj); simpa using this), if_neg (by have := h 0 (by simp); simpa using this)]
    rfl
theorem lastP_at (i : Int) : ∀ (P : List (Int × List Int)) (m : Nat), m < P.length → (P.getD m (0, [])).1 = i → (∀ j, m < j → j < P.length → (P.getD j (0, [])).1 ≠ i) → DS.lastP i P = some (P.getD m (0, [])).2
  | [], m, h, _, _ => by simp at h
  | p :: P, 0, h, e, hn => by
    rw [DS.lastP, lastP_none i P (fun j hj => by have := hn (j + 1) (by omega) (by simpa using hj); simpa using this), if_pos (by simpa using e)]
    rfl
  | p :: P, m + 1, h, e, hn => by
    rw [DS.lastP, lastP_at i P m (by simpa using h) (by simpa using e) (fun j h1 h2 => by have := hn (j + 1) (by omega) (by simpa using h2); simpa using this)]
    simp

attribute [local go_sem] Oper.semAt_some
set_option maxHeartbeats 1000000 in
theorem read_out {w : World} {base g : Nat} {ok : Nat → Prop} {d : DS} (h : DiskAt w base ok g d) (i : Int) (hi : i < 0 ∨ (d.S.length : Int) ≤ i) :
    Calls Tryz.prog 51 #[.pointer (some ⟨g, 0, none⟩), .int .i64 i] w fun e w' => ∃ v0, e = .returned v0 ∧ (Kd.int .u8).R 5 w' w.heap.size (fun _ => True) v0 [] ∧ Below w.heap.size w w' := by
  obtain ⟨vS, vP, vL, ss, h1, h2, h3, h4, h5⟩ := h
  obtain ⟨AS, cS, hv⟩ := slice_of h4
  subst hv
  have hc0 : w.cell? ⟨g, 0, none⟩ = some (.slice AS d.S.length cS) := (blk_cell h1 0).trans rfl
  have hgl : g < w.heap.size := (Array.getElem?_eq_some_iff.1 h1).1
  have hB : Aside0 (Below w.heap.size w ((w.alloc (.cells #[.int .i64 i] 3)).alloc (.cells #[.slice none 0 0] 52))) := ⟨below_alloc (below_alloc (Below.refl _ _) _) _⟩
  have hne1 : g ≠ w.heap.size := by omega
  have hne2 : g ≠ w.heap.size + 1 := by omega
  clear h1 h2 h3 h4 h5
  by_cases h0 : i < 0
  · have hd : decide (i < 0) = true := decide_eq_true h0
    clear hi
    go_enter Tryz.func51, Tryz.ntmps51
    go_wp2_with fail
    go_quiet (fail)
    go_wp2
    refine bodyPost_ret (v := .slice none 0 0) (by simp [results, Tryz.results51, go_sem]) rfl ⟨_, rfl, Kd.R_nil _ _ _ _ _, ?_⟩
    exact below_set (pw_below_drewN hB.out _) (Nat.le_succ _)
  · have hd : decide (i < 0) = false := decide_eq_false h0
    have hd1 : decide ((d.S.length : Int) ≤ i) = true := decide_eq_true (by omega)
    have hd2 : decide (i ≥ (d.S.length : Int)) = true := decide_eq_true (by omega)
    clear hi
    go_enter Tryz.func51, Tryz.ntmps51
    go_wp2_with fail
    go_quiet (fail)
    go_wp2
    refine bodyPost_ret (v := .slice none 0 0) (by simp [results, Tryz.results51, go_sem]) rfl ⟨_, rfl, Kd.R_nil _ _ _ _ _, ?_⟩
    exact below_set (pw_below_drewN hB.out _) (Nat.le_succ _)
theorem R_ownK {α : Type} {d : Kd α} {e base : Nat} {ok : Nat → Prop} {v : Value} {xs : List α} {W W' : World} {row : Option Nat} (h : d.R e W base ok v xs) (hg : W.grownBy W' row) (hr : ∀ r, row = some r → ∃ o : Obj, W.heap[r]? = some o ∧ o.isCells = false) : d.R e W' base ok v xs :=
  Kd.R_mono (Kd.R_grown (Kd.R_bound h) hg (fun k hk e => by
    obtain ⟨_, _, _, q, _, cells, hc⟩ := hk
    obtain ⟨o, ho, hoc⟩ := hr k e.symm
    rw [hc] at ho
    injection ho with ho
    subst ho
    cases hoc)) (fun _ hk => hk.1)
set_option maxHeartbeats 4000000 in
set_option maxRecDepth 100000 in
theorem read_in {w : World} {base g : Nat} {ok : Nat → Prop} {d : DS} (h : DiskAt w base ok g d) (i : Nat) (hi : i < d.S.length) :
    Calls Tryz.prog 51 #[.pointer (some ⟨g, 0, none⟩), .int .i64 (i : Int)] w fun e w' => ∃ v0, e = .returned v0 ∧ (Kd.int .u8).R 5 w' w.heap.size (fun _ => True) v0 (d.rd (i : Int)) ∧ Below w.heap.size w w' := by
  have hrd : d.rd (i : Int) = (DS.lastP (i : Int) d.P).getD (d.S.getD i []) := by unfold DS.rd; rw [if_pos (by omega), Int.toNat_natCast]
  obtain ⟨vS, vP, vL, ss, h1, h2, h3, h4, h5⟩ := h
  obtain ⟨A, c, pw, rfl, hPn, hA, hpw⟩ := pw_of h4 h5
  obtain ⟨kq, q, cap, hkq, rfl, hq, hsec⟩ := sec_value h4 i hi
  have hS16 : (d.S.getD i []).length = 16 := DS.getD_len h5.1 hi
  have hc0 : w.cell? ⟨g, 0, none⟩ = some (.slice (some ⟨q, 0, none⟩) d.S.length cap) := (blk_cell h1 0).trans rfl
  have hc1 : w.cell? ⟨g, 1, none⟩ = some (.slice A d.P.length c) := (blk_cell h1 1).trans rfl
  have hgl : g < w.heap.size := (Array.getElem?_eq_some_iff.1 h1).1
  have hne1 : g ≠ w.heap.size := by omega
  have hne2 : g ≠ w.heap.size + 1 := by omega
  have hd : decide ((i : Int) < 0) = false := decide_eq_false (by omega)
  have hd1 : decide ((d.S.length : Int) ≤ (i : Int)) = false := decide_eq_false (by omega)
  have hd2 : decide ((i : Int) ≥ (d.S.length : Int)) = false := decide_eq_false (by omega)
  have hd3 : decide (d.S.length ≤ i) = false := decide_eq_false (by omega)
  obtain ⟨sb, hsb⟩ : ∃ sb, sb = d.S.getD i [] := ⟨_, rfl⟩
  rw [← hsb] at hsec hS16 hrd
  have HPW := Aside0.mk hpw
  have HA := Aside0.mk hA
  have HRD := Aside0.mk hrd
  have H16 := Aside0.mk hS16
  have HSEC := Aside0.mk hsec
  have HP5 := Aside0.mk h5
  have HPN := Aside0.mk hPn
  have HQ := Aside0.mk hq
  have HI := Aside0.mk hi
  clear h1 h2 h3 h4 h5 hpw hA hrd hS16 hsec hPn hkq hsb
  rw [HRD.out]
  refine (callsIn_wide (n := 6)).1 (callsIn_of_wp_marks Tryz.func51 rfl trivial ?_ rfl)
  simp only [Tryz.ntmps51, List.size_toArray, List.length_cons, List.length_nil, Nat.reduceAdd, Nat.reduceSub, Array.replicate_succ, Array.replicate_zero, List.push_toArray, List.append_toArray, List.nil_append, List.cons_append]
  refine wpIn_wide.2 ?_
  go_wp2_with fail
  go_quiet (fail)
  go_wp2_with (go_at_call 73; refine (back_any _ _ _ _).mono ?_; rintro e w' ⟨rfl, rfl⟩)
  obtain ⟨W0, hW0⟩ : ∃ W0, W0 = (((w.alloc (.cells #[.int .i64 (i : Int)] 3)).alloc (.cells #[.slice none 0 0] 52)).drewN nq).alloc (.cells #[.slice A d.P.length c] 49) := ⟨_, rfl⟩
  have hB0 : Below w.heap.size w W0 := by rw [hW0]; exact below_alloc (pw_below_drewN (below_alloc (below_alloc (Below.refl _ _) _) _) _) _
  have hsz : W0.heap.size = w.heap.size + 1 + 1 + 1 := by rw [hW0]; simp
  have b1 : Boxed W0 w.heap.size 3 (.int .i64 (i : Int)) := by rw [hW0]; exact blk_alloc (blk_drewN (blk_alloc (blk_new w _) _) nq) _
  have b2 : Boxed W0 (w.heap.size + 1) 52 (.slice none 0 0) := by rw [hW0]; exact blk_alloc (blk_drewN (by have := blk_new (w.alloc (.cells #[.int .i64 (i : Int)] 3)) (.cells #[.slice none 0 0] 52); rwa [World.size_alloc] at this) nq) _
  have b3 : W0.cell? ⟨w.heap.size + 1 + 1, 0, none⟩ = some (.slice A d.P.length c) := by
    rw [hW0]
    have := blk_new (((w.alloc (.cells #[.int .i64 (i : Int)] 3)).alloc (.cells #[.slice none 0 0] 52)).drewN nq) (.cells #[.slice A d.P.length c] 49)
    have e : (((w.alloc (.cells #[.int .i64 (i : Int)] 3)).alloc (.cells #[.slice none 0 0] 52)).drewN nq).heap.size = w.heap.size + 1 + 1 := by simp
    rw [e] at this
    exact blk_cell this 0
  rw [← hW0]
  clear hW0
  have hA0 : 0 < d.P.length → ∃ ad, A = some ad ∧ PAt W0.heap.size d.P.length W0 ad pw := fun h0 => by
    obtain ⟨ad, e, hp⟩ := HA.out h0
    have hp2 := hp.below hB0
    exact ⟨ad, e, by have := hp2.1; omega, hp2.2⟩
  refine (wpIn_wide (n := 6)).1 ?_
  refine wpIn_rangeFunc_ownH rfl (by omega) (gf := 78) (lb := #[.pointer (some ⟨w.heap.size + 1 + 1, 0, none⟩)]) rfl trivial (enters_of Tryz.func78 (by kernel_rfl) rfl)
    (back_stops 5 (by omega) (w.heap.size + 1 + 1) W0.heap.size d.P.length c A pw HPN.out W0 b3 (by omega) (Nat.le_refl _) hA0) belowK_t (belowK_b (Nat.le_refl _)) (Below.refl _ _) (fun _ => rfl)
    (fun pre W => ((∀ x, x ∈ pre → (pw x.1).i ≠ (i : Int)) ∧ Boxed W w.heap.size 3 (.int .i64 (i : Int)) ∧ Boxed W (w.heap.size + 1) 52 (.slice none 0 0)) ∧ Below W0.heap.size W0 W)
    (fun c pre W => (c = .ret ∧ ∃ ini last v, pre = ini ++ [last] ∧ (∀ x, x ∈ ini → (pw x.1).i ≠ (i : Int)) ∧ (pw last.1).i = (i : Int) ∧ Boxed W (w.heap.size + 1) 52 v ∧ (Kd.int .u8).R 5 W w.heap.size (fun _ => True) v (d.P.getD last.1 (0, [])).2) ∧ Below w.heap.size w W)
    (OwnFrom.and (Own.from (fun s X Y row hs hg hr => ⟨hs.1, boxed_own w.heap.size 3 (fun (_ : Unit) => Value.int .i64 (i : Int)) () X Y row hs.2.1 hg hr, boxed_own (w.heap.size + 1) 52 (fun (_ : Unit) => Value.slice none 0 0) () X Y row hs.2.2 hg hr⟩) _) (ownFrom_below (Nat.le_refl _) (Nat.le_refl _)))
    (fun c => OwnFrom.and (Own.from (fun s X Y row hs hg hr => by obtain ⟨hc, ini, last, v, e1, e2, e3, e4, e5⟩ := hs; exact ⟨hc, ini, last, v, e1, e2, e3, boxed_own (w.heap.size + 1) 52 (fun (_ : Unit) => v) () X Y row e4 hg hr, R_ownK e5 hg hr⟩) _) (ownFrom_below (Nat.le_refl _) (by omega)))
    ⟨⟨(fun x hx => by cases hx), b1, b2⟩, Below.refl _ _⟩
    (fun x a' W => ∃ Bx, W0.heap.size ≤ Bx ∧ W.heap[Bx]? = some (.cells #[.int .i64 (pw x.1).i, .slice (some (pw x.1).a) 16 (pw x.1).c] 105 (0, 0)) ∧ a' = { tmps := #[.pointer (some ⟨g, 0, none⟩), .int .i64 (i : Int), undef, .pointer (some ⟨w.heap.size, 0, none⟩), .pointer (some ⟨w.heap.size + 1, 0, none⟩), undef, .pointer (some ⟨Bx, 0, none⟩), .pointer (some ⟨g, 0, none⟩), .bool false, .bool false, .int .i64 (i : Int), .bool false, .bool false, .bool false, .int .i64 (i : Int), .pointer (some ⟨g, 0, none⟩), .pointer (some ⟨g, 0, none⟩), .pointer (some ⟨g, 0, none⟩), .slice (some ⟨q, 0, none⟩) d.S.length cap, .int .i64 (d.S.length : Int), .bool false, .bool false, .pointer (some ⟨g, 0, none⟩), .pointer (some ⟨g, 0, none⟩), .pointer (some ⟨g, 1, none⟩), .slice A d.P.length c, .func (.func 78) #[] #[.pointer (some ⟨w.heap.size + 1 + 1, 0, none⟩)], .int .i64 (x.1 : Int), (pw x.1).val, undef, undef, undef, undef, undef, undef, undef, undef, undef, undef, undef, undef, undef, undef, undef], defers := [] })
    (fun x a' _ X Y row hs hg hr => by obtain ⟨Bx, h1, h2, h3⟩ := hs; exact ⟨Bx, h1, (hg.block Bx (Array.getElem?_eq_some_iff.1 h2).1 (fun e => by obtain ⟨_, o, ho, hoc⟩ := hr Bx e.symm; rw [h2] at ho; injection ho with ho; subst ho; cases hoc)).trans h2, h3⟩)
    ?assign ?body ?done ?stop
  case assign =>
    rintro l pre x W K ⟨⟨hp, c1, c2⟩, hB⟩ hK
    unfold PW.val
    gi_wp2
    exact hK _ _ ((KeepsOthers.alloc _ _).from _) ((Below.refl _ W).alloc hB.size _) ⟨⟨hp, c1.alloc _, c2.alloc _⟩, hB.alloc hB.size _⟩ ⟨W.heap.size, hB.size, blk_new W _, rfl⟩
  case body =>
    rintro l pre x a' W hl ⟨r, hr⟩ ⟨⟨hp, c1, c2⟩, hB⟩ ⟨Bx, hBx, bX, rfl⟩ hlt
    have cI := c1.cell
    have cR := c2.cell
    have fR := c2.frozen
    have cX0 : W.cell? ⟨Bx, 0, none⟩ = some (.int .i64 (pw x.1).i) := (blk_cell bX 0).trans rfl
    have cX1 : W.cell? ⟨Bx, 1, none⟩ = some (.slice (some (pw x.1).a) 16 (pw x.1).c) := (blk_cell bX 1).trans rfl
    have h1' : 1 ≤ 6 - 1 - 1 := by omega
    by_cases hx : (pw x.1).i = (i : Int)
    · have hb : ((pw x.1).i == (i : Int)) = true := by rw [hx]; simp
      obtain ⟨q1, q2, q3⟩ := HPW.out x.1 x.2
      have hl16 : (d.P.getD x.1 (0, [])).2.length = 16 := by
        have hm : d.P.getD x.1 (0, []) ∈ d.P := by rw [List.getD_eq_getElem?_getD, List.getElem?_eq_getElem x.2]; exact List.getElem_mem x.2
        exact (HP5.out.2 _ hm).2.2
      have HCL : Aside0 (bytes_Clone.f (d.P.getD x.1 (0, [])).2 = some (d.P.getD x.1 (0, [])).2) := ⟨by rw [bytes_Clone.f, Option.bind_some, if_pos (by simp only [List.length_nil, Nat.zero_add]; omega), List.nil_append]⟩
      have HC3 := Aside0.mk (Kd.C_below q3 ((hB0.trans (hB.mono (by omega)))))
      have HL16 := Aside0.mk hl16
      have HQ2 := Aside0.mk q2
      have HX := Aside0.mk hx
      have HPR := Aside0.mk hp
      have HBW := Aside0.mk (hB0.trans (hB.mono (by omega)))
      have HC2 := Aside0.mk c2
      have HSZ := Aside0.mk hB.size
      clear q1 q2 q3 hl16 hp hx
      gi_wp2_with (refine ⟨trivial, ?_⟩; gi_at_call 53; refine (CallsIn.inRound l (callsIn_wide.2 (by have h := bytes_Clone.calls (some (pw x.1).a) (pw x.1).c (d.P.getD x.1 (0, [])).2 (d.P.getD x.1 (0, [])).2 W HC3.out (by have := HQ2.out; have := HL16.out; omega) HCL.out; rw [HL16.out] at h; exact h))).mono ?_; rintro e w2 ⟨v0, rfl, ho, hb2⟩; have HO2 := Aside0.mk ho; have HB2 := Aside0.mk hb2; have cR2 : w2.cell? ⟨w.heap.size + 1, 0, none⟩ = some (.slice none 0 0) := (blk_cell (blk_below HC2.out HB2.out) 0).trans rfl; have fR2 : w2.frozen? ⟨w.heap.size + 1, 0, none⟩ = false := blk_frozen (blk_below HC2.out HB2.out) 0; obtain ⟨A0, c0, hv0, -, -⟩ := Kd.R_reads ho; subst hv0; clear ho hb2)
      have hKF : KeepsFrom W0.heap.size W w2 := ⟨HB2.out.size, fun k o _ hk _ => (HB2.out.block k (Array.getElem?_eq_some_iff.1 hk).1).trans hk⟩
      have hR : (Kd.int .u8).R 5 (w2.setCell ⟨w.heap.size + 1, 0, none⟩ (.slice A0 (d.P.getD x.1 (0, [])).2.length c0)) w.heap.size (fun _ => True) (.slice A0 (d.P.getD x.1 (0, [])).2.length c0) (d.P.getD x.1 (0, [])).2 :=
        Kd.R_mono (Kd.R_far (p := ⟨w.heap.size + 1, 0, none⟩) (ok := fun k => W.heap.size ≤ k) (Kd.R_lower (Kd.R_mono (Kd.R_bound HO2.out) (fun k hk => hk.2.1)) (by have := HSZ.out; omega)) (fun k hk => by have := HSZ.out; show k ≠ w.heap.size + 1; omega) _) (fun _ _ => trivial)
      exact ⟨hKF.trans ((KeepsOthers.setCell _ _ _).from _), ⟨rfl, pre, x, _, rfl, HPR.out, HX.out, Boxed.set _ (blk_below HC2.out HB2.out), hR⟩, ((below_step HBW.out HB2.out).setCell (p := ⟨w.heap.size + 1, 0, none⟩) (Nat.le_succ _) _)⟩
    · have hb : ((pw x.1).i == (i : Int)) = false := beq_eq_false_iff_ne.2 hx
      have HX := Aside0.mk hx
      clear hx
      gi_wp2
      exact ⟨KeepsFrom.refl _ _, Below.refl _ _, ⟨fun y hy => (List.mem_append.1 hy).elim (hp y) (fun e => by rw [List.mem_singleton.1 e]; exact HX.out), c1, c2⟩, hB⟩
  case done =>
    rintro D ys W hD hys ⟨⟨hne, c1, c2⟩, hB⟩ hK
    have hno : DS.lastP (i : Int) d.P = none := lastP_none _ _ (fun j hj => by
      have hm : j ∈ ys.map (fun x => x.1) := by
        rw [hys, dn, List.mem_map]
        exact ⟨d.P.length - 1 - j, List.mem_range.2 (by omega), by omega⟩
      obtain ⟨x, hx, e⟩ := List.mem_map.1 hm
      have h1 := hne x hx
      rw [e, (HPW.out j hj).1] at h1
      exact h1)
    have hBw := hB0.trans (hB.mono (by omega))
    have cI := c1.cell
    have cR := c2.cell
    have fR := c2.frozen
    have hg0 : W.cell? ⟨g, 0, none⟩ = some (.slice (some ⟨q, 0, none⟩) d.S.length cap) := pw_cell_below hBw hc0
    have hq0 : W.cell? ⟨q, i, none⟩ = some (.slice (some ⟨kq, 0, none⟩) 16 16) := pw_cell_below hBw hq
    have hp3 : (0 : Int) ≤ (i : Int) := by omega
    have hp4 : (i : Int) < (d.S.length : Int) := by omega
    have HCS : Aside0 ((Kd.int .u8).C W (some ⟨kq, 0, none⟩) sb.length sb) := ⟨Kd.C_below (Kd.C_int_cells HSEC.out rfl (by have := H16.out; omega)) hBw⟩
    have HCL : Aside0 (bytes_Clone.f sb = some sb) := ⟨by rw [bytes_Clone.f, Option.bind_some, if_pos (by have := H16.out; simp only [List.length_nil, Nat.zero_add]; omega), List.nil_append]⟩
    have HC2 := Aside0.mk c2
    have HBW := Aside0.mk hBw
    have HDK := Aside0.mk hK
    have HDD := Aside0.mk hD
    have HSZ := Aside0.mk hsz
    have HNO := Aside0.mk hno
    have HW0 := Aside0.mk hB.size
    clear hno hne hys c1 c2 hK hBw hB hD hsz b1 b2 b3 hA0 hB0 hc0 hq
    go_upto_region 7 with (fail)
    refine wp_region_noPanic ?_
    go_region_law (go_simp; go_at_call 53; refine (show Calls Tryz.prog 53 #[.slice (some ⟨kq, 0, none⟩) 16 16] W.drew (fun e w' => ∃ v0_ : Value, e = .returned v0_ ∧ (Kd.int .u8).R 5 w' W.heap.size (fun _ => True) v0_ sb ∧ Below W.heap.size W w') from (by have h := bytes_Clone.calls (some ⟨kq, 0, none⟩) 16 sb sb W.drew (Kd.C_below HCS.out (below_drew1 (Below.refl _ _))) (Nat.le_of_eq H16.out) HCL.out; rw [H16.out] at h; exact h.mono (fun e w' ⟨v, h1, h2, h3⟩ => ⟨v, h1, h2, (below_drew1 (Below.refl _ _)).trans h3⟩))).mono ?_; rintro e w2 ⟨v0, rfl, ho, hb2⟩; have HO2 := Aside0.mk ho; have HB2 := Aside0.mk hb2; have cR2 : w2.cell? ⟨w.heap.size + 1, 0, none⟩ = some (.slice none 0 0) := (blk_cell (blk_below HC2.out HB2.out) 0).trans rfl; have fR2 : w2.frozen? ⟨w.heap.size + 1, 0, none⟩ = false := blk_frozen (blk_below HC2.out HB2.out) 0; obtain ⟨A0, c0, hv0, -, -⟩ := Kd.R_reads ho; subst hv0; clear ho hb2)
    all_goals
      refine NoPanic.normal ?_
      go_wp2
      have hK2 : (w2.setCell ⟨w.heap.size + 1, 0, none⟩ (.slice A0 sb.length c0)).heap[D]? = some (.deferred (some [])) := (Below.heap_setCell _ _ _ _ (by have := HSZ.out; have := HDD.out; show D ≠ w.heap.size + 1; omega)).trans (blk_below HDK.out HB2.out)
      have hbx : Boxed (w2.setCell ⟨w.heap.size + 1, 0, none⟩ (.slice A0 sb.length c0)) (w.heap.size + 1) 52 (.slice A0 sb.length c0) := Boxed.set _ (blk_below HC2.out HB2.out)
      have hR : (Kd.int .u8).R 5 (w2.setCell ⟨w.heap.size + 1, 0, none⟩ (.slice A0 sb.length c0)) w.heap.size (fun _ => True) (.slice A0 sb.length c0) sb :=
        Kd.R_mono (Kd.R_far (p := ⟨w.heap.size + 1, 0, none⟩) (ok := fun k => W.heap.size ≤ k) (Kd.R_lower (Kd.R_mono (Kd.R_bound HO2.out) (fun k hk => hk.2.1)) (by have := HW0.out; have := HSZ.out; omega)) (fun k hk => by have := HW0.out; have := HSZ.out; show k ≠ w.heap.size + 1; omega) _) (fun _ _ => trivial)
      have hgP := grownBy_putObj' (w2.setCell ⟨w.heap.size + 1, 0, none⟩ (.slice A0 sb.length c0)) D (.deferred none)
      have hrP : ∀ r, some D = some r → ∃ o : Obj, (w2.setCell ⟨w.heap.size + 1, 0, none⟩ (.slice A0 sb.length c0)).heap[r]? = some o ∧ o.isCells = false := fun r e => by cases e; exact ⟨_, hK2, rfl⟩
      refine ⟨by simp, .inl ⟨_, _, rfl, run_takeDeferred hK2, ?_⟩⟩
      have hc5 := cell_kept hbx.cell hgP hrP
      refine ⟨.slice A0 sb.length c0, ?_, _, rfl, ?_, ?_⟩
      · simp [results, Tryz.f51, go_sem] at hc5 ⊢
        rw [hc5]
      · rw [HNO.out]
        exact R_ownK hR hgP hrP
      · exact ((below_step HBW.out HB2.out).setCell (p := ⟨w.heap.size + 1, 0, none⟩) (Nat.le_succ _) _).trans (belowK_b (w := w) (Nat.le_refl _) _ D _ _ (by have := HSZ.out; have := HDD.out; omega) hK2 rfl rfl)
  case stop =>
    rintro D cx pre W hD ⟨k, hk, hpre⟩ ⟨⟨rfl, ini, last, v, e1, e2, e3, hbx, hR⟩, hB⟩ hK
    have hlast : DS.lastP (i : Int) d.P = some (d.P.getD last.1 (0, [])).2 := by
      have hpm : ini.map (fun x => x.1) ++ [last.1] = dn d.P.length k := by rw [← hpre, e1, List.map_append]; rfl
      obtain ⟨k', rfl⟩ : ∃ k', k = k' + 1 := by
        cases k with
        | zero => simp [dn] at hpm
        | succ k' => exact ⟨k', rfl⟩
      rw [dn_succ] at hpm
      obtain ⟨e5, e6⟩ := List.append_inj' hpm rfl
      have e7 : last.1 = d.P.length - 1 - k' := by simpa using e6
      refine lastP_at _ _ last.1 last.2 ((HPW.out last.1 last.2).1.symm.trans e3) (fun j h1 h2 => ?_)
      have hm : j ∈ ini.map (fun x => x.1) := by
        rw [e5, dn, List.mem_map]
        exact ⟨d.P.length - 1 - j, List.mem_range.2 (by omega), by omega⟩
      obtain ⟨x, hx, e⟩ := List.mem_map.1 hm
      have h3 := e2 x hx
      rw [e, (HPW.out j h2).1] at h3
      exact h3
    refine wpIn_wide.2 ?_
    go_wp2
    have hgP := grownBy_putObj' W D (.deferred none)
    have hrP : ∀ r, some D = some r → ∃ o : Obj, W.heap[r]? = some o ∧ o.isCells = false := fun r e => by cases e; exact ⟨_, hK, rfl⟩
    refine ⟨by simp, .inl ⟨_, _, rfl, run_takeDeferred hK, ?_⟩⟩
    have hc5 := cell_kept hbx.cell hgP hrP
    refine ⟨v, ?_, _, rfl, ?_, ?_⟩
    · simp [results, Tryz.f51, go_sem] at hc5 ⊢
      rw [hc5]
    · rw [hlast]
      exact R_ownK hR hgP hrP
    · exact hB.trans (belowK_b (w := w) (Nat.le_refl _) W D _ _ (by omega) hK rfl rfl)
theorem read_any {w : World} {base g : Nat} {ok : Nat → Prop} {d : DS} (h : DiskAt w base ok g d) (i : Int) :
    Calls Tryz.prog 51 #[.pointer (some ⟨g, 0, none⟩), .int .i64 i] w fun e w' => ∃ v0, e = .returned v0 ∧ (Kd.int .u8).R 5 w' w.heap.size (fun _ => True) v0 (d.rd i) ∧ Below w.heap.size w w' := by
  by_cases hi : 0 ≤ i ∧ i < (d.S.length : Int)
  · obtain ⟨m, rfl⟩ : ∃ m : Nat, i = (m : Int) := ⟨i.toNat, by omega⟩
    exact read_in h m (by omega)
  · have e : d.rd i = [] := by unfold DS.rd; rw [if_neg hi]
    rw [e]
    exact read_out h i (by omega)

/-! What a law needs: a disk of its own and rows beside it. -/
/-- A disk at g, made since w0; no block of it is among xs. -/
def St (w0 : World) (xs : List Nat) (W : World) (g : Nat) (d : DS) : Prop :=
  DiskAt W w0.heap.size (fun k => w0.heap.size ≤ k ∧ k ∉ xs) g d ∧ Below w0.heap.size w0 W ∧ ∀ x, x ∈ xs → x < W.heap.size
def Sm (xs : List Nat) (W W' : World) : Prop := ∀ x, x ∈ xs → W'.heap[x]? = W.heap[x]?
theorem St.after {w0 W W' : World} {xs : List Nat} {g : Nat} {d : DS} (h : St w0 xs W g d) (hb : Below W.heap.size W W') : St w0 xs W' g d :=
  ⟨h.1.below hb, h.2.1.trans (hb.mono h.2.1.size), fun x hx => Nat.lt_of_lt_of_le (h.2.2 x hx) hb.size⟩
theorem St.drew {w0 W : World} {xs : List Nat} {g : Nat} {d : DS} (h : St w0 xs W g d) : St w0 xs W.drew g d := h.after (below_drew1 (Below.refl _ _))
theorem St.more {w0 W W' : World} {xs : List Nat} {g : Nat} {d : DS} (h : St w0 xs W g d) (hb : Below W.heap.size W W') (x : Nat) (h1 : W.heap.size ≤ x) (h2 : x < W'.heap.size) : St w0 (x :: xs) W' g d :=
  ⟨(h.1.bound.mono (ok' := fun k => w0.heap.size ≤ k ∧ k ∉ x :: xs) (fun k hk => ⟨hk.1.1, fun e => (List.mem_cons.1 e).elim (fun e => by have := hk.2.2.1; omega) hk.1.2⟩)).below hb, h.2.1.trans (hb.mono h.2.1.size),
    fun y hy => (List.mem_cons.1 hy).elim (fun e => by rw [e]; exact h2) (fun e => Nat.lt_of_lt_of_le (h.2.2 y e) hb.size)⟩
theorem St.kept {w0 W W' : World} {xs : List Nat} {g : Nat} {d d' : DS} (h : St w0 xs W g d) (hd : DiskAt W' w0.heap.size (fun k => (w0.heap.size ≤ k ∧ k ∉ xs) ∨ W.heap.size ≤ k) g d') (hk : KeptB (fun k => w0.heap.size ≤ k ∧ k ∉ xs) W W') : St w0 xs W' g d' ∧ Sm xs W W' :=
  ⟨⟨hd.mono (fun k hk2 => hk2.elim id (fun e => ⟨Nat.le_trans h.2.1.size e, fun ex => by have := h.2.2 k ex; omega⟩)), hk.below h.2.1 h.2.1.size (fun _ e => e.1), fun x hx => Nat.lt_of_lt_of_le (h.2.2 x hx) hk.size⟩,
    fun x hx => hk.block x (h.2.2 x hx) (fun e => e.2 hx)⟩
theorem St.kept2 {w0 W W' : World} {xs : List Nat} {g : Nat} {d d' : DS} (h : St w0 xs W g d) (hd : DiskAt W' w0.heap.size (fun k => w0.heap.size ≤ k ∧ k ∉ xs) g d') (hk : KeptB (fun k => w0.heap.size ≤ k ∧ k ∉ xs) W W') : St w0 xs W' g d' ∧ Sm xs W W' := h.kept (hd.mono (fun _ e => .inl e)) hk
theorem st_new (n : Nat) (hn : n ≤ 4000) (w0 w : World) (hb : Below w0.heap.size w0 w) (xs : List Nat) (hx : ∀ x, x ∈ xs → x < w.heap.size) :
    Calls Tryz.prog 4 #[.int .i64 (n : Int)] w fun e w' => e = .returned (.pointer (some ⟨w.heap.size, 0, none⟩)) ∧ St w0 xs w' w.heap.size (DS.new n) ∧ Sm xs w w' :=
  (new_any n hn w).mono fun e w' ⟨h1, h2, h3⟩ => ⟨h1, ⟨(h2.lower hb.size).mono (fun k hk => ⟨Nat.le_trans hb.size hk, fun e => by have := hx k e; omega⟩), hb.trans (h3.mono hb.size), fun x e => Nat.lt_of_lt_of_le (hx x e) h3.size⟩, fun x e => h3.block x (hx x e)⟩
theorem st_flush {w0 W : World} {xs : List Nat} {g : Nat} {d : DS} (h : St w0 xs W g d) :
    Calls Tryz.prog 43 #[.pointer (some ⟨g, 0, none⟩)] W fun e w' => e = .returned (.int .i64 d.fl.2) ∧ St w0 xs w' g d.fl.1 ∧ Sm xs W w' :=
  (flush_any h.1).mono fun e w' ⟨h1, h2, h3⟩ => ⟨h1, h.kept2 h2 h3⟩
theorem st_restart {w0 W : World} {xs : List Nat} {g : Nat} {d : DS} (h : St w0 xs W g d) :
    Calls Tryz.prog 11 #[.pointer (some ⟨g, 0, none⟩)] W fun e w' => e = .returned (.tuple #[]) ∧ St w0 xs w' g d.restart ∧ Sm xs W w' :=
  (restart_any h.1).mono fun e w' ⟨h1, h2, h3⟩ => ⟨h1, h.kept2 h2 h3⟩
theorem st_arm {w0 W : World} {xs : List Nat} {g : Nat} {d : DS} (h : St w0 xs W g d) (a : Int) (A : Option Addr) (c : Nat) (l : List S58) (hr : Kd.C k58 W A l.length l) (hc : l.length ≤ c) (hl : l.length < 17592186044416) :
    Calls Tryz.prog 7 #[.pointer (some ⟨g, 0, none⟩), .agg #[.int .i64 a, .slice A l.length c]] W fun e w' => e = .returned (.tuple #[]) ∧ St w0 xs w' g (d.arm a (l.map fun x => x.f0)) ∧ Sm xs W w' :=
  (arm_any h.1 a A c l hr hc hl).mono fun e w' ⟨h1, h2, h3⟩ => ⟨h1, h.kept h2 h3⟩
theorem st_read {w0 W : World} {xs : List Nat} {g : Nat} {d : DS} (h : St w0 xs W g d) (i : Int) :
    Calls Tryz.prog 51 #[.pointer (some ⟨g, 0, none⟩), .int .i64 i] W fun e w' => ∃ v0, e = .returned v0 ∧ (Kd.int .u8).R 5 w' W.heap.size (fun _ => True) v0 (d.rd i) ∧ St w0 xs w' g d ∧ Sm xs W w' ∧ Below W.heap.size W w' :=
  (read_any h.1 i).mono fun e w' ⟨v0, h1, h2, h3⟩ => ⟨v0, h1, h2, h.after h3, fun x hx => h3.block x (h.2.2 x hx), h3⟩
theorem st_size {w0 W : World} {xs : List Nat} {g : Nat} {d : DS} (h : St w0 xs W g d) :
    Calls Tryz.prog 21 #[.pointer (some ⟨g, 0, none⟩)] W fun e w' => e = .returned (.int .i64 (d.S.length : Int)) ∧ W = w' := size_any h.1
/-! No disk at all. -/
/-! A whole sector of some bytes. -/
def wh (l : List Int) : List Int := l.take 16 ++ List.replicate (16 - l.length) 0
theorem wh_copied' (w : World) (g : Nat) (hg : w.heap[g]? = some (.cells z16 5 (0, 0))) (A : Option Addr) (c : Nat) (l : List Int) (ty : TypeId) (hC : (Kd.int .u8).C w A l.length l) :
    (Builtin.copy_ #[52, 52] ty #[.slice (some ⟨g, 0, none⟩) 16 16, .slice A l.length c]).run Tryz.prog w = .ok (goInt (Nat.min l.length 16)) (w.setCells g 0 ((l.take 16).map (Value.int .u8))) ∧ SecAt (w.setCells g 0 ((l.take 16).map (Value.int .u8))) g (wh l) := by
  have hlen : ((l.take 16).map (Value.int .u8)).length = Nat.min l.length 16 := by rw [List.length_map, List.length_take]; exact Nat.min_comm _ _
  have hsz : z16.size = 16 := by kernel_rfl
  have hmin : Nat.min l.length 16 ≤ 16 := Nat.min_le_right _ _
  obtain ⟨cur', h1, h2, h3⟩ := setCells_row ((l.take 16).map (Value.int .u8)) 0 w _ hg (by rw [hlen, hsz]; omega)
  refine ⟨?_, ?_⟩
  · cases A with
    | none =>
      have h0 : l = [] := by
        cases l with
        | nil => rfl
        | cons a r => obtain ⟨ad, e, _⟩ := hC.2.2 (by simp); cases e
      subst h0
      exact run_copy_none w _ _ ty 5 _ _ 16 16 _ c Tryz.underlying52 size5 rfl
    | some ad =>
      exact Kd.run_copy_cells_sz w _ _ ty 5 g 0 16 16 ad l.length c (Nat.min l.length 16) 1 _ Tryz.underlying52 size5 rfl (by rw [hlen, Nat.mul_one]) (fun j v hj => by
          have hjn : j < Nat.min l.length 16 := by rw [← hlen]; exact (List.getElem?_eq_some_iff.1 hj).1
          have hjl : j < l.length := Nat.lt_of_lt_of_le hjn (Nat.min_le_left _ _)
          obtain ⟨ad', e, hc⟩ := Kd.at_int hC (j : Int) (by omega) (by omega)
          injection e with e
          subst e
          rw [Int.toNat_natCast] at hc
          rw [hc, ← hj, List.getElem?_map, List.getElem?_take, if_pos (by omega), rd, Int.toNat_natCast, List.getD_eq_getElem?_getD, List.getElem?_eq_getElem hjl]
          rfl)
        (fun j hj => by rw [Nat.zero_add, cell_of_row w g j _ _ (0, 0) hg, Array.getElem?_eq_getElem (by rw [hsz]; rw [hlen] at hj; omega)]; rfl) (fun j hj => blk_frozen hg _) (fun v hv => by obtain ⟨x, _, rfl⟩ := List.mem_map.1 hv; rfl)
  · show _ = _
    rw [h1]
    congr 2
    apply Array.toList_inj.1
    rw [h3, hlen, wh]
    have e : ((l.take 16) ++ List.replicate (16 - l.length) 0).map (Value.int .u8) = (l.take 16).map (Value.int .u8) ++ (List.replicate (16 - l.length) 0).map (Value.int .u8) := List.map_append
    rw [List.toList_toArray, e, z16]
    have hm : 16 - Nat.min l.length 16 = 16 - l.length := by rw [show Nat.min l.length 16 = min l.length 16 from rfl]; omega
    simp
    show List.drop _ (List.replicate 16 (Value.int .u8 0)) = _
    rw [List.drop_replicate, hm]
theorem wh_copied (w : World) (g : Nat) (hg : w.heap[g]? = some (.cells z16 5 (0, 0))) (A : Option Addr) (c : Nat) (l : List Int) (ty : TypeId) (hC : (Kd.int .u8).C w A l.length l) :
    (Builtin.copy_ #[52, 52] ty #[.slice (some ⟨g, 0, none⟩) 16 16, .slice A l.length c]).run Tryz.prog w = .ok (goInt (Nat.min l.length 16)) (w.setCells g 0 ((l.map (Value.int .u8)).take 16)) ∧ SecAt (w.setCells g 0 ((l.map (Value.int .u8)).take 16)) g (wh l) := by
  rw [← List.map_take]
  exact wh_copied' w g hg A c l ty hC
attribute [local go_sem] Oper.semAt_some
/-- A fresh row of bytes has a block of its own. -/
theorem R_plain {e base : Nat} {ok : Nat → Prop} {w : World} {v : Value} {b : List Int} (h : (Kd.int .u8).R e w base ok v b) (hn : 0 < b.length) :
    ∃ q c, v = .slice (some ⟨q, 0, none⟩) b.length c ∧ b.length ≤ c ∧ base ≤ q ∧ q < w.heap.size ∧ w.frozen? ⟨q, 0, none⟩ = false ∧ (Kd.int .u8).C w (some ⟨q, 0, none⟩) b.length b ∧ ∀ i : Nat, i < b.length → w.cell? ⟨q, i, none⟩ = some (.int .u8 (b.getD i 0)) := by
  obtain ⟨q, c, hv, hlc⟩ := Kd.own_some h hn
  obtain ⟨A', c', hv', hlc', hC⟩ := Kd.R_reads h
  rw [hv] at hv'
  injection hv' with e1 _ e2
  subst e1
  have hob : v.ownBlock = some q := by rw [hv]; rfl
  obtain ⟨cells, hce⟩ := own_typed h.2.choose_spec.1 q hob
  refine ⟨q, c, hv, hlc, own_base h.2.choose_spec.1 q hob, own_lt h.2.choose_spec.1 q hob, blk_frozen hce 0, hC, fun i hi => ?_⟩
  obtain ⟨ad, e3, hx⟩ := Kd.at_int hC (i : Int) (by omega) (by omega)
  injection e3 with e3
  subst e3
  rw [Int.toNat_natCast, Kd.add_plain2, Nat.zero_add] at hx
  rw [hx, rd, Int.toNat_natCast]
end Go.Proofs.YtkicekddkgehoaaGreatDoor.Dsk
