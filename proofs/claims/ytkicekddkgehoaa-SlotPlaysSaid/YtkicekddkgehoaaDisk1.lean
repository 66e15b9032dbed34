/- Contracts of the calls, by hand. -/
import Derived.Test.YtkicekddkgehoaaQSlotLastx1
import Derived.Test.YtkicekddkgehoaaWDisk
namespace Go.Proofs.Ytkicekddkgehoaa.Hnd
open Go.RowKit Go.Proofs.Ytkicekddkgehoaa.QSlotLast Go.Proofs.YtkicekddkgehoaaW.PrintWords Go.Proofs.YtkicekddkgehoaaW.PrintLast Go.Proofs.YtkicekddkgehoaaW.Dk 
set_option linter.unusedVariables false
set_option linter.unusedSimpArgs false
/-! A disk's calls. -/
theorem ret_i {k : IntKind} {a b : Int} (h : a = b) : Ending.returned (.int k a) = .returned (.int k b) := by rw [h]
theorem R_iso {α β : Type} {d : Kd α} {f : β → α} {e base : Nat} {ok : Nat → Prop} {w : World} {v : Value} {xs : List β} (h : (Kd.iso d f).R e w base ok v xs) : d.R e w base ok v (xs.map f) := by
  obtain ⟨h0, inner, ho, hr⟩ := h
  refine ⟨h0, inner, by rw [List.length_map]; exact ho, ?_⟩
  have : ∀ (ps : List β) (cs : List Value), Reps ((Kd.iso d f).M w base (fun k => ok k ∧ some k ≠ v.ownBlock)) (Kd.iso d f).sz ps cs → Reps (d.M w base (fun k => ok k ∧ some k ≠ v.ownBlock)) d.sz (ps.map f) cs := by
    intro ps cs h
    refine ⟨by rw [List.length_map]; exact h.1, fun j p hj => ?_⟩
    rw [List.getElem?_map] at hj
    cases hp : ps[j]? with
    | none => rw [hp] at hj; cases hj
    | some q =>
      rw [hp] at hj
      injection hj with hj
      subst hj
      exact h.2 j q hp
  exact this xs inner hr
theorem slice_of {w : World} {base : Nat} {ok : Nat → Prop} {vS vP vL : Value} {S : List (List Int)} {P : List (Int × List Int)} {L : List Int} {ss : List Nat} (h : DiskIn w base ok vS vP vL S P L ss) : ∃ A c, vS = .slice A S.length c := by
  rcases h.1.2 with ⟨rfl, h0⟩ | ⟨g, cap, cur, rfl, _⟩
  · exact ⟨none, 0, by rw [← h.2.2.1.1, h0]⟩
  · exact ⟨_, _, by rw [h.2.2.1.1]⟩
theorem down_nil (w : World) : Calls Try.prog 48 #[.pointer none] w fun e w' => e = .returned (.bool true) ∧ w = w' := by
  go_enter Try.func48, Try.ntmps48
  go_wp2
  go_ret
  exact ⟨rfl, rfl⟩
theorem down_any {w : World} {base g : Nat} {ok : Nat → Prop} {d : DS} (h : DiskAt w base ok g d) : Calls Try.prog 48 #[.pointer (some ⟨g, 0, none⟩)] w fun e w' => e = .returned (.bool d.down) ∧ w = w' := by
  obtain ⟨vS, vP, vL, ss, h1, h2, h3, h4, h5⟩ := h
  have hc : w.cell? ⟨g, 3, none⟩ = some (.bool d.down) := (blk_cell h1 3).trans rfl
  clear h1 h2 h3 h4 h5
  go_enter Try.func48, Try.ntmps48
  go_wp2
  go_ret
  exact ⟨rfl, rfl⟩
theorem ops_any {w : World} {base g : Nat} {ok : Nat → Prop} {d : DS} (h : DiskAt w base ok g d) : Calls Try.prog 11 #[.pointer (some ⟨g, 0, none⟩)] w fun e w' => e = .returned (.int .i64 d.N) ∧ w = w' := by
  obtain ⟨vS, vP, vL, ss, h1, h2, h3, h4, h5⟩ := h
  have hc : w.cell? ⟨g, 2, none⟩ = some (.int .i64 d.N) := (blk_cell h1 2).trans rfl
  clear h1 h2 h3 h4 h5
  go_enter Try.func11, Try.ntmps11
  go_wp2
  go_ret
  exact ⟨rfl, rfl⟩
theorem size_any {w : World} {base g : Nat} {ok : Nat → Prop} {d : DS} (h : DiskAt w base ok g d) : Calls Try.prog 29 #[.pointer (some ⟨g, 0, none⟩)] w fun e w' => e = .returned (.int .i64 (d.S.length : Int)) ∧ w = w' := by
  obtain ⟨vS, vP, vL, ss, h1, h2, h3, h4, h5⟩ := h
  obtain ⟨A, c, hv⟩ := slice_of h4
  subst hv
  have hc : w.cell? ⟨g, 0, none⟩ = some (.slice A d.S.length c) := (blk_cell h1 0).trans rfl
  clear h1 h2 h3 h4 h5
  go_enter Try.func29, Try.ntmps29
  go_wp2
  go_ret
  exact ⟨rfl, rfl⟩
theorem keep_any {w : World} {base g : Nat} {ok : Nat → Prop} {vS vP vL : Value} {ss : List Nat} {d : DS} {S : List (List Int)} {P : List (Int × List Int)} (h1 : w.heap[g]? = some (.cells (dcells vS vP vL d) 51 (0, 0))) (h4 : DiskIn w base ok vS vP vL S P d.left ss) (k : Nat) :
    Calls Try.prog 55 #[.pointer (some ⟨g, 0, none⟩), .int .i64 (k : Int)] w fun e w' => e = .returned (.int .i64 (DS.keepN d.left k : Int)) ∧ w = w' := by
  obtain ⟨A, c, rfl, hlc, hC⟩ := Kd.R_reads h4.2.2.2.2.2.2
  have hc : w.cell? ⟨g, 6, none⟩ = some (.slice A d.left.length c) := (blk_cell h1 6).trans rfl
  by_cases hk : k < d.left.length
  · obtain ⟨ad, e0, hx⟩ := Kd.at_int hC (k : Int) (by omega) (by omega)
    subst e0
    have er : rd d.left (k : Int) = d.left.getD k 0 := rfl
    rw [er, Int.toNat_natCast] at hx
    have hkn : DS.keepN d.left k = (min (max (d.left.getD k 0) 0) 16).toNat := rfl
    have hd : decide ((k : Int) ≥ (d.left.length : Int)) = false := decide_eq_false (by omega)
    have hd2 : decide ((d.left.length : Int) ≤ (k : Int)) = false := decide_eq_false (by omega)
    have hd3 : decide (d.left.length ≤ k) = false := decide_eq_false (by omega)
    have hp1 : (0 : Int) ≤ (k : Int) := by omega
    have hp2 : (k : Int) < (d.left.length : Int) := by omega
    generalize d.left.getD k 0 = x at hx hkn
    have HK := Aside0.mk hkn
    clear h1 h4 hlc hC hkn er
    go_enter Try.func55, Try.ntmps55
    go_wp2
    all_goals
      go_ret
      refine ⟨ret_i ?_, rfl⟩
      rw [HK.out]
      (try split at *)
      all_goals omega
  · have HK : Aside0 (DS.keepN d.left k = 0) := ⟨by unfold DS.keepN; rw [List.getD_eq_getElem?_getD, List.getElem?_eq_none (by omega)]; rfl⟩
    have hd : decide ((k : Int) ≥ (d.left.length : Int)) = true := decide_eq_true (by omega)
    have hd2 : decide ((d.left.length : Int) ≤ (k : Int)) = true := decide_eq_true (by omega)
    have hd3 : decide (d.left.length ≤ k) = true := decide_eq_true (by omega)
    clear h1 h4 hlc hC hk
    go_enter Try.func55, Try.ntmps55
    go_wp2
    go_ret
    rw [HK.out]
    exact ⟨rfl, rfl⟩
theorem size5 : (Try.prog.info? 5).map (·.size) = some 1 := by kernel_rfl
theorem sec_value {w : World} {base : Nat} {ok : Nat → Prop} {vS vP vL : Value} {S : List (List Int)} {P : List (Int × List Int)} {L : List Int} {ss : List Nat} (h : DiskIn w base ok vS vP vL S P L ss) (i : Nat) (hi : i < S.length) :
    ∃ (k q cap : Nat), ss[i]? = some k ∧ vS = .slice (some ⟨q, 0, none⟩) S.length cap ∧ w.cell? ⟨q, i, none⟩ = some (secV k) ∧ SecAt w k (S.getD i []) := by
  have hl : i < ss.length := by rw [h.2.2.1.1]; exact hi
  refine ⟨ss[i], ?_⟩
  have hk : ss[i]? = some ss[i] := List.getElem?_eq_getElem hl
  have hs : SecAt w ss[i] (S.getD i []) := h.2.2.1.2 i _ _ hk (by rw [List.getD_eq_getElem?_getD, List.getElem?_eq_getElem hi]; rfl)
  rcases h.1.2 with ⟨rfl, h0⟩ | ⟨q, cap, cur, rfl, _, hh, _, _, _, ht⟩
  · omega
  · refine ⟨q, cap, hk, by rw [h.2.2.1.1], ?_, hs⟩
    rw [cell_of_row w q _ cur _ (0, 0) hh, ← Array.getElem?_toList]
    have := congrArg (fun l : List Value => l[i]?) ht
    simp only [List.getElem?_take, Nat.mul_one, if_pos hl, List.getElem?_map, hk, Option.map_some] at this
    exact this
/-- The first n bytes of what is read are laid over a sector's. -/
theorem copied {w : World} {base : Nat} {ok : Nat → Prop} {vS vP vL : Value} {S : List (List Int)} {P : List (Int × List Int)} {L : List Int} {ss : List Nat} (h : DiskIn w base ok vS vP vL S P L ss) (hS : ∀ s ∈ S, s.length = 16) (i k n sc : Nat) (hi : i < S.length) (hk : ss[i]? = some k)
    (ad : Addr) (b : List Int) (hb : b.length = 16) (hn : n ≤ 16) (hC : (Kd.int .u8).C w (some ad) b.length b) (ty : TypeId) :
    (Builtin.copy_ #[22, 22] ty #[secV k, .slice (some ad) n sc]).run Try.prog w = .ok (goInt n) (w.setCells k 0 ((b.map (Value.int .u8)).take n)) ∧
      DiskIn (w.setCells k 0 ((b.map (Value.int .u8)).take n)) base ok vS vP vL (S.set i (DS.lay b (S.getD i []) n)) P L ss ∧ ok k ∧ base ≤ k ∧ k < w.heap.size := by
  rw [← List.map_take]
  have hmem : k ∈ ss := List.mem_of_getElem? hk
  have hsec : SecAt w k (S.getD i []) := h.2.2.1.2 i _ _ hk (by rw [List.getD_eq_getElem?_getD, List.getElem?_eq_getElem hi]; rfl)
  have hsl : (S.getD i []).length = 16 := DS.getD_len hS hi
  have hlen : ((b.take n).map (Value.int .u8)).length = n := by rw [List.length_map, List.length_take]; omega
  have hcs : ((S.getD i []).map (Value.int .u8)).toArray.size = 16 := by rw [List.size_toArray, List.length_map]; exact hsl
  have hcell : ∀ j v, ((b.take n).map (Value.int .u8))[j]? = some v → w.cell? (ad.add j) = some v := fun j v hj => by
    have hjn : j < n := by rw [← hlen]; exact (List.getElem?_eq_some_iff.1 hj).1
    obtain ⟨ad', e, hc⟩ := Kd.at_int hC (j : Int) (by omega) (by omega)
    injection e with e
    subst e
    rw [Int.toNat_natCast] at hc
    rw [hc, ← hj, List.getElem?_map, List.getElem?_take, if_pos hjn, rd, Int.toNat_natCast, List.getD_eq_getElem?_getD, List.getElem?_eq_getElem (by omega)]
    rfl
  obtain ⟨cur', h1, h2, h3⟩ := setCells_row ((b.take n).map (Value.int .u8)) 0 w _ hsec (by rw [hlen, hcs]; omega)
  have hmin : Nat.min n 16 = n := Nat.min_eq_left hn
  refine ⟨?_, ⟨?_, h.2.1, ?_, h.2.2.2.1, h.2.2.2.2.1, ?_, ?_⟩, (h.2.2.2.2.1 k hmem).2, (h.2.2.2.2.1 k hmem).1, h.2.2.1.lt hmem⟩
  · exact Kd.run_copy_cells_sz w _ _ ty 5 k 0 16 16 ad n sc n 1 _ Try.underlying22 size5 hmin.symm (by rw [hlen, Nat.mul_one]) hcell
      (fun j hj => by rw [Nat.zero_add, cell_of_row w k j _ _ (0, 0) hsec, Array.getElem?_eq_getElem (by rw [hcs]; rw [hlen] at hj; omega)]; rfl) (fun j hj => blk_frozen hsec _) (fun v hv => by obtain ⟨x, _, rfl⟩ := List.mem_map.1 hv; rfl)
  · exact own_move h.1 (fun q hq => setCells_far _ _ q (fun e => (h.2.1 q hq).2 (e ▸ hmem)))
  · refine h.2.2.1.set h.2.2.2.1 hk ?_ (fun j hj hne => setCells_far _ _ j hne)
    show _ = _
    rw [h1]
    congr 2
    apply Array.toList_inj.1
    rw [h3, hlen, DS.lay]
    simp
  · exact Kd.R_step h.2.2.2.2.2.1 (fun q hq _ => setCells_far _ _ q (fun e => hq.2 (e ▸ hmem)))
  · exact Kd.R_step h.2.2.2.2.2.2 (fun q hq _ => setCells_far _ _ q (fun e => hq.2 (e ▸ hmem)))
/-- A pending write is read. -/
theorem write_at {w : World} {A : Option Addr} {P : List (Int × List Int)} (h : kW.C w A P.length P) (k : Nat) (hk : k < P.length) (hb : (P.getD k (0, [])).2.length = 16) :
    ∃ (ad ad' : Addr) (c' : Nat), A = some ad ∧ w.cell? (ad.add (k * 2)) = some (.int .i64 (P.getD k (0, [])).1) ∧ w.cell? ⟨(ad.add (k * 2)).block, (ad.add (k * 2)).off + 1, none⟩ = some (.slice (some ad') 16 c') ∧ 16 ≤ c' ∧ (Kd.int .u8).C w (some ad') (P.getD k (0, [])).2.length (P.getD k (0, [])).2 := by
  obtain ⟨ad, c, e, hl, hK, hc0⟩ := Kd.C_get h (0, []) (k : Int) (by omega) (by omega)
  rw [Int.toNat_natCast] at hK hc0
  have hc : ∀ j u, c[j]? = some u → w.cell? (ad.add (k * 2 + j)) = some u := hc0
  generalize P.getD k (0, []) = p at hK hb ⊢
  obtain ⟨c0, c1, rfl, h0, A', c', h1, h2, h3⟩ := hK
  have h0' : c0 = [.int .i64 p.1] := h0
  subst h0' h1
  have hpos : 0 < p.2.length := by omega
  obtain ⟨ad', e', _⟩ := h3.2.2 hpos
  subst e'
  refine ⟨ad, ad', c', e, ?_, ?_, by rw [hb] at h2; exact h2, h3⟩
  · have := hc 0 _ rfl
    rwa [Nat.add_zero] at this
  · have := hc 1 (.slice (some ad') p.2.length c') rfl
    rw [hb] at this
    rwa [← Addr.add_add] at this
set_option maxHeartbeats 2000000 in
theorem crashes_not {w : World} {base g : Nat} {ok : Nat → Prop} {d : DS} (h : DiskAt w base ok g d) (hn : d.bad = false) :
    Calls Try.prog 49 #[.pointer (some ⟨g, 0, none⟩)] w fun e w' => e = .returned (.bool false) ∧ DiskAt w' base ok g d.counted ∧ KeptB ok w w' := by
  obtain ⟨vS, vP, vL, ss, h1, h2, h3, h4, h5⟩ := h
  have hc2 : w.cell? ⟨g, 2, none⟩ = some (.int .i64 d.N) := (blk_cell h1 2).trans rfl
  have hc4 : w.cell? ⟨g, 4, none⟩ = some (.bool d.armed) := (blk_cell h1 4).trans rfl
  have hc5 : w.cell? ⟨g, 5, none⟩ = some (.int .i64 d.at_) := (blk_cell h1 5).trans rfl
  have hf2 : w.frozen? ⟨g, 2, none⟩ = false := blk_frozen h1 2
  have fin : ∀ (n : Nat), DiskAt ((w.drewN n).setCell ⟨g, 2, none⟩ (.int .i64 (wrap64 (d.N + 1)))) base ok g d.counted ∧ KeptB ok w ((w.drewN n).setCell ⟨g, 2, none⟩ (.int .i64 (wrap64 (d.N + 1)))) := fun n =>
    ⟨DiskAt.set (w := w) (d' := d.counted) h1 h2 h3 h4 h5 rfl rfl rfl (blk_put (cs := dcells vS vP vL d) (blk_drewN h1 n) 2 _ rfl) rfl (fun k hk => (Below.heap_setCell (w.drewN n) ⟨g, 2, none⟩ _ k hk).trans rfl), ((KeptB.refl ok w).drewN n).setCell (.inl h3) _⟩
  have HF := Aside0.mk fin
  cases ha : d.armed with
  | false =>
    rw [ha] at hc4
    clear h1 h2 h3 h4 h5 hn fin ha
    go_enter Try.func49, Try.ntmps49
    go_wp2_with fail
    go_quiet (fail)
    go_wp2
    go_ret
    exact ⟨rfl, HF.out _⟩
  | true =>
    rw [ha] at hc4
    have hlt : d.N < d.at_ := by
      unfold DS.bad at hn
      rw [ha, Bool.true_and, decide_eq_false_iff_not] at hn
      omega
    have hd : decide (d.N < d.at_) = true := decide_eq_true hlt
    clear h1 h2 h3 h4 h5 hn fin ha
    go_enter Try.func49, Try.ntmps49
    go_wp2_with fail
    go_quiet (fail)
    go_wp2
    go_ret
    exact ⟨rfl, HF.out _⟩
def CrInv (w wr : World) (base g : Nat) (ok : Nat → Prop) (d : DS) (vS vP vL : Value) (ss : List Nat) (k : Nat) (S' : List (List Int)) : Prop :=
  DS.spill d.left S' (d.P.drop k) k = DS.spill d.left d.S d.P 0 ∧ DS.Fit S' (d.P.drop k) ∧ wr.heap[g]? = some (.cells (dcells vS vP vL d) 51 (0, 0)) ∧ DiskIn wr base (fun k => ok k ∧ k ≠ g) vS vP vL S' d.P d.left ss ∧ KeptB ok w wr
set_option maxHeartbeats 4000000 in
set_option maxRecDepth 100000 in
theorem crashes_bad {w : World} {base g : Nat} {ok : Nat → Prop} {d : DS} (h : DiskAt w base ok g d) (hn : d.bad = true) :
    Calls Try.prog 49 #[.pointer (some ⟨g, 0, none⟩)] w fun e w' => e = .returned (.bool true) ∧ DiskAt w' base ok g d.crashed ∧ KeptB ok w w' := by
  obtain ⟨vS, vP, vL, ss, h1, h2, h3, h4, h5⟩ := h
  obtain ⟨A, c, rfl, hlc, hC⟩ := Kd.R_reads h4.2.2.2.2.2.1
  have hc1 : w.cell? ⟨g, 1, none⟩ = some (.slice A d.P.length c) := (blk_cell h1 1).trans rfl
  have hc2 : w.cell? ⟨g, 2, none⟩ = some (.int .i64 d.N) := (blk_cell h1 2).trans rfl
  have hc4 : w.cell? ⟨g, 4, none⟩ = some (.bool true) := by
    unfold DS.bad at hn
    rw [Bool.and_eq_true] at hn
    exact (blk_cell h1 4).trans (by rw [← hn.1]; rfl)
  have hc5 : w.cell? ⟨g, 5, none⟩ = some (.int .i64 d.at_) := (blk_cell h1 5).trans rfl
  have hd : decide (d.N < d.at_) = false := by
    unfold DS.bad at hn
    rw [Bool.and_eq_true, decide_eq_true_eq] at hn
    exact decide_eq_false (by omega)
  have H2 := Aside0.mk h2
  have H3 := Aside0.mk h3
  have HI : Aside0 (CrInv w w base g ok d vS (.slice A d.P.length c) vL ss 0 d.S) := ⟨rfl, h5, h1, h4, KeptB.refl _ _⟩
  have H5 := Aside0.mk h5
  clear h1 h2 h3 h4 h5 hn hlc hC
  go_enter Try.func49, Try.ntmps49
  go_wp2_with fail
  go_quiet (fail)
  go_wp2
  go_loopw [34] (fun u34 wr => ∃ (k : Nat) (S' : List (List Int)), u34 = .int .i64 (k : Int) ∧ Aside0 (k ≤ d.P.length) ∧ Aside0 (CrInv w wr base g ok d vS (.slice A d.P.length c) vL ss k S')) (fun u34 _ => d.P.length + 1 - (intOf u34).toNat)
  case atStart => exact ⟨0, d.S, rfl, ⟨Nat.zero_le _⟩, ⟨HI.out.1, HI.out.2.1, HI.out.2.2.1, HI.out.2.2.2.1.step (fun k _ _ => rfl), HI.out.2.2.2.2.drewN _⟩⟩
  case round =>
    clear hc1 hc2 hc4 hc5 HI
    obtain ⟨k, S', rfl, HK, HI⟩ := hrel
    by_cases hlt : k < d.P.length
    · have hp : d.P.drop k = d.P.getD k (0, []) :: d.P.drop (k + 1) := by
        rw [List.drop_eq_getElem_cons hlt, List.getD_eq_getElem?_getD, List.getElem?_eq_getElem hlt]
        rfl
      obtain ⟨i1, i2, i3, i4, i5⟩ := HI.out
      rw [hp] at i1 i2
      obtain ⟨f1, f2, f3⟩ := i2.head
      obtain ⟨A', c', hv, hlc, hC⟩ := Kd.R_reads i4.2.2.2.2.2.1
      injection hv with hA hl0 hc0
      subst hA hc0
      clear hl0
      obtain ⟨ad, ad', cb, rfl, hx0, hx1, hcb, hCb⟩ := write_at hC k hlt f3
      obtain ⟨i, hi⟩ : ∃ i : Nat, (d.P.getD k (0, [])).1 = (i : Int) := ⟨(d.P.getD k (0, [])).1.toNat, by omega⟩
      have hiS : i < S'.length := by omega
      obtain ⟨kq, q, cap, hkq, rfl, hq, hsec⟩ := sec_value i4 i hiS
      generalize hpp : d.P.getD k (0, []) = p at *
      rw [hi] at hx0
      have hd : decide ((k : Int) < (d.P.length : Int)) = true := decide_eq_true (by omega)
      have hp8 : (k : Int) + 1 ≤ 9223372036854775807 := by have := hC.2.1; omega
      have hp1 : (0 : Int) ≤ (k : Int) := by omega
      have hp2 : (k : Int) < (d.P.length : Int) := by omega
      have hp3 : (0 : Int) ≤ (i : Int) := by omega
      have hp4 : (i : Int) < (S'.length : Int) := by omega
      have hk16 := DS.keepN_le d.left k
      have hp5 : (0 : Int) ≤ (DS.keepN d.left k : Int) := by omega
      have hp6 : (DS.keepN d.left k : Int) ≤ (16 : Int) := by omega
      have hp7 : (DS.keepN d.left k : Int) ≤ (cb : Int) := by omega
      have HSP : Aside0 (DS.spill d.left (S'.set i (DS.lay p.2 (S'.getD i []) (DS.keepN d.left k))) (d.P.drop (k + 1)) (k + 1) = DS.spill d.left d.S d.P 0) := ⟨by rw [← i1, DS.spill, hi, Int.toNat_natCast]⟩
      have HFT : Aside0 (DS.Fit (S'.set i (DS.lay p.2 (S'.getD i []) (DS.keepN d.left k))) (d.P.drop (k + 1))) := ⟨by have := i2.laid (DS.keepN d.left k) hk16; rwa [hi, Int.toNat_natCast] at this⟩
      have I1 := Aside0.mk i1
      have I2 := Aside0.mk i2
      have I3 := Aside0.mk i3
      have I4 := Aside0.mk i4
      have I5 := Aside0.mk i5
      have F3 := Aside0.mk f3
      have KQ := Aside0.mk hkq
      have CB := Aside0.mk hCb
      clear i1 i2 i3 i4 i5 f1 f2 f3 hlc hC hkq hCb hsec hpp hp HI hi
      go_upto_region 7 with (fail)
      obtain ⟨W0, hW0⟩ : ∃ W0, W0 = wr.alloc (.cells #[.int .i64 (i : Int), .slice (some ad') 16 cb] 80) := ⟨_, rfl⟩
      have hWb : Below wr.heap.size wr W0 := by rw [hW0]; exact below_alloc (Below.refl _ _) _
      have hWn : W0.heap[wr.heap.size]? = some (.cells #[.int .i64 (i : Int), .slice (some ad') 16 cb] 80 (0, 0)) := by rw [hW0]; exact blk_new wr _
      rw [← hW0]
      clear hW0
      have J3 : W0.heap[g]? = some (.cells (dcells (.slice (some ⟨q, 0, none⟩) S'.length cap) (.slice (some ad) d.P.length c) vL d) 51 (0, 0)) := blk_below I3.out hWb
      have J4 : DiskIn W0 base (fun k => ok k ∧ k ≠ g) (.slice (some ⟨q, 0, none⟩) S'.length cap) (.slice (some ad) d.P.length c) vL S' d.P d.left ss := I4.out.step (fun k _ hk => hWb.block k hk)
      have J4d : DiskIn W0.drew base (fun k => ok k ∧ k ≠ g) (.slice (some ⟨q, 0, none⟩) S'.length cap) (.slice (some ad) d.P.length c) vL S' d.P d.left ss := J4.step (fun _ _ _ => rfl)
      obtain ⟨hcp, J5, hokk, hbk, hltk⟩ := copied J4d I2.out.1 i kq (DS.keepN d.left k) cb hiS KQ.out ad' p.2 F3.out hk16 (Kd.C_below CB.out (hWb.trans (below_drew1 (Below.refl _ _)))) 3
      have hc0 : W0.cell? ⟨g, 0, none⟩ = some (.slice (some ⟨q, 0, none⟩) S'.length cap) := (blk_cell J3 0).trans rfl
      have hb0 : W0.cell? ⟨wr.heap.size, 0, none⟩ = some (.int .i64 (i : Int)) := (blk_cell hWn 0).trans rfl
      have hb1 : W0.cell? ⟨wr.heap.size, 1, none⟩ = some (.slice (some ad') 16 cb) := (blk_cell hWn 1).trans rfl
      have hq1 : W0.cell? ⟨q, i, none⟩ = some (.slice (some ⟨kq, 0, none⟩) 16 16) := pw_cell_below hWb hq
      unfold secV at hcp
      have HD := Aside0.mk (I5.out.then_ (KeptB.setCells (((KeptB.refl ok wr).after hWb).drew) (.inl hokk.1) (vs := (p.2.map (Value.int .u8)).take (DS.keepN d.left k)) (o := 0)) (fun _ hk => .inl hk))
      have J3d : (W0.drew.setCells kq 0 ((p.2.map (Value.int .u8)).take (DS.keepN d.left k))).heap[g]? = some (.cells (dcells (.slice (some ⟨q, 0, none⟩) S'.length cap) (.slice (some ad) d.P.length c) vL d) 51 (0, 0)) := (setCells_far _ _ g (Ne.symm hokk.2)).trans J3
      have HINV : Aside0 (CrInv w (W0.drew.setCells kq 0 ((p.2.map (Value.int .u8)).take (DS.keepN d.left k))) base g ok d (.slice (some ⟨q, 0, none⟩) S'.length cap) (.slice (some ad) d.P.length c) vL ss (k + 1) (S'.set i (DS.lay p.2 (S'.getD i []) (DS.keepN d.left k)))) := ⟨HSP.out, HFT.out, J3d, J5, HD.out⟩
      have J3a := Aside0.mk J3
      have J4a := Aside0.mk J4
      clear J3 J4 J4d J5 J3d hWn hWb hokk hbk hltk HD hq hx0 hx1 I1 I2 I3 I4 I5 HSP HFT CB KQ F3
      go_region_law (first
        | (refine Kd.step_copy_run rfl _ _ 22 22 rfl _ _ (by simp [Act.eval, Act.put]) (by simp [Act.eval, Act.put]) hcp ?_)
        | (go_simp; go_at_call 55; refine (keep_any (w := W0.drew) (blk_drew J3a.out) (J4a.out.step (w1 := W0.drew) (fun _ _ _ => rfl)) k).mono ?_; rintro e w' ⟨rfl, rfl⟩))
      all_goals
        go_wp2
        all_goals exact ⟨⟨k + 1, _, by go_num, ⟨by omega⟩, HINV⟩, by simp [intOf]; omega⟩
    · obtain rfl : k = d.P.length := by have := HK.out; omega
      obtain ⟨i1, i2, i3, i4, i5⟩ := HI.out
      rw [List.drop_of_length_le (Nat.le_refl _), DS.spill] at i1
      subst i1
      have hd : decide ((d.P.length : Int) < (d.P.length : Int)) = false := decide_eq_false (by omega)
      have hf1 : wr.frozen? ⟨g, 1, none⟩ = false := blk_frozen i3 1
      have hf3 : wr.frozen? ⟨g, 3, none⟩ = false := blk_frozen i3 3
      have hc1 : wr.cell? ⟨g, 1, none⟩ = some (.slice A d.P.length c) := (blk_cell i3 1).trans rfl
      have hc3 : wr.cell? ⟨g, 3, none⟩ = some (.bool d.down) := (blk_cell i3 3).trans rfl
      have hfin : DiskAt ((wr.setCell ⟨g, 1, none⟩ (.slice none 0 0)).setCell ⟨g, 3, none⟩ (.bool true)) base ok g d.crashed ∧ KeptB ok w ((wr.setCell ⟨g, 1, none⟩ (.slice none 0 0)).setCell ⟨g, 3, none⟩ (.bool true)) := by
        refine ⟨⟨vS, .slice none 0 0, vL, ss, blk_put (blk_put i3 1 _ rfl) 3 _ rfl, H2.out, H3.out, ?_, DS.crashed_ok H5.out⟩, (i5.setCell (.inl H3.out) _).setCell (.inl H3.out) _⟩
        have hs : ∀ q, q ≠ g → ((wr.setCell ⟨g, 1, none⟩ (.slice none 0 0)).setCell ⟨g, 3, none⟩ (.bool true)).heap[q]? = wr.heap[q]? := fun q hq => (Below.heap_setCell _ _ _ _ hq).trans (Below.heap_setCell _ _ _ _ hq)
        have h := i4.step (w1 := (wr.setCell ⟨g, 1, none⟩ (.slice none 0 0)).setCell ⟨g, 3, none⟩ (.bool true)) (fun q hq _ => hs q hq.2)
        exact ⟨h.1, h.2.1, h.2.2.1, h.2.2.2.1, h.2.2.2.2.1, Kd.R_nil _ _ _ _ _, h.2.2.2.2.2.2⟩
      have HFIN := Aside0.mk hfin
      clear i2 i3 i4 i5 hlt HI hfin HK
      go_wp2
      go_ret
      exact ⟨rfl, HFIN.out⟩
end Go.Proofs.Ytkicekddkgehoaa.Hnd
