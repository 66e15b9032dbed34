-- Written by a program of this session (wip/tools), out of the kit's print of the loaded program: functions, and proofs that the calls come to them.
import Derived.Test.YtikninibkljnnaaQPortLinesx0
import Derived.Test.YtikninibkljnnaaQPortLinesx1
namespace Go.Proofs.Ytikninibkljnnaa.QPortLines
open Go.RowKit Go.Proofs.YtikninibkljnnaaW.PrintWords Go.Proofs.YtikninibkljnnaaW.PrintLast Go.Proofs.YtikninibkljnnaaW.PrintMore
attribute [local go_sem] max2_int min2_int max_two min_two max_three min_three max_four min_four   -- for this text's walks alone
set_option linter.unusedVariables false
set_option linter.unusedSimpArgs false

/-! ### api_File_24: function 24 -/
theorem api_File_24.ins_flat : Kd.Flat k55 := fun w w' base ok ok' x cs h => by
  obtain rfl := k55_openM h
  exact k55_mkM _ _ _ _
theorem api_File_24.ins_info : (Try.prog.info? 55).map (fun i => (i.zero, i.size, i.bytes)) = some (some (.agg #[.string ⟨#[]⟩, .string ⟨#[]⟩]), 2, 32) := by kernel_rfl
def api_File_24.ins_cells (x : S55) : List Value := [.string x.f0, .string x.f1]
theorem api_File_24.ins_lit {W : World} {g : Nat} {x : S55} (h : W.heap[g]? = some (.cells (api_File_24.ins_cells x).toArray 55 (0, 0))) : Kd.C k55 W (some ⟨g, 0, none⟩) 1 [x] :=
  ⟨rfl, by omega, fun _ => ⟨_, rfl, fun j p hj => by
    have hj0 : j = 0 := by have := (List.getElem?_eq_some_iff.1 hj).1; simpa using this
    subst hj0
    obtain rfl : x = p := by simpa using hj
    refine ⟨_, rfl, k55_mk _ _, fun i u hu => ?_⟩
    have e : k55.sz = 2 := rfl
    have ha : (⟨g, 0, none⟩ : Addr).add (0 * k55.sz + i) = ⟨g, i, none⟩ := by rw [Nat.zero_mul, Nat.zero_add]; exact add_plain _ _
    rw [ha, blk_cell h]
    simpa [api_File_24.ins_cells] using hu⟩⟩
set_option maxHeartbeats 4000000 in
set_option maxRecDepth 100000 in
/-- slices.Insert behind the last element: an append. -/
theorem api_File_24.ins_end (B gv : Nat) (v : Value) (xs : List S55) (x : S55) (W : World) (hgv : W.heap[gv]? = some (.cells (api_File_24.ins_cells x).toArray 55 (0, 0))) (HO : Kd.R k55 55 W B (fun z => z ≠ gv) v xs) (hB : B ≤ W.heap.size) (hbig : (xs.length + 1) * 32 ≤ 140737488355328) :
    Calls Try.prog 24 #[v, .int .i64 (xs.length : Int), .slice (some ⟨gv, 0, none⟩) 1 1] W fun e w' => ∃ v', e = .returned v' ∧ Kd.R k55 55 w' B (fun _ => True) v' (xs ++ [x]) ∧ Below B W w' := by
  have HRx : Aside0 (ReadsRow (k55.K W) k55.sz W (some ⟨gv, 0, none⟩) 1 [x]) := ⟨api_File_24.ins_lit hgv⟩
  have hlt : gv < W.heap.size := (Array.getElem?_eq_some_iff.1 hgv).1
  have HOx := Aside0.mk HO
  obtain ⟨hok, inner, hown, hr⟩ := HO
  rcases hown.2 with ⟨rfl, hn0⟩ | ⟨g, cap, cur, rfl, hgB, hh, hnc, hcm, hcs, htake⟩
  · obtain rfl : xs = [] := List.eq_nil_of_length_eq_zero hn0
    clear hgv hok hown hr hn0
    simp only [List.length_nil] at hbig ⊢
    go_enter Try.func24, Try.ntmps24
    go_wp2_with ((with_reducible refine gate_builtin (b := .append) (xs := #[.tmp 23, .tmp 24]) rfl ?_); at_builtin; go_must (refine Kd.R_append_rows k55 (w0 := W) B rfl (.tmp 23) (.tmp 24) 23 55 (.agg #[.string ⟨#[]⟩, .string ⟨#[]⟩]) 32 rfl Try.underlying23 api_File_24.ins_info rfl (by decide) (by decide) _ ([] : List S55) [x] (some ⟨gv, 0, none⟩) 1 1 (fun z => z ≠ gv) (fun _ => False) rfl rfl ?aO ?aR (fun _ _ h => h) ?aP ?aF ?aB ?aS ?aL ?_; (case aO => exact HOx.out); (case aR => exact HRx.out); (case aP => exact fun _ hk => hk.elim); (case aF => exact fun k hk => by omega); (case aB => exact Below.refl _ _); (case aS => exact hB); (case aL => exact hbig)); intro v1 w1 ho hb hg hat; have HO1 := Aside0.mk ho; have HB1 := Aside0.mk hb; clear ho hb hg hat)
    go_ret
    exact ⟨_, rfl, Kd.R_mono HO1.out (fun _ _ => trivial), HB1.out⟩
  · have h1 : ((xs.length : Int) ≤ (xs.length : Int)) = True := eq_true (by omega)
    have h2 : ((0 : Int) ≤ (xs.length : Int)) = True := eq_true (by omega)
    have hc0 : Aside0 (xs.length ≤ cap) := ⟨hnc⟩
    clear hgv hok hown hr hh hcs htake hgB hcm inner cur
    by_cases hce : cap = xs.length
    · subst hce
      clear hnc
      go_enter Try.func24, Try.ntmps24
      go_wp2_with ((with_reducible refine gate_builtin (b := .append) (xs := #[.tmp 23, .tmp 24]) rfl ?_); at_builtin; go_must (refine Kd.R_append_rows k55 (w0 := W) B rfl (.tmp 23) (.tmp 24) 23 55 (.agg #[.string ⟨#[]⟩, .string ⟨#[]⟩]) 32 rfl Try.underlying23 api_File_24.ins_info rfl (by decide) (by decide) _ xs [x] (some ⟨gv, 0, none⟩) 1 1 (fun z => z ≠ gv) (fun _ => False) rfl rfl ?aO ?aR (fun _ _ h => h) ?aP ?aF ?aB ?aS ?aL ?_; (case aO => exact HOx.out); (case aR => exact HRx.out); (case aP => exact fun _ hk => hk.elim); (case aF => exact fun k hk => by omega); (case aB => exact Below.refl _ _); (case aS => exact hB); (case aL => exact hbig)); intro v1 w1 ho hb hg hat; have HO1 := Aside0.mk ho; have HB1 := Aside0.mk hb; clear ho hb hg hat)
      go_ret
      exact ⟨_, rfl, Kd.R_mono HO1.out (fun _ _ => trivial), HB1.out⟩
    · go_enter Try.func24, Try.ntmps24
      go_wp2_with ((with_reducible refine gate_builtin (b := .append) (xs := #[.tmp 23, .tmp 24]) rfl ?_); at_builtin; go_must (refine Kd.R_append_rows k55 (w0 := W) B rfl (.tmp 23) (.tmp 24) 23 55 (.agg #[.string ⟨#[]⟩, .string ⟨#[]⟩]) 32 rfl Try.underlying23 api_File_24.ins_info rfl (by decide) (by decide) _ xs [x] (some ⟨gv, 0, none⟩) 1 1 (fun z => z ≠ gv) (fun _ => False) rfl rfl ?aO ?aR (fun _ _ h => h) ?aP ?aF ?aB ?aS ?aL ?_; (case aO => exact HOx.out); (case aR => exact HRx.out); (case aP => exact fun _ hk => hk.elim); (case aF => exact fun k hk => by omega); (case aB => exact Below.refl _ _); (case aS => exact hB); (case aL => exact hbig)); intro v1 w1 ho hb hg hat; have HO1 := Aside0.mk ho; have HB1 := Aside0.mk hb; clear ho hb hg hat)
      go_ret
      exact ⟨_, rfl, Kd.R_mono HO1.out (fun _ _ => trivial), HB1.out⟩
set_option maxHeartbeats 4000000 in
set_option maxRecDepth 100000 in
/-- slices.Insert, room for one more: in place. -/
theorem api_File_24.ins_room (g n c i gv : Nat) (cs cx : List Value) (cur : Array Value) (w : World) (hi : i < n) (hroom : n + 1 ≤ c) (hc63 : c ≤ 9223372036854775807) (hne : gv ≠ g) (hh : w.heap[g]? = some (.cells cur 55 (0, 0))) (hcur : cur.size = c * 2)
    (htake : cur.toList.take (n * 2) = cs) (hgv : w.heap[gv]? = some (.cells cx.toArray 55 (0, 0))) (hvl : cx.length = 2) (h1c : ∀ v ∈ cs, v.oneCell' = true) (h1v : ∀ v ∈ cx, v.oneCell' = true) :
    Calls Try.prog 24 #[.slice (some ⟨g, 0, none⟩) n c, .int .i64 (i : Int), .slice (some ⟨gv, 0, none⟩) 1 1] w fun e w' => e = .returned (.slice (some ⟨g, 0, none⟩) (n + 1) c) ∧ w' = (w.drew.setCells g ((i + 1) * 2) (cs.drop (i * 2))).setCells g (i * 2) cx := by
  have hcl : cs.length = n * 2 := by rw [← htake, List.length_take, Array.length_toList]; omega
  have hsz : (Try.prog.info? 55).map (·.size) = some 2 := by
    obtain ⟨i0, hi0, h0, h1, h2⟩ := info_parts api_File_24.ins_info
    rw [hi0]; simp [h1]
  have hcell : ∀ (W : World), W.heap = w.heap → ∀ j v, cs[j]? = some v → W.cell? ⟨g, j, none⟩ = some v := fun W hW j v hj => by
    have hjl : j < cs.length := (List.getElem?_eq_some_iff.1 hj).1
    rw [cell_of_row W g _ cur 55 (0, 0) (by rw [hW]; exact hh), ← Array.getElem?_toList]
    rw [← htake, List.getElem?_take] at hj
    split at hj
    · exact hj
    · cases hj
  have hsome : ∀ (W : World), W.heap = w.heap → ∀ j, j < c * 2 → (W.cell? ⟨g, j, none⟩).isSome = true := fun W hW j hj => by
    rw [cell_of_row W g _ cur 55 (0, 0) (by rw [hW]; exact hh)]
    simp; omega
  have hov : ∀ lb cb, (callFunc 31 #[.slice (some ⟨gv, 0, none⟩) 1 1, .slice (some ⟨g, (i + 1) * 2, none⟩) lb cb]).run Try.prog w = .ok (.value (.bool false)) w := fun lb cb => by
    rw [run_callFunc_extern Try.func31 (by kernel_rfl) (by kernel_rfl) (by kernel_rfl) (e := Extern.SlicesOverlaps.overlaps #[23, 23] #[4]) (by kernel_rfl),
      Lib.run_overlaps_apart w 23 4 55 Try.underlying23 2 Try.sizeOf55 ⟨gv, 0, none⟩ ⟨g, (i + 1) * 2, none⟩ 1 1 lb cb hne 55 55 2 (c * 2) (by simp [World.shape?, hgv, hvl]) (by simp [World.shape?, hh, hcur]) (by omega) (blk_frozen hgv _) (blk_frozen hgv _)]
    rfl
  have hcp1 : ∀ (W : World), W.heap = w.heap → ∀ ty dc sc, (Builtin.copy_ #[23, 23] ty #[.slice (some ⟨g, (i + 1) * 2, none⟩) (n - i) dc, .slice (some ⟨g, i * 2, none⟩) (n + 1 - i) sc]).run Try.prog W = .ok (goInt ((n - i : Nat) : Int)) (W.setCells g ((i + 1) * 2) (cs.drop (i * 2))) := fun W hW ty dc sc =>
    Kd.run_copy_cells_sz W _ _ ty 55 g ((i + 1) * 2) (n - i) dc ⟨g, i * 2, none⟩ (n + 1 - i) sc (n - i) 2 (cs.drop (i * 2)) Try.underlying23 hsz (by simp only [Nat.min_def]; split <;> omega) (by rw [List.length_drop, hcl]; omega)
      (fun j v hj => by rw [Kd.add_plain2]; exact hcell W hW _ v (by rwa [List.getElem?_drop] at hj)) (fun j hj => hsome W hW _ (by rw [List.length_drop, hcl] at hj; omega)) (fun j hj => blk_frozen (by rw [hW]; exact hh) _) (fun v hv => h1c v (List.mem_of_mem_drop hv))
  obtain ⟨cur1, hh1, hc1, ht1⟩ := setCells_row (cs.drop (i * 2)) ((i + 1) * 2) w cur hh (by rw [List.length_drop, hcl, hcur]; omega)
  have hgv1 : (w.setCells g ((i + 1) * 2) (cs.drop (i * 2))).heap[gv]? = some (.cells cx.toArray 55 (0, 0)) := by rw [setCells_far _ _ gv hne]; exact hgv
  have hcp2 : ∀ (W : World), W.heap = (w.setCells g ((i + 1) * 2) (cs.drop (i * 2))).heap → ∀ ty dc, (Builtin.copy_ #[23, 23] ty #[.slice (some ⟨g, i * 2, none⟩) (n + 1 - i) dc, .slice (some ⟨gv, 0, none⟩) 1 1]).run Try.prog W = .ok (goInt 1) (W.setCells g (i * 2) cx) := fun W hW ty dc =>
    Kd.run_copy_cells_sz W _ _ ty 55 g (i * 2) (n + 1 - i) dc ⟨gv, 0, none⟩ 1 1 1 2 cx Try.underlying23 hsz (by simp only [Nat.min_def]; split <;> omega) (by omega)
      (fun j v hj => by rw [add_plain, cell_of_row W gv _ cx.toArray 55 (0, 0) (by rw [hW]; exact hgv1)]; simpa using hj)
      (fun j hj => by rw [cell_of_row W g _ cur1 55 (0, 0) (by rw [hW]; exact hh1)]; simp; omega) (fun j hj => blk_frozen (by rw [hW]; exact hh1) _) h1v
  have hheap : (w.drew.setCells g ((i + 1) * 2) (cs.drop (i * 2))).heap = (w.setCells g ((i + 1) * 2) (cs.drop (i * 2))).heap := by rw [← Kd.drew_setCells g (cs.drop (i * 2)) ((i + 1) * 2) w]; rfl
  have hz2 : ¬ ((i : Int) = (n : Int)) := by omega
  have hw1 : IntKind.i64.wrap ((i : Int) + 1) = (i : Int) + 1 := by rw [IntKind.wrap_i64]; omega
  have hw2 : IntKind.i64.wrap ((n : Int) + 1) = (n : Int) + 1 := by rw [IntKind.wrap_i64]; omega
  have hb1 : (0 : Int) ≤ (i : Int) + 1 := by omega
  have hin : i ≤ n := by omega
  have htn : ((i : Int) + 1).toNat = i + 1 := by omega
  have hb3 : (i : Int) ≤ (n : Int) + 1 := by omega
  have hb2 : ¬ (c = i + 1) := by omega
  have hb4 : ¬ (c = i) := by omega
  have hcpA := hcp1 w.drew rfl
  have hcpB := hcp2 (w.drew.setCells g ((i + 1) * 2) (cs.drop (i * 2))) hheap
  clear hcell hsome hcp1 hcp2 hgv1 hh1 hc1 ht1 hheap
  go_enter Try.func24, Try.ntmps24
  go_wp2_with (simp only [hov])
  go_region_law (refine Kd.step_copy_run rfl _ _ 23 23 rfl _ _ (by simp [Act.eval, Act.put]) (by simp [Act.eval, Act.put]) (hcpA _ _ _) ?_)
  go_wp2_with (at_builtin; refine Kd.wpList_copy_run _ rfl _ _ 23 23 rfl _ _ rfl rfl (hcpB _ _) ?_)
  go_ret
  exact ⟨rfl, rfl⟩
set_option maxHeartbeats 4000000 in
set_option maxRecDepth 100000 in
/-- slices.Insert, no room: a new row. -/
theorem api_File_24.ins_grow (g n c i gv : Nat) (cs cx : List Value) (cur : Array Value) (w : World) (hi : i < n) (hnc : n ≤ c) (hroom : c < n + 1) (hbig : (n + 1) * 32 ≤ 140737488355328) (hh : w.heap[g]? = some (.cells cur 55 (0, 0)))
    (hcur : cur.size = c * 2) (htake : cur.toList.take (n * 2) = cs) (hgv : w.heap[gv]? = some (.cells cx.toArray 55 (0, 0))) (hvl : cx.length = 2) (h1c : ∀ v ∈ cs, v.oneCell' = true) (h1v : ∀ v ∈ cx, v.oneCell' = true) :
    Calls Try.prog 24 #[.slice (some ⟨g, 0, none⟩) n c, .int .i64 (i : Int), .slice (some ⟨gv, 0, none⟩) 1 1] w fun e w' => ∃ (G : Nat) (ROW : Array Value), n + 1 ≤ G ∧ G ≤ 9223372036854775807 ∧ ROW.size = G * 2 ∧ ROW.toList.take (i * 2) = cs.take (i * 2) ∧ e = .returned (.slice (some ⟨w.heap.size, 0, none⟩) (n + 1) G) ∧
      w' = (((w.alloc (.cells ROW 55)).drew.setCells w.heap.size (i * 2) cx).drew).setCells w.heap.size ((i + 1) * 2) (cs.drop (i * 2)) := by
  have hcl : cs.length = n * 2 := by rw [← htake, List.length_take, Array.length_toList]; omega
  obtain ⟨i0, hi0, hz0, hzs, hzb⟩ := info_parts api_File_24.ins_info
  have hsz : (Try.prog.info? 55).map (·.size) = some 2 := by rw [hi0]; simp [hzs]
  have hgw : g < w.heap.size := (Array.getElem?_eq_some_iff.1 hh).1
  have hvw : gv < w.heap.size := (Array.getElem?_eq_some_iff.1 hgv).1
  have hcell : ∀ (W : World), W.heap[g]? = w.heap[g]? → ∀ j v, cs[j]? = some v → W.cell? ⟨g, j, none⟩ = some v := fun W hW j v hj => by
    rw [cell_of_row W g _ cur 55 (0, 0) (by rw [hW]; exact hh), ← Array.getElem?_toList]
    rw [← htake, List.getElem?_take] at hj
    split at hj
    · exact hj
    · cases hj
  have hkk : (n : Int) + 1 - (i : Int) = ((n + 1 - i : Nat) : Int) := by omega
  have hik : i + (n + 1 - i) = n + 1 := by omega
  have hold : (Builtin.firstCells i0.size i (.slice (some ⟨g, 0, none⟩) i c)).run Try.prog w.drew = .ok (cs.take (i * 2)).toArray w.drew := by
    rw [hzs]
    exact run_firstCells_some w.drew 2 i ⟨g, 0, none⟩ i c (cs.take (i * 2)) (by rw [List.length_take]; omega) (fun j v hj => by
      rw [add_plain]
      rw [List.getElem?_take] at hj
      split at hj
      · exact hcell w.drew rfl j v hj
      · cases hj)
  have hrz : ∀ ty, (Builtin.append_ #[23, 3] ty #[.slice (some ⟨g, 0, none⟩) i c, .int .i64 ((n : Int) + 1 - (i : Int))]).run Try.prog w =
      .ok (.slice (some ⟨w.heap.size, 0, none⟩) (n + 1) (grownCap w (n + 1) c 55)) (w.drew.alloc (.cells ((cs.take (i * 2)).toArray ++ Builtin.zeroCells (.agg #[.string ⟨#[]⟩, .string ⟨#[]⟩] : Value).cells (n + 1 - i) ++ Builtin.zeroCells (.agg #[.string ⟨#[]⟩, .string ⟨#[]⟩] : Value).cells (grownCap w (n + 1) c 55 - (n + 1))) 55)) := fun ty => by
    have h := Lib.run_append_grow_zeros w 23 3 ty 55 i0 _ .i64 .i64 Try.underlying23 Try.underlying3 hi0 hz0 (some ⟨g, 0, none⟩) i c (cs.take (i * 2)) hold (n + 1 - i) (by omega) (by omega) (by omega) (by omega) (by rw [hzb]; omega) (by rw [hzb, hik]; exact growslice_fits hroom hbig)
    rw [hik] at h
    rw [hkk]
    exact h
  obtain ⟨G, hG⟩ : ∃ G, G = grownCap w (n + 1) c 55 := ⟨_, rfl⟩
  have hGn : n + 1 ≤ G := by rw [hG]; exact grownCap_ge w _ _ _
  have hG63 : G ≤ 9223372036854775807 := by
    have := grownCap_le_maxLen w (n + 1) c 55 (by unfold maxLen; omega)
    rw [← hG] at this
    unfold maxLen at this
    omega
  obtain ⟨ROW, hROW⟩ : ∃ ROW : Array Value, ROW = (cs.take (i * 2)).toArray ++ Builtin.zeroCells (.agg #[.string ⟨#[]⟩, .string ⟨#[]⟩] : Value).cells (n + 1 - i) ++ Builtin.zeroCells (.agg #[.string ⟨#[]⟩, .string ⟨#[]⟩] : Value).cells (G - (n + 1)) := ⟨_, rfl⟩
  rw [← hG] at hrz
  rw [← hROW] at hrz
  have hzc : ∀ m, (Builtin.zeroCells (.agg #[.string ⟨#[]⟩, .string ⟨#[]⟩] : Value).cells m).size = m * 2 := fun m => by simp [Builtin.zeroCells, Value.cells]
  have hRl : ROW.size = G * 2 := by
    rw [hROW, Array.size_append, Array.size_append, hzc, hzc, List.size_toArray, List.length_take]
    omega
  have hRt : ROW.toList.take (i * 2) = cs.take (i * 2) := by
    rw [hROW, Array.toList_append, Array.toList_append, List.append_assoc, List.take_append_of_le_length (by rw [List.length_take]; omega), List.take_of_length_le (by rw [List.length_take]; omega)]
  have hNh : ∀ (W : World), W.heap = (w.drew.alloc (.cells ROW 55)).heap → W.heap[w.heap.size]? = some (.cells ROW 55 (0, 0)) := fun W hW => by rw [hW]; exact blk_new w.drew _
  have hOh : ∀ (W : World), W.heap = (w.drew.alloc (.cells ROW 55)).heap → ∀ k, k < w.heap.size → W.heap[k]? = w.heap[k]? := fun W hW k hk => by rw [hW]; exact (below_alloc (Below.refl w.drew.heap.size w.drew) _).block k hk
  have hcpA : ∀ (W : World), W.heap = (w.drew.alloc (.cells ROW 55)).heap → ∀ ty dc, (Builtin.copy_ #[23, 23] ty #[.slice (some ⟨w.heap.size, i * 2, none⟩) (n + 1 - i) dc, .slice (some ⟨gv, 0, none⟩) 1 1]).run Try.prog W = .ok (goInt 1) (W.setCells w.heap.size (i * 2) cx) := fun W hW ty dc =>
    Kd.run_copy_cells_sz W _ _ ty 55 w.heap.size (i * 2) (n + 1 - i) dc ⟨gv, 0, none⟩ 1 1 1 2 cx Try.underlying23 hsz (by simp only [Nat.min_def]; split <;> omega) (by omega)
      (fun j v hj => by rw [add_plain, cell_of_row W gv _ cx.toArray 55 (0, 0) (by rw [hOh W hW gv hvw]; exact hgv)]; simpa using hj)
      (fun j hj => by rw [cell_of_row W _ _ ROW 55 (0, 0) (hNh W hW)]; simp; omega) (fun j hj => blk_frozen (hNh W hW) _) h1v
  obtain ⟨cur1, hh1, hc1, ht1⟩ := setCells_row cx (i * 2) (w.drew.alloc (.cells ROW 55)) ROW (hNh _ rfl) (by omega)
  have hcpB : ∀ (W : World), W.heap = ((w.drew.alloc (.cells ROW 55)).setCells w.heap.size (i * 2) cx).heap → ∀ ty dc sc, (Builtin.copy_ #[23, 23] ty #[.slice (some ⟨w.heap.size, (i + 1) * 2, none⟩) (n - i) dc, .slice (some ⟨g, i * 2, none⟩) (n - i) sc]).run Try.prog W = .ok (goInt ((n - i : Nat) : Int)) (W.setCells w.heap.size ((i + 1) * 2) (cs.drop (i * 2))) := fun W hW ty dc sc =>
    Kd.run_copy_cells_sz W _ _ ty 55 w.heap.size ((i + 1) * 2) (n - i) dc ⟨g, i * 2, none⟩ (n - i) sc (n - i) 2 (cs.drop (i * 2)) Try.underlying23 hsz (by simp only [Nat.min_def]; split <;> omega) (by rw [List.length_drop, hcl]; omega)
      (fun j v hj => by rw [Kd.add_plain2]; exact hcell W (by rw [hW, setCells_far _ _ g (by omega)]; exact hOh _ rfl g hgw) _ v (by rwa [List.getElem?_drop] at hj))
      (fun j hj => by rw [cell_of_row W _ _ cur1 55 (0, 0) (by rw [hW]; exact hh1)]; rw [List.length_drop, hcl] at hj; simp; omega) (fun j hj => blk_frozen (by rw [hW]; exact hh1) _) (fun v hv => h1c v (List.mem_of_mem_drop hv))
  have hGi : ¬ (G = i) := by omega
  have hGim : ¬ (G = i + 1) := by omega
  have hci : ¬ (c = i) := by omega
  have hz2 : ¬ ((i : Int) = (n : Int)) := by omega
  have hz3 : (c : Int) < (n : Int) + 1 := by omega
  have hw1 : IntKind.i64.wrap ((i : Int) + 1) = (i : Int) + 1 := by rw [IntKind.wrap_i64]; omega
  have hw2 : IntKind.i64.wrap ((n : Int) + 1) = (n : Int) + 1 := by rw [IntKind.wrap_i64]; omega
  have hw3 : IntKind.i64.wrap ((n : Int) + 1 - (i : Int)) = (n : Int) + 1 - (i : Int) := by rw [IntKind.wrap_i64]; omega
  have hb1 : (0 : Int) ≤ (i : Int) + 1 := by omega
  have hin : i ≤ n := by omega
  have htn : ((i : Int) + 1).toNat = i + 1 := by omega
  have hb3 : (i : Int) ≤ (n : Int) := by omega
  have hF : ((w.alloc (.cells ROW 55)).drew.setCells w.heap.size (i * 2) cx).drew.heap = ((w.drew.alloc (.cells ROW 55)).setCells w.heap.size (i * 2) cx).heap := rfl
  have hX1 := hcpA ((w.alloc (.cells ROW 55)).drew) rfl
  have hX2 := hcpB _ hF
  clear hcell hkk hik hold hROW hG hNh hOh hcpA hcpB hh1 hc1 ht1 hF
  go_enter Try.func24, Try.ntmps24
  go_wp2_with (first
    | ((with_reducible refine gate_builtin (b := .append) (xs := #[.tmp 34, .tmp 39]) rfl ?_); at_builtin; refine Lib.wpList_append_run _ rfl _ _ _ _ rfl _ _ rfl rfl _ _ (hrz _) ?_)
    | ((with_reducible refine gate_builtin (b := .copy) (xs := #[.tmp 43, .tmp 44]) rfl ?_); at_builtin; refine Kd.wpList_copy_run _ rfl _ _ 23 23 rfl _ _ rfl rfl (hX1 _ _) ?_))
  go_region_law (refine Kd.step_copy_run rfl _ _ 23 23 rfl _ _ (by simp [Act.eval, Act.put]) (by simp [Act.eval, Act.put]) (hX2 _ _ _) ?_)
  go_wp2
  go_ret
  exact ⟨G, ROW, hGn, hG63, hRl, hRt, rfl, rfl⟩
set_option maxHeartbeats 2000000 in
/-- slices.Insert of one element into a row of the call's own. -/
theorem api_File_24.ins (B gv i : Nat) (v : Value) (xs : List S55) (x : S55) (W : World) (hi : i ≤ xs.length) (hgv : W.heap[gv]? = some (.cells (api_File_24.ins_cells x).toArray 55 (0, 0))) (HO : Kd.R k55 55 W B (fun z => z ≠ gv) v xs) (hB : B ≤ W.heap.size) (hbig : (xs.length + 1) * 32 ≤ 140737488355328) :
    Calls Try.prog 24 #[v, .int .i64 (i : Int), .slice (some ⟨gv, 0, none⟩) 1 1] W fun e w' => ∃ v', e = .returned v' ∧ Kd.R k55 55 w' B (fun _ => True) v' (xs.take i ++ [x] ++ xs.drop i) ∧ Below B W w' := by
  by_cases hie : i = xs.length
  · subst hie
    rw [List.take_length, List.drop_length, List.append_nil]
    exact api_File_24.ins_end B gv v xs x W hgv HO hB hbig
  obtain ⟨hok, inner, hown, hr⟩ := HO
  have hil : inner.length = xs.length * 2 := hr.1
  have h1c : ∀ u ∈ inner, u.oneCell' = true := by
    intro u hu
    obtain ⟨q, hq, rfl⟩ := List.mem_iff_getElem.1 hu
    have hc := hr.2 (q / 2) _ (List.getElem?_eq_getElem (by omega))
    refine k55.K_one (k55.K_of_M hc) _ ?_
    rw [List.mem_iff_getElem?]
    refine ⟨q % 2, ?_⟩
    show ((inner.drop (q / 2 * 2)).take 2)[q % 2]? = _
    rw [List.getElem?_take, if_pos (by omega), List.getElem?_drop, Nat.mul_comm, Nat.div_add_mod, List.getElem?_eq_getElem hq]
  have h1v : ∀ u ∈ api_File_24.ins_cells x, u.oneCell' = true := fun u hu => k55.K_one (k55_mk W x) u hu
  have hrx : Reps (k55.M W B (fun k => k ≠ gv ∧ some k ≠ v.ownBlock)) k55.sz (xs.take i ++ [x] ++ xs.drop i) (inner.take (i * 2) ++ api_File_24.ins_cells x ++ inner.drop (i * 2)) := Kd.reps_put hr (k55_mkM _ _ _ _) rfl hi
  have hxl : (xs.take i ++ [x] ++ xs.drop i).length = xs.length + 1 := by simp; omega
  rcases hown.2 with ⟨rfl, hn0⟩ | ⟨g, cap, cur, rfl, hgB, hh, hnc, hcm, hcs, htake⟩
  · omega
  have hgne : gv ≠ g := fun e => hok g (by simp [Value.ownBlock]) e.symm
  have hcs' : cur.size = cap * 2 := hcs
  have htake' : cur.toList.take (xs.length * 2) = inner := htake
  have hlo : g < W.heap.size := (Array.getElem?_eq_some_iff.1 hh).1
  by_cases hroom : xs.length + 1 ≤ cap
  · refine (api_File_24.ins_room g xs.length cap i gv inner (api_File_24.ins_cells x) cur W (by omega) hroom hcm hgne hh hcs' htake' hgv rfl h1c h1v).mono ?_
    rintro e w' ⟨rfl, rfl⟩
    obtain ⟨cur1, hh1, hc1, ht1⟩ := setCells_row (inner.drop (i * 2)) ((i + 1) * 2) W.drew cur hh (by rw [List.length_drop]; omega)
    obtain ⟨cur2, hh2, hc2, ht2⟩ := setCells_row (api_File_24.ins_cells x) (i * 2) (W.drew.setCells g ((i + 1) * 2) (inner.drop (i * 2))) cur1 hh1 (by show i * 2 + 2 ≤ _; omega)
    refine ⟨_, rfl, ?_, ?_⟩
    · rw [← hxl]
      refine Kd.R_of_row api_File_24.ins_flat hrx hh2 hgB (by rw [hxl]; exact hroom) hcm (by show cur2.size = cap * 2; omega) ?_ trivial rfl
      rw [hxl, ht2, ht1]
      show List.take ((xs.length + 1) * 2) _ = _
      have hx2 : (api_File_24.ins_cells x).length = 2 := rfl
      have e1 : (cur.toList.take ((i + 1) * 2) ++ inner.drop (i * 2) ++ cur.toList.drop ((i + 1) * 2 + (inner.drop (i * 2)).length)).take (i * 2) = inner.take (i * 2) := by
        rw [List.append_assoc, List.take_append_of_le_length (by rw [List.length_take, Array.length_toList]; omega), List.take_take, ← htake', List.take_take]
        congr 1
        omega
      have e2 : ((cur.toList.take ((i + 1) * 2) ++ inner.drop (i * 2) ++ cur.toList.drop ((i + 1) * 2 + (inner.drop (i * 2)).length)).drop (i * 2 + (api_File_24.ins_cells x).length)).take ((xs.length + 1) * 2 - (i * 2 + 2)) = inner.drop (i * 2) := by
        have hl1 : (cur.toList.take ((i + 1) * 2)).length = i * 2 + 2 := by rw [List.length_take, Array.length_toList]; omega
        rw [hx2, List.append_assoc, ← hl1, List.drop_left, List.take_append_of_le_length (by rw [List.length_drop]; omega), List.take_of_length_le (by rw [List.length_drop]; omega)]
      rw [e1]
      rw [List.take_append, List.take_of_length_le (by rw [List.length_append, List.length_take]; omega)]
      congr 1
      rw [List.length_append, List.length_take, hx2, show min (i * 2) inner.length = i * 2 by omega]
      exact e2
    · exact Kd.below_setCells (Kd.below_setCells (below_drew1 (Below.refl _ _)) hgB) hgB
  · refine (api_File_24.ins_grow g xs.length cap i gv inner (api_File_24.ins_cells x) cur W (by omega) hnc (by omega) hbig hh hcs' htake' hgv rfl h1c h1v).mono ?_
    rintro e w' ⟨G, ROW, hGn, hG63, hRl, hRt, rfl, rfl⟩
    have hN : ((W.alloc (.cells ROW 55)).drew).heap[W.heap.size]? = some (.cells ROW 55 (0, 0)) := blk_new W _
    obtain ⟨cur1, hh1, hc1, ht1⟩ := setCells_row (api_File_24.ins_cells x) (i * 2) ((W.alloc (.cells ROW 55)).drew) ROW hN (by show i * 2 + 2 ≤ _; omega)
    obtain ⟨cur2, hh2, hc2, ht2⟩ := setCells_row (inner.drop (i * 2)) ((i + 1) * 2) (((W.alloc (.cells ROW 55)).drew.setCells W.heap.size (i * 2) (api_File_24.ins_cells x)).drew) cur1 hh1 (by rw [List.length_drop]; omega)
    refine ⟨_, rfl, ?_, ?_⟩
    · rw [← hxl]
      refine Kd.R_of_row api_File_24.ins_flat hrx hh2 hB (by rw [hxl]; exact hGn) hG63 (by show cur2.size = G * 2; omega) ?_ trivial rfl
      rw [hxl, ht2, ht1]
      show List.take ((xs.length + 1) * 2) _ = _
      have hx2 : (api_File_24.ins_cells x).length = 2 := rfl
      have e1 : (ROW.toList.take (i * 2) ++ api_File_24.ins_cells x ++ ROW.toList.drop (i * 2 + (api_File_24.ins_cells x).length)).take ((i + 1) * 2) = inner.take (i * 2) ++ api_File_24.ins_cells x := by
        rw [List.take_append_of_le_length (by rw [List.length_append, List.length_take, Array.length_toList, hx2]; omega), List.take_of_length_le (by rw [List.length_append, List.length_take, hx2]; omega), hRt]
      rw [e1, List.take_append_of_le_length (by rw [List.length_append, List.length_append, List.length_take, List.length_drop, hx2]; omega), List.take_of_length_le (by rw [List.length_append, List.length_append, List.length_take, List.length_drop, hx2]; omega)]
    · exact Kd.below_setCells (below_drew1 (Kd.below_setCells (below_drew1 ((Below.refl B W).alloc hB _)) hB)) hB


/-! ### file_Put: function 16 -/
def file_Put.put (l : List S55) (n v : ByteArray) : List S55 := if file_find.hit l n = true then l.set (file_find.find_i l n) ⟨n, v⟩ else l.take (file_find.find_i l n) ++ [⟨n, v⟩] ++ l.drop (file_find.find_i l n)
def file_Put.f (l0 : List S55) (a1 : ByteArray) (a2 : ByteArray) : Option (List S55 × Int) := (file_isName.f a1).bind fun ok => if l0.length < 1099511627776 then (if ok = true then (if (a2.size : Int) > 4000 then some ([], 3) else if file_find.hit l0 a1 = false ∧ (l0.length : Int) ≥ 20 then some ([], 3) else some (file_Put.put l0 a1 a2, 0)) else some ([], 1)) else none
set_option maxHeartbeats 8000000 in
set_option maxRecDepth 100000 in
theorem file_Put.calls (A0 : Option Addr) (c0 : Nat) (l0 : List S55) (a1 : ByteArray) (a2 : ByteArray) (r1 : List S55) (r2 : Int) (w : World) (hr0 : Kd.C k55 w A0 l0.length l0) (hc0 : l0.length ≤ c0) (h : file_Put.f l0 a1 a2 = some (r1, r2)) :
    Calls Try.prog 16 #[.slice A0 l0.length c0, .string a1, .string a2] w fun e w' => ∃ v0_ : Value, e = .returned (.tuple #[v0_, .int .i64 r2]) ∧ Kd.R k55 55 w' w.heap.size (fun _ => True) v0_ r1 ∧ Below w.heap.size w w' := by
  unfold file_Put.f at h
  obtain ⟨ok, hok, h⟩ := Option.bind_eq_some_iff.1 h
  have HN := Aside0.mk hok
  clear hok
  by_cases hl : l0.length < 1099511627776
  · rw [if_pos hl] at h
    have HR := Aside0.mk hr0
    have HC := Aside0.mk hc0
    have HF : Aside0 (file_find.f l0 a1 = some ((file_find.find_i l0 a1 : Int), file_find.hit l0 a1)) := ⟨by rw [file_find.f, if_pos (by omega)]⟩
    have HCL : Aside0 (api_File_23.f l0 = some l0) := ⟨by
      rw [api_File_23.f, Option.bind_some, if_pos (by simp; omega)]
      rfl⟩
    have HLB : Aside0 ((l0.length + 1) * 32 ≤ 140737488355328) := ⟨by omega⟩
    have HI : Aside0 (file_find.find_i l0 a1 ≤ l0.length) := ⟨file_find.find_i_le l0 a1⟩
    have HLT : Aside0 (file_find.hit l0 a1 = true → file_find.find_i l0 a1 < l0.length) := ⟨fun e => by
      unfold file_find.hit at e
      rw [Bool.and_eq_true, decide_eq_true_eq] at e
      exact e.1⟩
    clear hr0 hc0 hl
    cases ok with
    | false =>
      rw [if_neg (by simp)] at h
      injection h with h
      injection h with h1 h2
      subst h1 h2
      go_enter Try.func16, Try.ntmps16
      go_wp2_with (go_at_call 22; go_must ((with_reducible refine (file_isName.calls a1 false _ HN.out).mono ?_); rintro e w1 ⟨rfl, hb⟩; have HB := Aside0.mk hb; clear hb))
      go_ret2
      exact ⟨_, rfl, Kd.R_nil _ _ _ _ _, HB.out⟩
    | true =>
      rw [if_pos rfl] at h
      unfold file_Put.put at h
      generalize file_find.find_i l0 a1 = i at *
      generalize file_find.hit l0 a1 = hit at *
      by_cases c1 : (a2.size : Int) > 4000
      · rw [if_pos c1] at h
        injection h with h
        injection h with h1 h2
        subst h1 h2
        have hd1 : decide ((a2.size : Int) > 4000) = true := decide_eq_true c1
        have hd2 : decide ((4000 : Int) < (a2.size : Int)) = true := decide_eq_true c1
        clear c1
        go_enter Try.func16, Try.ntmps16
        go_wp2_with (first
          | (go_at_call 22; go_must ((with_reducible refine (file_isName.calls a1 true _ HN.out).mono ?_); rintro e w1 ⟨rfl, hb⟩; have HB := Aside0.mk hb; clear hb))
          | (go_at_call 21; go_must ((with_reducible refine (file_find.calls A0 c0 l0 a1 _ _ _ ?s1 ?s2 HF.out).mono ?_); (case s1 => exact Kd.C_below HR.out HB.out); (case s2 => exact HC.out); rintro e w2 ⟨rfl, hb2⟩; have HB2 := Aside0.mk (below_step HB.out hb2); clear hb2)))
        go_ret2
        exact ⟨_, rfl, Kd.R_nil _ _ _ _ _, HB2.out⟩
      · rw [if_neg c1] at h
        have hd1 : decide ((a2.size : Int) > 4000) = false := decide_eq_false c1
        have hd2 : decide ((4000 : Int) < (a2.size : Int)) = false := decide_eq_false c1
        clear c1
        cases hit with
        | true =>
          rw [if_neg (by simp), if_pos rfl] at h
          injection h with h
          injection h with h1 h2
          subst h1 h2
          have hil := HLT.out rfl
          have HIL := Aside0.mk hil
          have hi1 : (0 ≤ (i : Int)) = True := eq_true (by omega)
          have hi2 : ((i : Int) < (l0.length : Int)) = True := eq_true (by omega)
          have hi3 : (i < l0.length) = True := eq_true hil
          clear hil
          go_enter Try.func16, Try.ntmps16
          go_wp2_with (first
            | (go_at_call 22; go_must ((with_reducible refine (file_isName.calls a1 true _ HN.out).mono ?_); rintro e w1 ⟨rfl, hb⟩; have HB := Aside0.mk hb; clear hb))
            | (go_at_call 21; go_must ((with_reducible refine (file_find.calls A0 c0 l0 a1 _ _ _ ?s1 ?s2 HF.out).mono ?_); (case s1 => exact Kd.C_below HR.out HB.out); (case s2 => exact HC.out); rintro e w2 ⟨rfl, hb2⟩; have HB2 := Aside0.mk (below_step HB.out hb2); clear hb2))
            | (go_at_call 23; go_must ((with_reducible refine (api_File_23.calls A0 c0 l0 l0 _ ?s1 ?s2 HCL.out).mono ?_); (case s1 => exact Kd.C_below HR.out (HB2.out.alloc HB2.out.size _)); (case s2 => exact HC.out); rintro e w3 ⟨v0, rfl, ho, hb3⟩; obtain ⟨g, cap, hv, hcap⟩ := Kd.own_some ho (by have := HIL.out; omega); subst hv; have HX3 : Aside0 (w3.heap[w2.heap.size]? = some (.cells #[.string a1, .string a2] 55 (0, 0))) := ⟨(hb3.block w2.heap.size (by simp)).trans (blk_new w2 _)⟩; have HB3 := Aside0.mk (below_step (HB2.out.alloc HB2.out.size _) hb3); have HO3 := Aside0.mk (Kd.R_lower ho (below_size (HB2.out.alloc HB2.out.size _))); have hcz0 := blk_cell HX3.out 0; have hcz1 := blk_cell HX3.out 1; simp only [List.getElem?_toArray, List.getElem?_cons_zero, List.getElem?_cons_succ] at hcz0 hcz1; clear hb3 ho hcap))
            | ((with_reducible refine gate_ (.store 55 (.tmp 42) (.tmp 41)) rfl ?_); go_must (obtain ⟨cc, hccl, hcc⟩ := Kd.R_cellsAt HO3.out i HIL.out; refine Kd.R_store k55 (w0 := w) w.heap.size rfl rfl 55 (.tmp 42) (.tmp 41) rfl 55 (i : Int) 0 l0 ⟨a1, a2⟩ (.agg #[.string a1, .string a2]) [.string a1, .string a2] cc (fun _ => True) (fun _ => False) rfl ?t1 rfl rfl (by kernel_rfl) ?t2 HO3.out (by omega) ?t3 hccl ?t4 (Nat.le_refl 2) ?t5 (fun _ hk => hk.elim) HB3.out ?_; (case t1 => show i * 2 = ((i : Int)).toNat * 2 + 0; omega); (case t2 => simp [Value.oneCell']); (case t3 => have := HIL.out; omega); (case t4 => intro j u hj; have := hcc j u hj; simpa using this); (case t5 => rw [List.take_zero, List.nil_append, List.drop_of_length_le (by rw [hccl]; exact Nat.le_refl 2), List.append_nil]; exact k55_mkM _ _ _ _); intro w4 ho4 hb4 hg4; have HO4 := Aside0.mk ho4; have HB4 := Aside0.mk hb4; clear ho4 hb4 hg4)))
          go_ret2
          exact ⟨_, rfl, by simpa using HO4.out, HB4.out⟩
        | false =>
          by_cases c2 : (l0.length : Int) ≥ 20
          · rw [if_pos ⟨rfl, c2⟩] at h
            injection h with h
            injection h with h1 h2
            subst h1 h2
            have hd3 : decide ((l0.length : Int) ≥ 20) = true := decide_eq_true c2
            have hd4 : decide ((20 : Int) ≤ (l0.length : Int)) = true := decide_eq_true c2
            clear c2
            go_enter Try.func16, Try.ntmps16
            go_wp2_with (first
              | (go_at_call 22; go_must ((with_reducible refine (file_isName.calls a1 true _ HN.out).mono ?_); rintro e w1 ⟨rfl, hb⟩; have HB := Aside0.mk hb; clear hb))
              | (go_at_call 21; go_must ((with_reducible refine (file_find.calls A0 c0 l0 a1 _ _ _ ?s1 ?s2 HF.out).mono ?_); (case s1 => exact Kd.C_below HR.out HB.out); (case s2 => exact HC.out); rintro e w2 ⟨rfl, hb2⟩; have HB2 := Aside0.mk (below_step HB.out hb2); clear hb2)))
            go_ret2
            exact ⟨_, rfl, Kd.R_nil _ _ _ _ _, HB2.out⟩
          · rw [if_neg (fun e => c2 e.2), if_neg (by simp)] at h
            injection h with h
            injection h with h1 h2
            subst h1 h2
            have hd3 : decide ((l0.length : Int) ≥ 20) = false := decide_eq_false c2
            have hd4 : decide ((20 : Int) ≤ (l0.length : Int)) = false := decide_eq_false c2
            clear c2
            go_enter Try.func16, Try.ntmps16
            go_wp2_with (first
              | (go_at_call 22; go_must ((with_reducible refine (file_isName.calls a1 true _ HN.out).mono ?_); rintro e w1 ⟨rfl, hb⟩; have HB := Aside0.mk hb; clear hb))
              | (go_at_call 21; go_must ((with_reducible refine (file_find.calls A0 c0 l0 a1 _ _ _ ?s1 ?s2 HF.out).mono ?_); (case s1 => exact Kd.C_below HR.out HB.out); (case s2 => exact HC.out); rintro e w2 ⟨rfl, hb2⟩; have HB2 := Aside0.mk (below_step HB.out hb2); clear hb2))
              | (go_at_call 23; go_must ((with_reducible refine (api_File_23.calls A0 c0 l0 l0 _ ?s1 ?s2 HCL.out).mono ?_); (case s1 => exact Kd.C_below HR.out (HB2.out.alloc HB2.out.size _)); (case s2 => exact HC.out); rintro e w3 ⟨v0, rfl, ho, hb3⟩; have HX3 : Aside0 (w3.heap[w2.heap.size]? = some (.cells #[.string a1, .string a2] 55 (0, 0))) := ⟨(hb3.block w2.heap.size (by simp)).trans (blk_new w2 _)⟩; have HB3 := Aside0.mk (below_step (HB2.out.alloc HB2.out.size _) hb3); have HO3 := Aside0.mk (Kd.R_alloc (Kd.R_mono (Kd.R_bound (Kd.R_lower ho (below_size (HB2.out.alloc HB2.out.size _)))) (fun k hk => show k ≠ w3.heap.size by have := hk.2.2.1; omega)) (.cells (api_File_24.ins_cells ⟨a1, a2⟩).toArray 55 (0, 0))); have hcz0 := blk_cell HX3.out 0; have hcz1 := blk_cell HX3.out 1; simp only [List.getElem?_toArray, List.getElem?_cons_zero, List.getElem?_cons_succ] at hcz0 hcz1; clear hb3 ho))
              | (go_at_call 24; go_must ((with_reducible refine (api_File_24.ins w.heap.size w3.heap.size i v0 l0 ⟨a1, a2⟩ _ ?s1 ?s2 ?s3 ?s4 ?s5).mono ?_); (case s1 => exact HI.out); (case s2 => exact blk_new w3 _); (case s3 => exact HO3.out); (case s4 => have := HB3.out.size; simp; omega); (case s5 => exact HLB.out); rintro e w5 ⟨v5, rfl, ho5, hb5⟩; have HO5 := Aside0.mk ho5; have HB5 := Aside0.mk (((HB3.out).alloc (HB3.out.size) _).trans hb5); clear ho5 hb5)))
            go_ret2
            exact ⟨_, rfl, HO5.out, HB5.out⟩
  · rw [if_neg hl] at h
    cases h


end Go.Proofs.Ytikninibkljnnaa.QPortLines
