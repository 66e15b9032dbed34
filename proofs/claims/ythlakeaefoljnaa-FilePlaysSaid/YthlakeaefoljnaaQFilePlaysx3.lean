-- Written by a program of this session (wip/tools), out of the kit's print of the loaded program: functions, and proofs that the calls come to them.
import Derived.Test.YthlakeaefoljnaaQFilePlaysx0
import Derived.Test.YthlakeaefoljnaaQFilePlaysx1
import Derived.Test.YthlakeaefoljnaaQFilePlaysx2
namespace Go.Proofs.Ythlakeaefoljnaa.QFilePlays
open Go.RowKit Go.Proofs.YthlakeaefoljnaaW.PrintWords Go.Proofs.YthlakeaefoljnaaW.PrintLast Go.Proofs.YthlakeaefoljnaaW.PrintMore
attribute [local go_sem] max2_int min2_int max_two min_two max_three min_three max_four min_four   -- for this text's walks alone
set_option linter.unusedVariables false
set_option linter.unusedSimpArgs false

attribute [local go_sem high] eqA90
/-! ### api_File_56: function 56 -/
theorem api_File_56.ins_flat : Kd.Flat k90 := fun w w' base ok ok' x cs h => by
  obtain rfl := k90_openM h
  exact k90_mkM _ _ _ _
theorem api_File_56.ins_info : (Try.prog.info? 90).map (fun i => (i.zero, i.size, i.bytes)) = some (some (.agg #[.string ⟨#[]⟩, .string ⟨#[]⟩]), 2, 32) := by kernel_rfl
def api_File_56.ins_cells (x : S90) : List Value := [.string x.f0, .string x.f1]
theorem api_File_56.ins_lit {W : World} {g : Nat} {x : S90} (h : W.heap[g]? = some (.cells (api_File_56.ins_cells x).toArray 90 (0, 0))) : Kd.C k90 W (some ⟨g, 0, none⟩) 1 [x] :=
  ⟨rfl, by omega, fun _ => ⟨_, rfl, fun j p hj => by
    have hj0 : j = 0 := by have := (List.getElem?_eq_some_iff.1 hj).1; simpa using this
    subst hj0
    obtain rfl : x = p := by simpa using hj
    refine ⟨_, rfl, k90_mk _ _, fun i u hu => ?_⟩
    have e : k90.sz = 2 := rfl
    have ha : (⟨g, 0, none⟩ : Addr).add (0 * k90.sz + i) = ⟨g, i, none⟩ := by rw [Nat.zero_mul, Nat.zero_add]; exact add_plain _ _
    rw [ha, blk_cell h]
    simpa [api_File_56.ins_cells] using hu⟩⟩
set_option maxHeartbeats 4000000 in
set_option maxRecDepth 100000 in
/-- slices.Insert behind the last element: an append. -/
theorem api_File_56.ins_end (B gv : Nat) (v : Value) (xs : List S90) (x : S90) (W : World) (hgv : W.heap[gv]? = some (.cells (api_File_56.ins_cells x).toArray 90 (0, 0))) (HO : Kd.R k90 90 W B (fun z => z ≠ gv) v xs) (hB : B ≤ W.heap.size) (hbig : (xs.length + 1) * 32 ≤ 140737488355328) :
    Calls Try.prog 56 #[v, .int .i64 (xs.length : Int), .slice (some ⟨gv, 0, none⟩) 1 1] W fun e w' => ∃ v', e = .returned v' ∧ Kd.R k90 90 w' B (fun _ => True) v' (xs ++ [x]) ∧ Below B W w' := by
  have HRx : Aside0 (ReadsRow (k90.K W) k90.sz W (some ⟨gv, 0, none⟩) 1 [x]) := ⟨api_File_56.ins_lit hgv⟩
  have hlt : gv < W.heap.size := (Array.getElem?_eq_some_iff.1 hgv).1
  have HOx := Aside0.mk HO
  obtain ⟨hok, inner, hown, hr⟩ := HO
  rcases hown.2 with ⟨rfl, hn0⟩ | ⟨g, cap, cur, rfl, hgB, hh, hnc, hcm, hcs, htake⟩
  · obtain rfl : xs = [] := List.eq_nil_of_length_eq_zero hn0
    clear hgv hok hown hr hn0
    simp only [List.length_nil] at hbig ⊢
    go_enter Try.func56, Try.ntmps56
    go_wp2_with ((with_reducible refine gate_builtin (b := .append) (xs := #[.tmp 23, .tmp 24]) rfl ?_); at_builtin; go_must (refine Kd.R_append_rows k90 (w0 := W) B rfl (.tmp 23) (.tmp 24) 46 90 (.agg #[.string ⟨#[]⟩, .string ⟨#[]⟩]) 32 rfl Try.underlying46 api_File_56.ins_info rfl (by decide) (by decide) _ ([] : List S90) [x] (some ⟨gv, 0, none⟩) 1 1 (fun z => z ≠ gv) (fun _ => False) rfl rfl ?aO ?aR (fun _ _ h => h) ?aP ?aF ?aB ?aS ?aL ?_; (case aO => exact HOx.out); (case aR => exact HRx.out); (case aP => exact fun _ hk => hk.elim); (case aF => exact fun k hk => by omega); (case aB => exact Below.refl _ _); (case aS => exact hB); (case aL => exact hbig)); intro v1 w1 ho hb hg hat; have HO1 := Aside0.mk ho; have HB1 := Aside0.mk hb; clear ho hb hg hat)
    go_ret
    exact ⟨_, rfl, Kd.R_mono HO1.out (fun _ _ => trivial), HB1.out⟩
  · have h1 : ((xs.length : Int) ≤ (xs.length : Int)) = True := eq_true (by omega)
    have h2 : ((0 : Int) ≤ (xs.length : Int)) = True := eq_true (by omega)
    have hc0 : Aside0 (xs.length ≤ cap) := ⟨hnc⟩
    clear hgv hok hown hr hh hcs htake hgB hcm inner cur
    by_cases hce : cap = xs.length
    · subst hce
      clear hnc
      go_enter Try.func56, Try.ntmps56
      go_wp2_with ((with_reducible refine gate_builtin (b := .append) (xs := #[.tmp 23, .tmp 24]) rfl ?_); at_builtin; go_must (refine Kd.R_append_rows k90 (w0 := W) B rfl (.tmp 23) (.tmp 24) 46 90 (.agg #[.string ⟨#[]⟩, .string ⟨#[]⟩]) 32 rfl Try.underlying46 api_File_56.ins_info rfl (by decide) (by decide) _ xs [x] (some ⟨gv, 0, none⟩) 1 1 (fun z => z ≠ gv) (fun _ => False) rfl rfl ?aO ?aR (fun _ _ h => h) ?aP ?aF ?aB ?aS ?aL ?_; (case aO => exact HOx.out); (case aR => exact HRx.out); (case aP => exact fun _ hk => hk.elim); (case aF => exact fun k hk => by omega); (case aB => exact Below.refl _ _); (case aS => exact hB); (case aL => exact hbig)); intro v1 w1 ho hb hg hat; have HO1 := Aside0.mk ho; have HB1 := Aside0.mk hb; clear ho hb hg hat)
      go_ret
      exact ⟨_, rfl, Kd.R_mono HO1.out (fun _ _ => trivial), HB1.out⟩
    · go_enter Try.func56, Try.ntmps56
      go_wp2_with ((with_reducible refine gate_builtin (b := .append) (xs := #[.tmp 23, .tmp 24]) rfl ?_); at_builtin; go_must (refine Kd.R_append_rows k90 (w0 := W) B rfl (.tmp 23) (.tmp 24) 46 90 (.agg #[.string ⟨#[]⟩, .string ⟨#[]⟩]) 32 rfl Try.underlying46 api_File_56.ins_info rfl (by decide) (by decide) _ xs [x] (some ⟨gv, 0, none⟩) 1 1 (fun z => z ≠ gv) (fun _ => False) rfl rfl ?aO ?aR (fun _ _ h => h) ?aP ?aF ?aB ?aS ?aL ?_; (case aO => exact HOx.out); (case aR => exact HRx.out); (case aP => exact fun _ hk => hk.elim); (case aF => exact fun k hk => by omega); (case aB => exact Below.refl _ _); (case aS => exact hB); (case aL => exact hbig)); intro v1 w1 ho hb hg hat; have HO1 := Aside0.mk ho; have HB1 := Aside0.mk hb; clear ho hb hg hat)
      go_ret
      exact ⟨_, rfl, Kd.R_mono HO1.out (fun _ _ => trivial), HB1.out⟩
set_option maxHeartbeats 4000000 in
set_option maxRecDepth 100000 in
/-- slices.Insert, room for one more: in place. -/
theorem api_File_56.ins_room (g n c i gv : Nat) (cs cx : List Value) (cur : Array Value) (w : World) (hi : i < n) (hroom : n + 1 ≤ c) (hc63 : c ≤ 9223372036854775807) (hne : gv ≠ g) (hh : w.heap[g]? = some (.cells cur 90 (0, 0))) (hcur : cur.size = c * 2)
    (htake : cur.toList.take (n * 2) = cs) (hgv : w.heap[gv]? = some (.cells cx.toArray 90 (0, 0))) (hvl : cx.length = 2) (h1c : ∀ v ∈ cs, v.oneCell' = true) (h1v : ∀ v ∈ cx, v.oneCell' = true) :
    Calls Try.prog 56 #[.slice (some ⟨g, 0, none⟩) n c, .int .i64 (i : Int), .slice (some ⟨gv, 0, none⟩) 1 1] w fun e w' => e = .returned (.slice (some ⟨g, 0, none⟩) (n + 1) c) ∧ w' = (w.drew.setCells g ((i + 1) * 2) (cs.drop (i * 2))).setCells g (i * 2) cx := by
  have hcl : cs.length = n * 2 := by rw [← htake, List.length_take, Array.length_toList]; omega
  have hsz : (Try.prog.info? 90).map (·.size) = some 2 := by
    obtain ⟨i0, hi0, h0, h1, h2⟩ := info_parts api_File_56.ins_info
    rw [hi0]; simp [h1]
  have hcell : ∀ (W : World), W.heap = w.heap → ∀ j v, cs[j]? = some v → W.cell? ⟨g, j, none⟩ = some v := fun W hW j v hj => by
    have hjl : j < cs.length := (List.getElem?_eq_some_iff.1 hj).1
    rw [cell_of_row W g _ cur 90 (0, 0) (by rw [hW]; exact hh), ← Array.getElem?_toList]
    rw [← htake, List.getElem?_take] at hj
    split at hj
    · exact hj
    · cases hj
  have hsome : ∀ (W : World), W.heap = w.heap → ∀ j, j < c * 2 → (W.cell? ⟨g, j, none⟩).isSome = true := fun W hW j hj => by
    rw [cell_of_row W g _ cur 90 (0, 0) (by rw [hW]; exact hh)]
    simp; omega
  have hov : ∀ lb cb, (callFunc 80 #[.slice (some ⟨gv, 0, none⟩) 1 1, .slice (some ⟨g, (i + 1) * 2, none⟩) lb cb]).run Try.prog w = .ok (.value (.bool false)) w := fun lb cb => by
    rw [run_callFunc_extern Try.func80 (by kernel_rfl) (by kernel_rfl) (by kernel_rfl) (e := Extern.SlicesOverlaps.overlaps #[46, 46] #[4]) (by kernel_rfl),
      Lib.run_overlaps_apart w 46 4 90 Try.underlying46 2 Try.sizeOf90 ⟨gv, 0, none⟩ ⟨g, (i + 1) * 2, none⟩ 1 1 lb cb hne 90 90 2 (c * 2) (by simp [World.shape?, hgv, hvl]) (by simp [World.shape?, hh, hcur]) (by omega) (blk_frozen hgv _) (blk_frozen hgv _)]
    rfl
  have hcp1 : ∀ (W : World), W.heap = w.heap → ∀ ty dc sc, (Builtin.copy_ #[46, 46] ty #[.slice (some ⟨g, (i + 1) * 2, none⟩) (n - i) dc, .slice (some ⟨g, i * 2, none⟩) (n + 1 - i) sc]).run Try.prog W = .ok (goInt ((n - i : Nat) : Int)) (W.setCells g ((i + 1) * 2) (cs.drop (i * 2))) := fun W hW ty dc sc =>
    Kd.run_copy_cells_sz W _ _ ty 90 g ((i + 1) * 2) (n - i) dc ⟨g, i * 2, none⟩ (n + 1 - i) sc (n - i) 2 (cs.drop (i * 2)) Try.underlying46 hsz (by simp only [Nat.min_def]; split <;> omega) (by rw [List.length_drop, hcl]; omega)
      (fun j v hj => by rw [Kd.add_plain2]; exact hcell W hW _ v (by rwa [List.getElem?_drop] at hj)) (fun j hj => hsome W hW _ (by rw [List.length_drop, hcl] at hj; omega)) (fun j hj => blk_frozen (by rw [hW]; exact hh) _) (fun v hv => h1c v (List.mem_of_mem_drop hv))
  obtain ⟨cur1, hh1, hc1, ht1⟩ := setCells_row (cs.drop (i * 2)) ((i + 1) * 2) w cur hh (by rw [List.length_drop, hcl, hcur]; omega)
  have hgv1 : (w.setCells g ((i + 1) * 2) (cs.drop (i * 2))).heap[gv]? = some (.cells cx.toArray 90 (0, 0)) := by rw [setCells_far _ _ gv hne]; exact hgv
  have hcp2 : ∀ (W : World), W.heap = (w.setCells g ((i + 1) * 2) (cs.drop (i * 2))).heap → ∀ ty dc, (Builtin.copy_ #[46, 46] ty #[.slice (some ⟨g, i * 2, none⟩) (n + 1 - i) dc, .slice (some ⟨gv, 0, none⟩) 1 1]).run Try.prog W = .ok (goInt 1) (W.setCells g (i * 2) cx) := fun W hW ty dc =>
    Kd.run_copy_cells_sz W _ _ ty 90 g (i * 2) (n + 1 - i) dc ⟨gv, 0, none⟩ 1 1 1 2 cx Try.underlying46 hsz (by simp only [Nat.min_def]; split <;> omega) (by omega)
      (fun j v hj => by rw [add_plain, cell_of_row W gv _ cx.toArray 90 (0, 0) (by rw [hW]; exact hgv1)]; simpa using hj)
      (fun j hj => by rw [cell_of_row W g _ cur1 90 (0, 0) (by rw [hW]; exact hh1)]; simp; omega) (fun j hj => blk_frozen (by rw [hW]; exact hh1) _) h1v
  have hheap : (w.drew.setCells g ((i + 1) * 2) (cs.drop (i * 2))).heap = (w.setCells g ((i + 1) * 2) (cs.drop (i * 2))).heap := by rw [← Kd.drew_setCells g (cs.drop (i * 2)) ((i + 1) * 2) w]; rfl
  have hz2 : ¬ ((i : Int) = (n : Int)) := by omega
  have hw1 : IntKind.i64.wrap ((i : Int) + 1) = (i : Int) + 1 := by rw [IntKind.wrap_i64]; omega
  have hw2 : IntKind.i64.wrap ((n : Int) + 1) = (n : Int) + 1 := by rw [IntKind.wrap_i64]; omega
  have hb1 : (0 : Int) ≤ (i : Int) + 1 := by omega
  have hin : i ≤ n := by omega
  have htn : ((i : Int) + 1).toNat = i + 1 := by omega
  have hb3 : (i : Int) ≤ (n : Int) + 1 := by omega
  have hb2 : ¬ (c = i + 1) := by omega
  have hb4 : ¬ (c = i) := by omega
  have hcpA := hcp1 w.drew rfl
  have hcpB := hcp2 (w.drew.setCells g ((i + 1) * 2) (cs.drop (i * 2))) hheap
  clear hcell hsome hcp1 hcp2 hgv1 hh1 hc1 ht1 hheap
  go_enter Try.func56, Try.ntmps56
  go_wp2_with (simp only [hov])
  go_region_law (refine Kd.step_copy_run rfl _ _ 46 46 rfl _ _ (by simp [Act.eval, Act.put]) (by simp [Act.eval, Act.put]) (hcpA _ _ _) ?_)
  go_wp2_with (at_builtin; refine Kd.wpList_copy_run _ rfl _ _ 46 46 rfl _ _ rfl rfl (hcpB _ _) ?_)
  go_ret
  exact ⟨rfl, rfl⟩
set_option maxHeartbeats 4000000 in
set_option maxRecDepth 100000 in
/-- slices.Insert, no room: a new row. -/
theorem api_File_56.ins_grow (g n c i gv : Nat) (cs cx : List Value) (cur : Array Value) (w : World) (hi : i < n) (hnc : n ≤ c) (hroom : c < n + 1) (hbig : (n + 1) * 32 ≤ 140737488355328) (hh : w.heap[g]? = some (.cells cur 90 (0, 0)))
    (hcur : cur.size = c * 2) (htake : cur.toList.take (n * 2) = cs) (hgv : w.heap[gv]? = some (.cells cx.toArray 90 (0, 0))) (hvl : cx.length = 2) (h1c : ∀ v ∈ cs, v.oneCell' = true) (h1v : ∀ v ∈ cx, v.oneCell' = true) :
    Calls Try.prog 56 #[.slice (some ⟨g, 0, none⟩) n c, .int .i64 (i : Int), .slice (some ⟨gv, 0, none⟩) 1 1] w fun e w' => ∃ (G : Nat) (ROW : Array Value), n + 1 ≤ G ∧ G ≤ 9223372036854775807 ∧ ROW.size = G * 2 ∧ ROW.toList.take (i * 2) = cs.take (i * 2) ∧ e = .returned (.slice (some ⟨w.heap.size, 0, none⟩) (n + 1) G) ∧
      w' = (((w.alloc (.cells ROW 90)).drew.setCells w.heap.size (i * 2) cx).drew).setCells w.heap.size ((i + 1) * 2) (cs.drop (i * 2)) := by
  have hcl : cs.length = n * 2 := by rw [← htake, List.length_take, Array.length_toList]; omega
  obtain ⟨i0, hi0, hz0, hzs, hzb⟩ := info_parts api_File_56.ins_info
  have hsz : (Try.prog.info? 90).map (·.size) = some 2 := by rw [hi0]; simp [hzs]
  have hgw : g < w.heap.size := (Array.getElem?_eq_some_iff.1 hh).1
  have hvw : gv < w.heap.size := (Array.getElem?_eq_some_iff.1 hgv).1
  have hcell : ∀ (W : World), W.heap[g]? = w.heap[g]? → ∀ j v, cs[j]? = some v → W.cell? ⟨g, j, none⟩ = some v := fun W hW j v hj => by
    rw [cell_of_row W g _ cur 90 (0, 0) (by rw [hW]; exact hh), ← Array.getElem?_toList]
    rw [← htake, List.getElem?_take] at hj
    split at hj
    · exact hj
    · cases hj
  have hkk : (n : Int) + 1 - (i : Int) = ((n + 1 - i : Nat) : Int) := by omega
  have hik : i + (n + 1 - i) = n + 1 := by omega
  have hold : (Builtin.firstCells i0.size i (.slice (some ⟨g, 0, none⟩) i c)).run Try.prog w.drew = .ok (cs.take (i * 2)).toArray w.drew := by
    rw [hzs]
    exact run_firstCells_some w.drew 2 i ⟨g, 0, none⟩ i c (cs.take (i * 2)) (by rw [List.length_take]; omega) (fun j v hj => by
      rw [add_plain]
      rw [List.getElem?_take] at hj
      split at hj
      · exact hcell w.drew rfl j v hj
      · cases hj)
  have hrz : ∀ ty, (Builtin.append_ #[46, 3] ty #[.slice (some ⟨g, 0, none⟩) i c, .int .i64 ((n : Int) + 1 - (i : Int))]).run Try.prog w =
      .ok (.slice (some ⟨w.heap.size, 0, none⟩) (n + 1) (grownCap w (n + 1) c 90)) (w.drew.alloc (.cells ((cs.take (i * 2)).toArray ++ Builtin.zeroCells (.agg #[.string ⟨#[]⟩, .string ⟨#[]⟩] : Value).cells (n + 1 - i) ++ Builtin.zeroCells (.agg #[.string ⟨#[]⟩, .string ⟨#[]⟩] : Value).cells (grownCap w (n + 1) c 90 - (n + 1))) 90)) := fun ty => by
    have h := Lib.run_append_grow_zeros w 46 3 ty 90 i0 _ .i64 .i64 Try.underlying46 Try.underlying3 hi0 hz0 (some ⟨g, 0, none⟩) i c (cs.take (i * 2)) hold (n + 1 - i) (by omega) (by omega) (by omega) (by omega) (by rw [hzb]; omega) (by rw [hzb, hik]; exact growslice_fits hroom hbig)
    rw [hik] at h
    rw [hkk]
    exact h
  obtain ⟨G, hG⟩ : ∃ G, G = grownCap w (n + 1) c 90 := ⟨_, rfl⟩
  have hGn : n + 1 ≤ G := by rw [hG]; exact grownCap_ge w _ _ _
  have hG63 : G ≤ 9223372036854775807 := by
    have := grownCap_le_maxLen w (n + 1) c 90 (by unfold maxLen; omega)
    rw [← hG] at this
    unfold maxLen at this
    omega
  obtain ⟨ROW, hROW⟩ : ∃ ROW : Array Value, ROW = (cs.take (i * 2)).toArray ++ Builtin.zeroCells (.agg #[.string ⟨#[]⟩, .string ⟨#[]⟩] : Value).cells (n + 1 - i) ++ Builtin.zeroCells (.agg #[.string ⟨#[]⟩, .string ⟨#[]⟩] : Value).cells (G - (n + 1)) := ⟨_, rfl⟩
  rw [← hG] at hrz
  rw [← hROW] at hrz
  have hzc : ∀ m, (Builtin.zeroCells (.agg #[.string ⟨#[]⟩, .string ⟨#[]⟩] : Value).cells m).size = m * 2 := fun m => by simp [Builtin.zeroCells, Value.cells]
  have hRl : ROW.size = G * 2 := by
    rw [hROW, Array.size_append, Array.size_append, hzc, hzc, List.size_toArray, List.length_take]
    omega
  have hRt : ROW.toList.take (i * 2) = cs.take (i * 2) := by
    rw [hROW, Array.toList_append, Array.toList_append, List.append_assoc, List.take_append_of_le_length (by rw [List.length_take]; omega), List.take_of_length_le (by rw [List.length_take]; omega)]
  have hNh : ∀ (W : World), W.heap = (w.drew.alloc (.cells ROW 90)).heap → W.heap[w.heap.size]? = some (.cells ROW 90 (0, 0)) := fun W hW => by rw [hW]; exact blk_new w.drew _
  have hOh : ∀ (W : World), W.heap = (w.drew.alloc (.cells ROW 90)).heap → ∀ k, k < w.heap.size → W.heap[k]? = w.heap[k]? := fun W hW k hk => by rw [hW]; exact (below_alloc (Below.refl w.drew.heap.size w.drew) _).block k hk
  have hcpA : ∀ (W : World), W.heap = (w.drew.alloc (.cells ROW 90)).heap → ∀ ty dc, (Builtin.copy_ #[46, 46] ty #[.slice (some ⟨w.heap.size, i * 2, none⟩) (n + 1 - i) dc, .slice (some ⟨gv, 0, none⟩) 1 1]).run Try.prog W = .ok (goInt 1) (W.setCells w.heap.size (i * 2) cx) := fun W hW ty dc =>
    Kd.run_copy_cells_sz W _ _ ty 90 w.heap.size (i * 2) (n + 1 - i) dc ⟨gv, 0, none⟩ 1 1 1 2 cx Try.underlying46 hsz (by simp only [Nat.min_def]; split <;> omega) (by omega)
      (fun j v hj => by rw [add_plain, cell_of_row W gv _ cx.toArray 90 (0, 0) (by rw [hOh W hW gv hvw]; exact hgv)]; simpa using hj)
      (fun j hj => by rw [cell_of_row W _ _ ROW 90 (0, 0) (hNh W hW)]; simp; omega) (fun j hj => blk_frozen (hNh W hW) _) h1v
  obtain ⟨cur1, hh1, hc1, ht1⟩ := setCells_row cx (i * 2) (w.drew.alloc (.cells ROW 90)) ROW (hNh _ rfl) (by omega)
  have hcpB : ∀ (W : World), W.heap = ((w.drew.alloc (.cells ROW 90)).setCells w.heap.size (i * 2) cx).heap → ∀ ty dc sc, (Builtin.copy_ #[46, 46] ty #[.slice (some ⟨w.heap.size, (i + 1) * 2, none⟩) (n - i) dc, .slice (some ⟨g, i * 2, none⟩) (n - i) sc]).run Try.prog W = .ok (goInt ((n - i : Nat) : Int)) (W.setCells w.heap.size ((i + 1) * 2) (cs.drop (i * 2))) := fun W hW ty dc sc =>
    Kd.run_copy_cells_sz W _ _ ty 90 w.heap.size ((i + 1) * 2) (n - i) dc ⟨g, i * 2, none⟩ (n - i) sc (n - i) 2 (cs.drop (i * 2)) Try.underlying46 hsz (by simp only [Nat.min_def]; split <;> omega) (by rw [List.length_drop, hcl]; omega)
      (fun j v hj => by rw [Kd.add_plain2]; exact hcell W (by rw [hW, setCells_far _ _ g (by omega)]; exact hOh _ rfl g hgw) _ v (by rwa [List.getElem?_drop] at hj))
      (fun j hj => by rw [cell_of_row W _ _ cur1 90 (0, 0) (by rw [hW]; exact hh1)]; rw [List.length_drop, hcl] at hj; simp; omega) (fun j hj => blk_frozen (by rw [hW]; exact hh1) _) (fun v hv => h1c v (List.mem_of_mem_drop hv))
  have hGi : ¬ (G = i) := by omega
  have hGim : ¬ (G = i + 1) := by omega
  have hci : ¬ (c = i) := by omega
  have hz2 : ¬ ((i : Int) = (n : Int)) := by omega
  have hz3 : (c : Int) < (n : Int) + 1 := by omega
  have hw1 : IntKind.i64.wrap ((i : Int) + 1) = (i : Int) + 1 := by rw [IntKind.wrap_i64]; omega
  have hw2 : IntKind.i64.wrap ((n : Int) + 1) = (n : Int) + 1 := by rw [IntKind.wrap_i64]; omega
  have hw3 : IntKind.i64.wrap ((n : Int) + 1 - (i : Int)) = (n : Int) + 1 - (i : Int) := by rw [IntKind.wrap_i64]; omega
  have hb1 : (0 : Int) ≤ (i : Int) + 1 := by omega
  have hin : i ≤ n := by omega
  have htn : ((i : Int) + 1).toNat = i + 1 := by omega
  have hb3 : (i : Int) ≤ (n : Int) := by omega
  have hF : ((w.alloc (.cells ROW 90)).drew.setCells w.heap.size (i * 2) cx).drew.heap = ((w.drew.alloc (.cells ROW 90)).setCells w.heap.size (i * 2) cx).heap := rfl
  have hX1 := hcpA ((w.alloc (.cells ROW 90)).drew) rfl
  have hX2 := hcpB _ hF
  clear hcell hkk hik hold hROW hG hNh hOh hcpA hcpB hh1 hc1 ht1 hF
  go_enter Try.func56, Try.ntmps56
  go_wp2_with (first
    | ((with_reducible refine gate_builtin (b := .append) (xs := #[.tmp 34, .tmp 39]) rfl ?_); at_builtin; refine Lib.wpList_append_run _ rfl _ _ _ _ rfl _ _ rfl rfl _ _ (hrz _) ?_)
    | ((with_reducible refine gate_builtin (b := .copy) (xs := #[.tmp 43, .tmp 44]) rfl ?_); at_builtin; refine Kd.wpList_copy_run _ rfl _ _ 46 46 rfl _ _ rfl rfl (hX1 _ _) ?_))
  go_region_law (refine Kd.step_copy_run rfl _ _ 46 46 rfl _ _ (by simp [Act.eval, Act.put]) (by simp [Act.eval, Act.put]) (hX2 _ _ _) ?_)
  go_wp2
  go_ret
  exact ⟨G, ROW, hGn, hG63, hRl, hRt, rfl, rfl⟩
set_option maxHeartbeats 2000000 in
/-- slices.Insert of one element into a row of the call's own. -/
theorem api_File_56.ins (B gv i : Nat) (v : Value) (xs : List S90) (x : S90) (W : World) (hi : i ≤ xs.length) (hgv : W.heap[gv]? = some (.cells (api_File_56.ins_cells x).toArray 90 (0, 0))) (HO : Kd.R k90 90 W B (fun z => z ≠ gv) v xs) (hB : B ≤ W.heap.size) (hbig : (xs.length + 1) * 32 ≤ 140737488355328) :
    Calls Try.prog 56 #[v, .int .i64 (i : Int), .slice (some ⟨gv, 0, none⟩) 1 1] W fun e w' => ∃ v', e = .returned v' ∧ Kd.R k90 90 w' B (fun _ => True) v' (xs.take i ++ [x] ++ xs.drop i) ∧ Below B W w' := by
  by_cases hie : i = xs.length
  · subst hie
    rw [List.take_length, List.drop_length, List.append_nil]
    exact api_File_56.ins_end B gv v xs x W hgv HO hB hbig
  obtain ⟨hok, inner, hown, hr⟩ := HO
  have hil : inner.length = xs.length * 2 := hr.1
  have h1c : ∀ u ∈ inner, u.oneCell' = true := by
    intro u hu
    obtain ⟨q, hq, rfl⟩ := List.mem_iff_getElem.1 hu
    have hc := hr.2 (q / 2) _ (List.getElem?_eq_getElem (by omega))
    refine k90.K_one (k90.K_of_M hc) _ ?_
    rw [List.mem_iff_getElem?]
    refine ⟨q % 2, ?_⟩
    show ((inner.drop (q / 2 * 2)).take 2)[q % 2]? = _
    rw [List.getElem?_take, if_pos (by omega), List.getElem?_drop, Nat.mul_comm, Nat.div_add_mod, List.getElem?_eq_getElem hq]
  have h1v : ∀ u ∈ api_File_56.ins_cells x, u.oneCell' = true := fun u hu => k90.K_one (k90_mk W x) u hu
  have hrx : Reps (k90.M W B (fun k => k ≠ gv ∧ some k ≠ v.ownBlock)) k90.sz (xs.take i ++ [x] ++ xs.drop i) (inner.take (i * 2) ++ api_File_56.ins_cells x ++ inner.drop (i * 2)) := Kd.reps_put hr (k90_mkM _ _ _ _) rfl hi
  have hxl : (xs.take i ++ [x] ++ xs.drop i).length = xs.length + 1 := by simp; omega
  rcases hown.2 with ⟨rfl, hn0⟩ | ⟨g, cap, cur, rfl, hgB, hh, hnc, hcm, hcs, htake⟩
  · omega
  have hgne : gv ≠ g := fun e => hok g (by simp [Value.ownBlock]) e.symm
  have hcs' : cur.size = cap * 2 := hcs
  have htake' : cur.toList.take (xs.length * 2) = inner := htake
  have hlo : g < W.heap.size := (Array.getElem?_eq_some_iff.1 hh).1
  by_cases hroom : xs.length + 1 ≤ cap
  · refine (api_File_56.ins_room g xs.length cap i gv inner (api_File_56.ins_cells x) cur W (by omega) hroom hcm hgne hh hcs' htake' hgv rfl h1c h1v).mono ?_
    rintro e w' ⟨rfl, rfl⟩
    obtain ⟨cur1, hh1, hc1, ht1⟩ := setCells_row (inner.drop (i * 2)) ((i + 1) * 2) W.drew cur hh (by rw [List.length_drop]; omega)
    obtain ⟨cur2, hh2, hc2, ht2⟩ := setCells_row (api_File_56.ins_cells x) (i * 2) (W.drew.setCells g ((i + 1) * 2) (inner.drop (i * 2))) cur1 hh1 (by show i * 2 + 2 ≤ _; omega)
    refine ⟨_, rfl, ?_, ?_⟩
    · rw [← hxl]
      refine Kd.R_of_row api_File_56.ins_flat hrx hh2 hgB (by rw [hxl]; exact hroom) hcm (by show cur2.size = cap * 2; omega) ?_ trivial rfl
      rw [hxl, ht2, ht1]
      show List.take ((xs.length + 1) * 2) _ = _
      have hx2 : (api_File_56.ins_cells x).length = 2 := rfl
      have e1 : (cur.toList.take ((i + 1) * 2) ++ inner.drop (i * 2) ++ cur.toList.drop ((i + 1) * 2 + (inner.drop (i * 2)).length)).take (i * 2) = inner.take (i * 2) := by
        rw [List.append_assoc, List.take_append_of_le_length (by rw [List.length_take, Array.length_toList]; omega), List.take_take, ← htake', List.take_take]
        congr 1
        omega
      have e2 : ((cur.toList.take ((i + 1) * 2) ++ inner.drop (i * 2) ++ cur.toList.drop ((i + 1) * 2 + (inner.drop (i * 2)).length)).drop (i * 2 + (api_File_56.ins_cells x).length)).take ((xs.length + 1) * 2 - (i * 2 + 2)) = inner.drop (i * 2) := by
        have hl1 : (cur.toList.take ((i + 1) * 2)).length = i * 2 + 2 := by rw [List.length_take, Array.length_toList]; omega
        rw [hx2, List.append_assoc, ← hl1, List.drop_left, List.take_append_of_le_length (by rw [List.length_drop]; omega), List.take_of_length_le (by rw [List.length_drop]; omega)]
      rw [e1]
      rw [List.take_append, List.take_of_length_le (by rw [List.length_append, List.length_take]; omega)]
      congr 1
      rw [List.length_append, List.length_take, hx2, show min (i * 2) inner.length = i * 2 by omega]
      exact e2
    · exact Kd.below_setCells (Kd.below_setCells (below_drew1 (Below.refl _ _)) hgB) hgB
  · refine (api_File_56.ins_grow g xs.length cap i gv inner (api_File_56.ins_cells x) cur W (by omega) hnc (by omega) hbig hh hcs' htake' hgv rfl h1c h1v).mono ?_
    rintro e w' ⟨G, ROW, hGn, hG63, hRl, hRt, rfl, rfl⟩
    have hN : ((W.alloc (.cells ROW 90)).drew).heap[W.heap.size]? = some (.cells ROW 90 (0, 0)) := blk_new W _
    obtain ⟨cur1, hh1, hc1, ht1⟩ := setCells_row (api_File_56.ins_cells x) (i * 2) ((W.alloc (.cells ROW 90)).drew) ROW hN (by show i * 2 + 2 ≤ _; omega)
    obtain ⟨cur2, hh2, hc2, ht2⟩ := setCells_row (inner.drop (i * 2)) ((i + 1) * 2) (((W.alloc (.cells ROW 90)).drew.setCells W.heap.size (i * 2) (api_File_56.ins_cells x)).drew) cur1 hh1 (by rw [List.length_drop]; omega)
    refine ⟨_, rfl, ?_, ?_⟩
    · rw [← hxl]
      refine Kd.R_of_row api_File_56.ins_flat hrx hh2 hB (by rw [hxl]; exact hGn) hG63 (by show cur2.size = G * 2; omega) ?_ trivial rfl
      rw [hxl, ht2, ht1]
      show List.take ((xs.length + 1) * 2) _ = _
      have hx2 : (api_File_56.ins_cells x).length = 2 := rfl
      have e1 : (ROW.toList.take (i * 2) ++ api_File_56.ins_cells x ++ ROW.toList.drop (i * 2 + (api_File_56.ins_cells x).length)).take ((i + 1) * 2) = inner.take (i * 2) ++ api_File_56.ins_cells x := by
        rw [List.take_append_of_le_length (by rw [List.length_append, List.length_take, Array.length_toList, hx2]; omega), List.take_of_length_le (by rw [List.length_append, List.length_take, hx2]; omega), hRt]
      rw [e1, List.take_append_of_le_length (by rw [List.length_append, List.length_append, List.length_take, List.length_drop, hx2]; omega), List.take_of_length_le (by rw [List.length_append, List.length_append, List.length_take, List.length_drop, hx2]; omega)]
    · exact Kd.below_setCells (below_drew1 (Kd.below_setCells (below_drew1 ((Below.refl B W).alloc hB _)) hB)) hB


/-! ### file_Put: function 26 -/
def file_Put.put (l : List S90) (n v : ByteArray) : List S90 := if file_find.hit l n = true then l.set (file_find.find_i l n) ⟨n, v⟩ else l.take (file_find.find_i l n) ++ [⟨n, v⟩] ++ l.drop (file_find.find_i l n)
def file_Put.f (l0 : List S90) (a1 : ByteArray) (a2 : ByteArray) : Option (List S90 × Int) := (file_isName.f a1).bind fun ok => if l0.length < 1099511627776 then (if ok = true then (if (a2.size : Int) > 4000 then some ([], 3) else if file_find.hit l0 a1 = false ∧ (l0.length : Int) ≥ 20 then some ([], 3) else some (file_Put.put l0 a1 a2, 0)) else some ([], 1)) else none
set_option maxHeartbeats 8000000 in
set_option maxRecDepth 100000 in
theorem file_Put.calls (A0 : Option Addr) (c0 : Nat) (l0 : List S90) (a1 : ByteArray) (a2 : ByteArray) (r1 : List S90) (r2 : Int) (w : World) (hr0 : Kd.C k90 w A0 l0.length l0) (hc0 : l0.length ≤ c0) (h : file_Put.f l0 a1 a2 = some (r1, r2)) :
    Calls Try.prog 26 #[.slice A0 l0.length c0, .string a1, .string a2] w fun e w' => ∃ v0_ : Value, e = .returned (.tuple #[v0_, .int .i64 r2]) ∧ Kd.R k90 90 w' w.heap.size (fun _ => True) v0_ r1 ∧ Below w.heap.size w w' := by
  unfold file_Put.f at h
  obtain ⟨ok, hok, h⟩ := Option.bind_eq_some_iff.1 h
  have HN := Aside0.mk hok
  clear hok
  by_cases hl : l0.length < 1099511627776
  · rw [if_pos hl] at h
    have HR := Aside0.mk hr0
    have HC := Aside0.mk hc0
    have HF : Aside0 (file_find.f l0 a1 = some ((file_find.find_i l0 a1 : Int), file_find.hit l0 a1)) := ⟨by rw [file_find.f, if_pos (by omega)]⟩
    have HCL : Aside0 (api_File_55.f l0 = some l0) := ⟨by
      rw [api_File_55.f, Option.bind_some, if_pos (by simp; omega)]
      rfl⟩
    have HLB : Aside0 ((l0.length + 1) * 32 ≤ 140737488355328) := ⟨by omega⟩
    have HI : Aside0 (file_find.find_i l0 a1 ≤ l0.length) := ⟨file_find.find_i_le l0 a1⟩
    have HLT : Aside0 (file_find.hit l0 a1 = true → file_find.find_i l0 a1 < l0.length) := ⟨fun e => by
      unfold file_find.hit at e
      rw [Bool.and_eq_true, decide_eq_true_eq] at e
      exact e.1⟩
    clear hr0 hc0 hl
    cases ok with
    | false =>
      rw [if_neg (by simp)] at h
      injection h with h
      injection h with h1 h2
      subst h1 h2
      go_enter Try.func26, Try.ntmps26
      go_wp2_with (go_at_call 53; go_must ((with_reducible refine (file_isName.calls a1 false _ HN.out).mono ?_); rintro e w1 ⟨rfl, hb⟩; have HB := Aside0.mk hb; clear hb))
      go_ret2
      exact ⟨_, rfl, Kd.R_nil _ _ _ _ _, HB.out⟩
    | true =>
      rw [if_pos rfl] at h
      unfold file_Put.put at h
      generalize file_find.find_i l0 a1 = i at *
      generalize file_find.hit l0 a1 = hit at *
      by_cases c1 : (a2.size : Int) > 4000
      · rw [if_pos c1] at h
        injection h with h
        injection h with h1 h2
        subst h1 h2
        have hd1 : decide ((a2.size : Int) > 4000) = true := decide_eq_true c1
        have hd2 : decide ((4000 : Int) < (a2.size : Int)) = true := decide_eq_true c1
        clear c1
        go_enter Try.func26, Try.ntmps26
        go_wp2_with (first
          | (go_at_call 53; go_must ((with_reducible refine (file_isName.calls a1 true _ HN.out).mono ?_); rintro e w1 ⟨rfl, hb⟩; have HB := Aside0.mk hb; clear hb))
          | (go_at_call 54; go_must ((with_reducible refine (file_find.calls A0 c0 l0 a1 _ _ _ ?s1 ?s2 HF.out).mono ?_); (case s1 => exact Kd.C_below HR.out HB.out); (case s2 => exact HC.out); rintro e w2 ⟨rfl, hb2⟩; have HB2 := Aside0.mk (below_step HB.out hb2); clear hb2)))
        go_ret2
        exact ⟨_, rfl, Kd.R_nil _ _ _ _ _, HB2.out⟩
      · rw [if_neg c1] at h
        have hd1 : decide ((a2.size : Int) > 4000) = false := decide_eq_false c1
        have hd2 : decide ((4000 : Int) < (a2.size : Int)) = false := decide_eq_false c1
        clear c1
        cases hit with
        | true =>
          rw [if_neg (by simp), if_pos rfl] at h
          injection h with h
          injection h with h1 h2
          subst h1 h2
          have hil := HLT.out rfl
          have HIL := Aside0.mk hil
          have hi1 : (0 ≤ (i : Int)) = True := eq_true (by omega)
          have hi2 : ((i : Int) < (l0.length : Int)) = True := eq_true (by omega)
          have hi3 : (i < l0.length) = True := eq_true hil
          clear hil
          go_enter Try.func26, Try.ntmps26
          go_wp2_with (first
            | (go_at_call 53; go_must ((with_reducible refine (file_isName.calls a1 true _ HN.out).mono ?_); rintro e w1 ⟨rfl, hb⟩; have HB := Aside0.mk hb; clear hb))
            | (go_at_call 54; go_must ((with_reducible refine (file_find.calls A0 c0 l0 a1 _ _ _ ?s1 ?s2 HF.out).mono ?_); (case s1 => exact Kd.C_below HR.out HB.out); (case s2 => exact HC.out); rintro e w2 ⟨rfl, hb2⟩; have HB2 := Aside0.mk (below_step HB.out hb2); clear hb2))
            | (go_at_call 55; go_must ((with_reducible refine (api_File_55.calls A0 c0 l0 l0 _ ?s1 ?s2 HCL.out).mono ?_); (case s1 => exact Kd.C_below HR.out (HB2.out.alloc HB2.out.size _)); (case s2 => exact HC.out); rintro e w3 ⟨v0, rfl, ho, hb3⟩; obtain ⟨g, cap, hv, hcap⟩ := Kd.own_some ho (by have := HIL.out; omega); subst hv; have HX3 : Aside0 (w3.heap[w2.heap.size]? = some (.cells #[.string a1, .string a2] 90 (0, 0))) := ⟨(hb3.block w2.heap.size (by simp)).trans (blk_new w2 _)⟩; have HB3 := Aside0.mk (below_step (HB2.out.alloc HB2.out.size _) hb3); have HO3 := Aside0.mk (Kd.R_lower ho (below_size (HB2.out.alloc HB2.out.size _))); have hcz0 := blk_cell HX3.out 0; have hcz1 := blk_cell HX3.out 1; simp only [List.getElem?_toArray, List.getElem?_cons_zero, List.getElem?_cons_succ] at hcz0 hcz1; clear hb3 ho hcap))
            | ((with_reducible refine gate_ (.store 90 (.tmp 42) (.tmp 41)) rfl ?_); go_must (obtain ⟨cc, hccl, hcc⟩ := Kd.R_cellsAt HO3.out i HIL.out; refine Kd.R_store k90 (w0 := w) w.heap.size rfl rfl 90 (.tmp 42) (.tmp 41) rfl 90 (i : Int) 0 l0 ⟨a1, a2⟩ (.agg #[.string a1, .string a2]) [.string a1, .string a2] cc (fun _ => True) (fun _ => False) rfl ?t1 rfl rfl (by kernel_rfl) ?t2 HO3.out (by omega) ?t3 hccl ?t4 (Nat.le_refl 2) ?t5 (fun _ hk => hk.elim) HB3.out ?_; (case t1 => show i * 2 = ((i : Int)).toNat * 2 + 0; omega); (case t2 => simp [Value.oneCell']); (case t3 => have := HIL.out; omega); (case t4 => intro j u hj; have := hcc j u hj; simpa using this); (case t5 => rw [List.take_zero, List.nil_append, List.drop_of_length_le (by rw [hccl]; exact Nat.le_refl 2), List.append_nil]; exact k90_mkM _ _ _ _); intro w4 ho4 hb4 hg4; have HO4 := Aside0.mk ho4; have HB4 := Aside0.mk hb4; clear ho4 hb4 hg4)))
          go_ret2
          exact ⟨_, rfl, by simpa using HO4.out, HB4.out⟩
        | false =>
          by_cases c2 : (l0.length : Int) ≥ 20
          · rw [if_pos ⟨rfl, c2⟩] at h
            injection h with h
            injection h with h1 h2
            subst h1 h2
            have hd3 : decide ((l0.length : Int) ≥ 20) = true := decide_eq_true c2
            have hd4 : decide ((20 : Int) ≤ (l0.length : Int)) = true := decide_eq_true c2
            clear c2
            go_enter Try.func26, Try.ntmps26
            go_wp2_with (first
              | (go_at_call 53; go_must ((with_reducible refine (file_isName.calls a1 true _ HN.out).mono ?_); rintro e w1 ⟨rfl, hb⟩; have HB := Aside0.mk hb; clear hb))
              | (go_at_call 54; go_must ((with_reducible refine (file_find.calls A0 c0 l0 a1 _ _ _ ?s1 ?s2 HF.out).mono ?_); (case s1 => exact Kd.C_below HR.out HB.out); (case s2 => exact HC.out); rintro e w2 ⟨rfl, hb2⟩; have HB2 := Aside0.mk (below_step HB.out hb2); clear hb2)))
            go_ret2
            exact ⟨_, rfl, Kd.R_nil _ _ _ _ _, HB2.out⟩
          · rw [if_neg (fun e => c2 e.2), if_neg (by simp)] at h
            injection h with h
            injection h with h1 h2
            subst h1 h2
            have hd3 : decide ((l0.length : Int) ≥ 20) = false := decide_eq_false c2
            have hd4 : decide ((20 : Int) ≤ (l0.length : Int)) = false := decide_eq_false c2
            clear c2
            go_enter Try.func26, Try.ntmps26
            go_wp2_with (first
              | (go_at_call 53; go_must ((with_reducible refine (file_isName.calls a1 true _ HN.out).mono ?_); rintro e w1 ⟨rfl, hb⟩; have HB := Aside0.mk hb; clear hb))
              | (go_at_call 54; go_must ((with_reducible refine (file_find.calls A0 c0 l0 a1 _ _ _ ?s1 ?s2 HF.out).mono ?_); (case s1 => exact Kd.C_below HR.out HB.out); (case s2 => exact HC.out); rintro e w2 ⟨rfl, hb2⟩; have HB2 := Aside0.mk (below_step HB.out hb2); clear hb2))
              | (go_at_call 55; go_must ((with_reducible refine (api_File_55.calls A0 c0 l0 l0 _ ?s1 ?s2 HCL.out).mono ?_); (case s1 => exact Kd.C_below HR.out (HB2.out.alloc HB2.out.size _)); (case s2 => exact HC.out); rintro e w3 ⟨v0, rfl, ho, hb3⟩; have HX3 : Aside0 (w3.heap[w2.heap.size]? = some (.cells #[.string a1, .string a2] 90 (0, 0))) := ⟨(hb3.block w2.heap.size (by simp)).trans (blk_new w2 _)⟩; have HB3 := Aside0.mk (below_step (HB2.out.alloc HB2.out.size _) hb3); have HO3 := Aside0.mk (Kd.R_alloc (Kd.R_mono (Kd.R_bound (Kd.R_lower ho (below_size (HB2.out.alloc HB2.out.size _)))) (fun k hk => show k ≠ w3.heap.size by have := hk.2.2.1; omega)) (.cells (api_File_56.ins_cells ⟨a1, a2⟩).toArray 90 (0, 0))); have hcz0 := blk_cell HX3.out 0; have hcz1 := blk_cell HX3.out 1; simp only [List.getElem?_toArray, List.getElem?_cons_zero, List.getElem?_cons_succ] at hcz0 hcz1; clear hb3 ho))
              | (go_at_call 56; go_must ((with_reducible refine (api_File_56.ins w.heap.size w3.heap.size i v0 l0 ⟨a1, a2⟩ _ ?s1 ?s2 ?s3 ?s4 ?s5).mono ?_); (case s1 => exact HI.out); (case s2 => exact blk_new w3 _); (case s3 => exact HO3.out); (case s4 => have := HB3.out.size; simp; omega); (case s5 => exact HLB.out); rintro e w5 ⟨v5, rfl, ho5, hb5⟩; have HO5 := Aside0.mk ho5; have HB5 := Aside0.mk (((HB3.out).alloc (HB3.out.size) _).trans hb5); clear ho5 hb5)))
            go_ret2
            exact ⟨_, rfl, HO5.out, HB5.out⟩
  · rw [if_neg hl] at h
    cases h


/-! ### file_Get: function 28 -/
def file_Get.f (l0 : List (S90)) (a1 : ByteArray) : Option (ByteArray × Bool) := (file_find.f l0 a1).bind fun bt109 => (if bt109.2 = true then (if 0 ≤ bt109.1 then (if bt109.1 < (l0.length : Int) then (some ((rd_T90 l0 bt109.1).f1, true)) else (none)) else (none)) else (some ((⟨#[]⟩ : ByteArray), false)))
set_option maxHeartbeats 8000000 in
set_option maxRecDepth 100000 in
theorem file_Get.calls (A0 : Option Addr) (c0 : Nat) (l0 : List (S90)) (a1 : ByteArray) (r1 : ByteArray) (r2 : Bool) (w : World) (hr0 : Kd.C k90 w A0 l0.length l0) (hc0 : l0.length ≤ c0) (h : file_Get.f l0 a1 = some (r1, r2)) :
    Calls Try.prog 28 #[.slice A0 l0.length c0, .string a1] w fun e w' => e = .returned (.tuple #[.string r1, .bool r2]) ∧ Below w.heap.size w w' := by
  have HR0 := Aside0.mk hr0
  have HC0 := Aside0.mk hc0
  clear hr0 hc0
  have HB := Aside0.mk (Below.refl w.heap.size w)
  have H : ((file_find.f l0 a1).bind fun bt109 => (if bt109.2 = true then (if 0 ≤ bt109.1 then (if bt109.1 < (l0.length : Int) then (some ((rd_T90 l0 bt109.1).f1, true)) else (none)) else (none)) else (some ((⟨#[]⟩ : ByteArray), false)))) = some (r1, r2) := h
  clear h
  replace H := Option.bind_eq_some_iff.mp H
  obtain ⟨⟨t109, t110⟩, A30, H⟩ := H
  replace H : (if t110 = true then (if 0 ≤ t109 then (if t109 < (l0.length : Int) then (some ((rd_T90 l0 t109).f1, true)) else (none)) else (none)) else (some ((⟨#[]⟩ : ByteArray), false))) = some (r1, r2) := H
  have A3 := Aside0.mk A30
  clear A30
  by_cases c4 : t110 = true
  · subst c4
    have H1 : (if 0 ≤ t109 then (if t109 < (l0.length : Int) then (some ((rd_T90 l0 t109).f1, true)) else (none)) else (none)) = some (r1, r2) := by rw [if_pos rfl] at H; exact H
    clear H
    have H := H1
    clear H1
    by_cases c5 : 0 ≤ t109
    · rw [if_pos c5] at H
      have c5b0 : decide (0 ≤ t109) = true := decide_eq_true c5
      clear c5
      by_cases c6 : t109 < (l0.length : Int)
      · rw [if_pos c6] at H
        have c6b0 : decide (t109 < (l0.length : Int)) = true := decide_eq_true c6
        clear c6
        simp only [Option.some.injEq, Prod.mk.injEq] at H
        obtain ⟨rfl, rfl⟩ := H
        go_enter Try.func28, Try.ntmps28
        go_wp2_with (first | ((with_reducible refine gate_callee (f := 54) rfl ?_); refine goesL_ (some 11) rfl rfl Try.func54 (by kernel_rfl) rfl #[.slice A0 l0.length c0, .string a1] rfl (by (try simp only [List.map_toArray, List.map_cons, List.map_nil]); first | done | rfl | (simp only [List.length_drop, List.length_take]; rfl)) ?_; (with_reducible refine (file_find.calls _ _ l0 a1 t109 true _ ?side1 ?side2 A3.out).mono ?_); (case side1 => repeat (first | exact HR0.out | (with_reducible refine Kd.C_alloc ?_ _) | (with_reducible refine Kd.C_drewN ?_ _) | (with_reducible refine Kd.C_drew ?_))); (case side2 => exact HC0.out); rintro e w7 ⟨rfl, hb⟩; refine ⟨_, rfl, ?_⟩; have n0_ := Aside0.mk (below_step (by repeat (first | (with_reducible first | exact HB.out | apply below_alloc | apply pw_below_drewN | apply below_drew1) | exact HB.out)) hb); clear HB; have HB := n0_; clear n0_; (try clear hb); (try clear hb2); (try clear hk); (try clear hi); have p111 : 0 ≤ (t109 : Int) := of_decide_eq_true (by first | (with_reducible assumption) | assumption); have q111 : t109 < (l0.length : Int) := of_decide_eq_true (by first | (with_reducible assumption) | assumption); obtain ⟨ad111, e111, hx111_0, hx111_1⟩ := at_T90 HR0.out t109 p111 q111; cases e111; replace hx111_0 := (HB.out.cell (World.block_lt_of_cell? w _ hx111_0)).trans hx111_0; replace hx111_1 := (HB.out.cell (World.block_lt_of_cell? w _ hx111_1)).trans hx111_1; replace p111 := eq_true p111; replace q111 := eq_true q111))
        go_ret2
        exact ⟨by first | rfl | (simp [errW_none, errW_some] <;> rfl) | (simp [*, errW_none, errW_some] <;> rfl), by repeat (first | (with_reducible first | exact HB.out | apply below_alloc | apply pw_below_drewN | apply below_drew1) | exact HB.out)⟩
      · rw [if_neg c6] at H
        exact absurd H (by simp)
    · rw [if_neg c5] at H
      exact absurd H (by simp)
  · replace c4 := Bool.eq_false_iff.mpr c4
    subst c4
    have H1 : (some ((⟨#[]⟩ : ByteArray), false)) = some (r1, r2) := by rw [if_neg (show ¬ (false = true) by decide)] at H; exact H
    clear H
    have H := H1
    clear H1
    simp only [Option.some.injEq, Prod.mk.injEq] at H
    obtain ⟨rfl, rfl⟩ := H
    go_enter Try.func28, Try.ntmps28
    go_wp2_with (first | ((with_reducible refine gate_callee (f := 54) rfl ?_); refine goesL_ (some 11) rfl rfl Try.func54 (by kernel_rfl) rfl #[.slice A0 l0.length c0, .string a1] rfl (by (try simp only [List.map_toArray, List.map_cons, List.map_nil]); first | done | rfl | (simp only [List.length_drop, List.length_take]; rfl)) ?_; (with_reducible refine (file_find.calls _ _ l0 a1 t109 false _ ?side1 ?side2 A3.out).mono ?_); (case side1 => repeat (first | exact HR0.out | (with_reducible refine Kd.C_alloc ?_ _) | (with_reducible refine Kd.C_drewN ?_ _) | (with_reducible refine Kd.C_drew ?_))); (case side2 => exact HC0.out); rintro e w8 ⟨rfl, hb⟩; refine ⟨_, rfl, ?_⟩; have n0_ := Aside0.mk (below_step (by repeat (first | (with_reducible first | exact HB.out | apply below_alloc | apply pw_below_drewN | apply below_drew1) | exact HB.out)) hb); clear HB; have HB := n0_; clear n0_; (try clear hb); (try clear hb2); (try clear hk); (try clear hi)))
    go_ret2
    exact ⟨by first | rfl | (simp [errW_none, errW_some] <;> rfl) | (simp [*, errW_none, errW_some] <;> rfl), by repeat (first | (with_reducible first | exact HB.out | apply below_alloc | apply pw_below_drewN | apply below_drew1) | exact HB.out)⟩

/-! ### file_Write: function 27 -/
/-! bytes of the call's own, told by their letters -/
def file_Write.Bs (W : World) (B : Nat) (v : Value) (bs : List UInt8) : Prop :=
  ∃ (g cap : Nat) (cur : Array Value) (fr : Nat × Nat), v = .slice (some ⟨g, 0, none⟩) bs.length cap ∧ B ≤ g ∧ W.heap[g]? = some (.cells cur 5 fr) ∧ bs.length ≤ cap ∧ cap ≤ 9223372036854775807 ∧ cur.size = cap ∧ cur.toList.take bs.length = bs.map (fun b => Value.int .u8 (b.toNat : Int)) ∧ (fr = (0, 0) ∨ fr = (cap, cap + 1))
theorem file_Write.setCells_fr {g : Nat} {e : TypeId} {fr : Nat × Nat} : ∀ (vs : List Value) (o : Nat) (w : World) (cur : Array Value), w.heap[g]? = some (.cells cur e fr) → o + vs.length ≤ cur.size →
    ∃ cur', (w.setCells g o vs).heap[g]? = some (.cells cur' e fr) ∧ cur'.size = cur.size ∧ cur'.toList = cur.toList.take o ++ vs ++ cur.toList.drop (o + vs.length)
  | [], o, w, cur, h, _ => ⟨cur, h, rfl, by simp⟩
  | v :: r, o, w, cur, h, hl => by
    have h2 : (w.setCell ⟨g, o, none⟩ v).heap[g]? = some (.cells (cur.setIfInBounds o v) e fr) := by simp [World.setCell, Array.getElem?_modify, h]
    simp only [List.length_cons] at hl
    obtain ⟨cur', h3, h4, h5⟩ := file_Write.setCells_fr r (o + 1) (w.setCell ⟨g, o, none⟩ v) _ h2 (by simp; omega)
    refine ⟨cur', h3, by rw [h4]; simp, ?_⟩
    rw [h5, Array.toList_setIfInBounds]
    have ho : o < cur.toList.length := by rw [Array.length_toList]; omega
    rw [List.take_set, List.drop_set_of_lt (by omega)]
    simp only [List.length_cons]
    rw [show o + 1 + r.length = o + (r.length + 1) by omega]
    congr 1
    rw [List.take_succ_eq_append_getElem ho, List.set_append_right _ _ (by rw [List.length_take]; omega)]
    have ho' : o < cur.size := by omega
    simp [Nat.min_eq_left (Nat.le_of_lt ho')]
theorem file_Write.not_frozen {W : World} {g cap : Nat} {cur : Array Value} {e : TypeId} {fr : Nat × Nat} (h : W.heap[g]? = some (.cells cur e fr)) (hf : fr = (0, 0) ∨ fr = (cap, cap + 1)) (j : Nat) (hj : j < cap) : W.frozen? ⟨g, j, none⟩ = false := by
  rcases hf with rfl | rfl
  · simp [World.frozen?, h]
  · simp [World.frozen?, h]
    omega
theorem file_Write.Bs.cell {W : World} {g : Nat} {bs : List UInt8} {cur : Array Value} {fr : Nat × Nat} (h : W.heap[g]? = some (.cells cur 5 fr)) (ht : cur.toList.take bs.length = bs.map (fun b => Value.int .u8 (b.toNat : Int))) (j : Nat) (hj : j < bs.length) : W.cell? ⟨g, j, none⟩ = some (.int .u8 ((bs[j]'hj).toNat : Int)) := by
  rw [cell_of_row W g _ cur _ fr h, ← Array.getElem?_toList]
  have := congrArg (fun l : List Value => l[j]?) ht
  simp only [List.getElem?_take, if_pos hj, List.getElem?_map, List.getElem?_eq_getElem hj, Option.map_some] at this
  exact this
theorem file_Write.info5 : (Try.prog.info? 5).map (fun i => (i.zero, i.size, i.bytes)) = some (some (.int .u8 0), 1, 1) := by kernel_rfl
theorem file_Write.Bs.conv (W : World) (s : ByteArray) (hs : s.size < 1099511627776) : ∃ v W', (convert 9 93 (.string s)).run Try.prog W = .ok v W' ∧ file_Write.Bs W' W.heap.size v s.data.toList ∧ Below W.heap.size W W' := by
  have hr := run_bytes_of_string (P := Try.prog) W 9 93 5 s Try.underlying9 Try.underlying93 Try.underlying5
  have hge := grownCap_ge W s.size 0 5
  have hle := grownCap_le_maxLen W s.size 0 5 (by unfold maxLen; omega)
  have hsz : (bytesRow s (grownCap W s.size 0 5)).size = grownCap W s.size 0 5 := by
    have e : s.data.size = s.size := rfl
    simp [bytesRow, e]
    omega
  refine ⟨_, _, hr, ⟨W.heap.size, grownCap W s.size 0 5, _, _, by rw [Lib.size_eq], Nat.le_refl _, blk_new W.drew _, by rw [← Lib.size_eq]; exact hge, by unfold maxLen at hle; omega, hsz, ?_, .inr (by rw [hsz])⟩, below_alloc (below_drew1 (Below.refl _ _)) _⟩
  rw [bytesRow, Array.toList_append, List.take_append_of_le_length (by simp), List.take_of_length_le (by simp)]
  simp
theorem file_Write.Bs.push (W : World) (B : Nat) (v : Value) (bs : List UInt8) (h : file_Write.Bs W B v bs) (hB : B ≤ W.heap.size) (hl : bs.length < 1099511627776) (ty : TypeId) :
    ∃ v' W', (Builtin.append_ #[93, 93] ty #[v, .slice (some ⟨W.heap.size, 0, none⟩) 1 1]).run Try.prog (W.alloc (.cells #[.int .u8 0] 5)) = .ok v' W' ∧ file_Write.Bs W' B v' (bs ++ [0]) ∧ Below B W W' := by
  obtain ⟨g, cap, cur, fr, rfl, hg, hh, hn, hc, hs, ht, hf⟩ := h
  obtain ⟨i0, hi0, hz0, hzs, hzb⟩ := info_parts file_Write.info5
  have hgl : g < W.heap.size := (Array.getElem?_eq_some_iff.1 hh).1
  have hnew : (W.alloc (.cells #[.int .u8 0] 5)).heap[W.heap.size]? = some (.cells #[.int .u8 0] 5 (0, 0)) := blk_new W _
  have hh2 : (W.alloc (.cells #[.int .u8 0] 5)).heap[g]? = some (.cells cur 5 fr) := ((below_alloc (Below.refl W.heap.size W) _).block g hgl).trans hh
  have hcl : (bs.map (fun b => Value.int .u8 (b.toNat : Int))).length = bs.length := List.length_map _
  have hnews : ∀ j u, ([.int .u8 0] : List Value)[j]? = some u → (W.alloc (.cells #[.int .u8 0] 5)).cell? ((⟨W.heap.size, 0, none⟩ : Addr).add j) = some u := fun j u hj => by
    rw [add_plain, blk_cell hnew]
    simpa using hj
  by_cases hroom : bs.length + 1 ≤ cap
  · have hr := run_append_room_cells (P := Try.prog) (W.alloc (.cells #[.int .u8 0] 5)) 93 ty 5 i0 Try.underlying93 hi0 g 0 bs.length cap ⟨W.heap.size, 0, none⟩ 1 1 [.int .u8 0] (by rw [hzs]; rfl) hnews (by simp [Value.oneCell']) hroom
      (fun j hj => by
        have hj0 : j = 0 := by simpa using hj
        subst hj0
        rw [cell_of_row _ g _ cur _ fr hh2]
        rw [hzs]
        simp; omega)
      (fun j hj => by
        have hj0 : j = 0 := by simpa using hj
        subst hj0
        exact file_Write.not_frozen hh2 hf _ (by rw [hzs]; omega))
    obtain ⟨cur', h1, h2, h3⟩ := file_Write.setCells_fr [.int .u8 0] (0 + bs.length * i0.size) _ cur hh2 (by rw [hzs]; simp; omega)
    refine ⟨_, _, hr, ⟨g, cap, cur', fr, by simp, hg, h1, by simpa using hroom, hc, by rw [h2]; exact hs, ?_, hf⟩, Kd.below_setCells ((Below.refl B W).alloc hB _) hg⟩
    rw [h3, hzs, Nat.zero_add, Nat.mul_one, ht, List.length_append, List.map_append, List.take_append_of_le_length (by simp), List.take_of_length_le (by simp)]
    rfl
  · have hr := run_append_grow (P := Try.prog) (W.alloc (.cells #[.int .u8 0] 5)) 93 ty 5 i0 (.int .u8 0) Try.underlying93 hi0 hz0 ⟨g, 0, none⟩ bs.length cap (bs.map (fun b => Value.int .u8 (b.toNat : Int))) (by rw [hzs, hcl, Nat.mul_one])
      (fun j u hj => by
        have hjl : j < bs.length := by rw [← hcl]; exact (List.getElem?_eq_some_iff.1 hj).1
        rw [add_plain, file_Write.Bs.cell hh2 ht j hjl]
        simpa [List.getElem?_eq_getElem hjl] using hj)
      ⟨W.heap.size, 0, none⟩ 1 1 [.int .u8 0] (by rw [hzs]; rfl) hnews (by omega) (by omega) (by
        exact growslice_fits (need := bs.length + 1) (old := cap) (bytes := i0.bytes) (by omega) (by rw [hzb]; omega))
    have hge := grownCap_ge (W.alloc (.cells #[.int .u8 0] 5)) (bs.length + 1) cap 5
    have hle := grownCap_le_maxLen (W.alloc (.cells #[.int .u8 0] 5)) (bs.length + 1) cap 5 (by unfold maxLen; omega)
    generalize grownCap (W.alloc (.cells #[.int .u8 0] 5)) (bs.length + 1) cap 5 = G at *
    have hsz : ((bs.map (fun b => Value.int .u8 (b.toNat : Int))).toArray ++ [Value.int .u8 0].toArray ++ Builtin.zeroCells (Value.int .u8 0).cells (G - (bs.length + 1))).size = G := by
      rw [Array.size_append, Array.size_append, size_zeroCells]
      simp [Value.cells]
      omega
    refine ⟨_, _, hr, ⟨(W.alloc (.cells #[.int .u8 0] 5)).heap.size, G, _, (0, 0), by simp, Nat.le_trans hB (by simp), blk_new _ _, by simpa using hge, by unfold maxLen at hle; omega, hsz, ?_, .inl rfl⟩, (Below.trans ((Below.refl B W).alloc hB _) ((below_drew1 (Below.refl _ _)).alloc (Nat.le_trans hB (by simp)) _))⟩
    rw [Array.toList_append, Array.toList_append, List.length_append, List.take_append_of_le_length (by simp), List.take_of_length_le (by simp)]
    simp
theorem file_Write.Bs.copy (W : World) (B : Nat) (bs : List UInt8) (g cap : Nat) (h : file_Write.Bs W B (.slice (some ⟨g, 0, none⟩) bs.length cap) bs) (d : ByteArray) (at_ : Nat) (hat : at_ + d.size ≤ bs.length) (ty : TypeId) (dc : Nat) :
    (Builtin.copy_ #[93, 9] ty #[.slice (some ⟨g, at_, none⟩) (bs.length - at_) dc, .string d]).run Try.prog W = .ok (goInt d.size) (W.setCells g at_ (d.data.toList.map fun x => Value.int .u8 (x.toNat : Int))) ∧
      file_Write.Bs (W.setCells g at_ (d.data.toList.map fun x => Value.int .u8 (x.toNat : Int))) B (.slice (some ⟨g, 0, none⟩) bs.length cap) (bs.take at_ ++ d.data.toList ++ bs.drop (at_ + d.size)) ∧ Below B W (W.setCells g at_ (d.data.toList.map fun x => Value.int .u8 (x.toNat : Int))) := by
  obtain ⟨g', cap', cur, fr, hv, hg, hh, hn, hc, hs', ht, hf⟩ := h
  injection hv with h1 h2 h3
  injection h1 with h1
  injection h1 with h1
  subst h1 h3
  have hdl : d.data.toList.length = d.size := (Lib.size_eq d).symm
  have hcl : cur.toList.length = cap := by rw [Array.length_toList]; exact hs'
  obtain ⟨cur', k1, k2, k3⟩ := file_Write.setCells_fr (d.data.toList.map fun x => Value.int .u8 (x.toNat : Int)) at_ W cur hh (by rw [List.length_map, hdl]; omega)
  refine ⟨run_copy_string W _ _ ty 5 g at_ (bs.length - at_) dc d Try.underlying93 Try.sizeOf5 (by omega) (fun j hj => by rw [cell_of_row W g _ cur _ fr hh]; simp; omega) (fun j hj => file_Write.not_frozen hh hf _ (by omega)), ?_, Kd.below_setCells (Below.refl B W) hg⟩
  have hlen : (bs.take at_ ++ d.data.toList ++ bs.drop (at_ + d.size)).length = bs.length := by
    rw [List.length_append, List.length_append, List.length_take, List.length_drop, hdl]
    omega
  refine ⟨g, cap, cur', fr, by rw [hlen], hg, k1, by rw [hlen]; exact hn, hc, by rw [k2]; exact hs', ?_, hf⟩
  rw [hlen, k3, List.length_map, hdl, List.map_append, List.map_append, List.map_take, List.map_drop, ← ht, List.take_take, Nat.min_eq_left (by omega)]
  rw [List.take_append, List.take_of_length_le (by simp only [List.length_append, List.length_take, List.length_map, hdl, hcl]; omega)]
  congr 1
  rw [List.length_append, List.length_take, List.length_map, hdl, hcl, Nat.min_eq_left (by omega), List.drop_take]
theorem file_Write.Bs.str (W : World) (B : Nat) (v : Value) (bs : List UInt8) (h : file_Write.Bs W B v bs) : (convert 93 9 v).run Try.prog W = .ok (.string ⟨bs.toArray⟩) W := by
  obtain ⟨g, cap, cur, fr, rfl, hg, hh, hn, hc, hs', ht, hf⟩ := h
  exact run_convert_bytes_back W 93 9 5 ⟨g, 0, none⟩ cap bs Try.underlying93 Try.underlying5 Try.underlying9 (fun j hj => by rw [add_plain]; exact file_Write.Bs.cell hh ht j hj)
/-- A text into which another one is written at a place. -/
def file_Write.fill (l : List UInt8) (n : Nat) : List UInt8 := l ++ List.replicate (n - l.length) 0
def file_Write.over (l d : List UInt8) (n : Nat) : List UInt8 := (file_Write.fill l (n + d.length)).take n ++ d ++ (file_Write.fill l (n + d.length)).drop (n + d.length)
theorem file_Write.Bs.lower {W : World} {B B' : Nat} {v : Value} {bs : List UInt8} (h : file_Write.Bs W B v bs) (hb : B' ≤ B) : file_Write.Bs W B' v bs := by
  obtain ⟨g, cap, cur, fr, hv, hg, h⟩ := h
  exact ⟨g, cap, cur, fr, hv, Nat.le_trans hb hg, h⟩
def file_Write.f (l0 : List S90) (a1 : ByteArray) (a2 : Int) (a3 : ByteArray) : Option (List S90 × Int) := (file_Get.f l0 a1).bind fun g => if g.2 = true then (if 0 ≤ a2 then (if a2 > 4000 then some ([], 3) else if a3.size < 4611686018427387904 then (if a2 + (a3.size : Int) > 4000 then some ([], 3) else if g.1.size < 549755813888 then file_Put.f l0 a1 ⟨(file_Write.over g.1.data.toList a3.data.toList a2.toNat).toArray⟩ else none) else none) else some ([], 1)) else some ([], 1)
set_option maxHeartbeats 8000000 in
set_option maxRecDepth 100000 in
theorem file_Write.calls (A0 : Option Addr) (c0 : Nat) (l0 : List S90) (a1 : ByteArray) (a2 : Int) (a3 : ByteArray) (r1 : List S90) (r2 : Int) (w : World) (hr0 : Kd.C k90 w A0 l0.length l0) (hc0 : l0.length ≤ c0) (h : file_Write.f l0 a1 a2 a3 = some (r1, r2)) :
    Calls Try.prog 27 #[.slice A0 l0.length c0, .string a1, .int .i64 a2, .string a3] w fun e w' => ∃ v0_ : Value, e = .returned (.tuple #[v0_, .int .i64 r2]) ∧ Kd.R k90 90 w' w.heap.size (fun _ => True) v0_ r1 ∧ Below w.heap.size w w' := by
  unfold file_Write.f at h
  obtain ⟨⟨old, ok⟩, hg, h⟩ := Option.bind_eq_some_iff.1 h
  have HG := Aside0.mk hg
  have HR := Aside0.mk hr0
  have HC := Aside0.mk hc0
  clear hg hr0 hc0
  simp only at h
  cases ok with
  | false =>
    rw [if_neg (by simp)] at h
    injection h with h
    injection h with h1 h2
    subst h1 h2
    go_enter Try.func27, Try.ntmps27
    go_wp2_with (go_at_call 28; go_must ((with_reducible refine (file_Get.calls A0 c0 l0 a1 old false _ HR.out HC.out HG.out).mono ?_); rintro e w1 ⟨rfl, hb⟩; have HB := Aside0.mk hb; clear hb))
    go_ret2
    exact ⟨_, rfl, Kd.R_nil _ _ _ _ _, HB.out⟩
  | true =>
    rw [if_pos rfl] at h
    by_cases c2 : 0 ≤ a2
    · rw [if_pos c2] at h
      obtain ⟨m, rfl⟩ : ∃ m : Nat, a2 = (m : Int) := ⟨a2.toNat, by omega⟩
      have hn0 : ¬ ((m : Int) < 0) := by omega
      have hn0d : decide ((m : Int) < 0) = false := decide_eq_false hn0
      by_cases c3 : (m : Int) > 4000
      · rw [if_pos c3] at h
        injection h with h
        injection h with h1 h2
        subst h1 h2
        have hd3 : decide ((m : Int) > 4000) = true := decide_eq_true c3
        have hd3' : decide ((4000 : Int) < (m : Int)) = true := decide_eq_true c3
        clear c2 c3
        go_enter Try.func27, Try.ntmps27
        go_wp2_with (go_at_call 28; go_must ((with_reducible refine (file_Get.calls A0 c0 l0 a1 old true _ HR.out HC.out HG.out).mono ?_); rintro e w1 ⟨rfl, hb⟩; have HB := Aside0.mk hb; clear hb))
        go_ret2
        exact ⟨_, rfl, Kd.R_nil _ _ _ _ _, HB.out⟩
      · rw [if_neg c3] at h
        have hd3 : decide ((m : Int) > 4000) = false := decide_eq_false c3
        have hd3' : decide ((4000 : Int) < (m : Int)) = false := decide_eq_false c3
        by_cases c4 : a3.size < 4611686018427387904
        · rw [if_pos c4] at h
          have hwr : IntKind.i64.wrap ((m : Int) + (a3.size : Int)) = (m : Int) + (a3.size : Int) := by rw [IntKind.wrap_i64]; omega
          by_cases c5 : (m : Int) + (a3.size : Int) > 4000
          · rw [if_pos c5] at h
            injection h with h
            injection h with h1 h2
            subst h1 h2
            have hd5 : decide ((m : Int) + (a3.size : Int) > 4000) = true := decide_eq_true c5
            have hd5' : decide ((4000 : Int) < (m : Int) + (a3.size : Int)) = true := decide_eq_true c5
            clear c2 c3 c4 c5
            go_enter Try.func27, Try.ntmps27
            go_wp2_with (go_at_call 28; go_must ((with_reducible refine (file_Get.calls A0 c0 l0 a1 old true _ HR.out HC.out HG.out).mono ?_); rintro e w1 ⟨rfl, hb⟩; have HB := Aside0.mk hb; clear hb))
            go_ret2
            exact ⟨_, rfl, Kd.R_nil _ _ _ _ _, HB.out⟩
          · rw [if_neg c5] at h
            have hd5 : decide ((m : Int) + (a3.size : Int) > 4000) = false := decide_eq_false c5
            have hd5' : decide ((4000 : Int) < (m : Int) + (a3.size : Int)) = false := decide_eq_false c5
            by_cases c6 : old.size < 549755813888
            · rw [if_pos c6] at h
              have HP := Aside0.mk h
              have HOLD : Aside0 (old.size < 1099511627776) := ⟨by omega⟩
              have HNUM : Aside0 (m + a3.size ≤ 4000 ∧ old.size < 549755813888) := ⟨by omega⟩
              clear h c2 c3 c4 c5 c6
              obtain ⟨D, hD⟩ : ∃ D, D = m + a3.size - old.size := ⟨_, rfl⟩
              have HD := Aside0.mk hD
              clear hD
              go_enter Try.func27, Try.ntmps27
              go_wp2_with (go_at_call 28; go_must ((with_reducible refine (file_Get.calls A0 c0 l0 a1 old true _ HR.out HC.out HG.out).mono ?_); rintro e w1 ⟨rfl, hb⟩; obtain ⟨v1, W1, hcv, hbs, hbw⟩ := file_Write.Bs.conv w1 old HOLD.out; have HBS := Aside0.mk (file_Write.Bs.lower hbs (below_size hb)); have HB := Aside0.mk (below_step hb hbw); clear hb hbs hbw))
              go_loopg [12] D (fun g v12 wr => ∃ (bs : List UInt8) (gb cap z : Nat), v12 = .slice (some ⟨gb, 0, none⟩) bs.length cap ∧ Aside0 (z + g = D ∧ bs = old.data.toList ++ List.replicate z 0) ∧ Aside0 (file_Write.Bs wr w.heap.size v12 bs) ∧ Aside0 (Below w.heap.size w wr))
              case atStart =>
                have hb2 := HBS.out
                obtain ⟨gb, cap, cur, fr, hv, -⟩ := HBS.out
                exact ⟨_, gb, cap, 0, hv, ⟨by omega, by simp⟩, ⟨hb2⟩, HB⟩
              case round =>
                clear HBS HB
                obtain ⟨bs, gb, cap, z, rfl, HZ, HBS, HB⟩ := hrel
                have hbl : bs.length = old.size + z := by rw [HZ.out.2, List.length_append, List.length_replicate, ← Lib.size_eq]
                have hD := HD.out
                have hz := HZ.out.1
                have hnum := HNUM.out
                match gk, hz, HZ with
                | 0, hz, HZ =>
                  have hdl : decide ((bs.length : Int) < (m : Int) + (a3.size : Int)) = false := decide_eq_false (by omega)
                  have hm0 : (0 : Int) ≤ (m : Int) := by omega
                  have hml : (m : Int) ≤ (bs.length : Int) := by omega
                  have hml' : m ≤ bs.length := by omega
                  obtain ⟨g2, cap2, cur2, fr2, hv2, hgB, hh2, hnc, -⟩ := HBS.out
                  injection hv2 with e1 e2 e3
                  injection e1 with e1
                  injection e1 with e1
                  subst e1 e3
                  have hov : file_Write.over old.data.toList a3.data.toList m = bs.take m ++ a3.data.toList ++ bs.drop (m + a3.size) := by
                    have hfl : file_Write.fill old.data.toList (m + a3.data.toList.length) = bs := by
                      rw [file_Write.fill, HZ.out.2, ← Lib.size_eq, ← Lib.size_eq]
                      congr 2
                      omega
                    rw [file_Write.over, hfl, ← Lib.size_eq a3]
                  have HP2 := HP
                  rw [Int.toNat_natCast, hov] at HP2
                  have hic : m ≤ cap := by omega
                  have hcm : (m : Int) ≤ (cap : Int) := by omega
                  have hnn : ((bs.length : Int) ≤ (cap : Int)) := by omega
                  by_cases hce : cap = m
                  · have h30 : a3.size = 0 := by omega
                    have hbm : bs.length = m := by omega
                    have hnil : a3.data.toList = [] := List.eq_nil_of_length_eq_zero (by rw [← Lib.size_eq]; exact h30)
                    have hcp := run_copy_string (P := Try.prog) wr 93 9 3 5 gb 0 0 0 a3 Try.underlying93 Try.sizeOf5 (by omega) (fun j hj => by omega) (fun j hj => by omega)
                    have hsc : wr.setCells gb 0 (a3.data.toList.map fun x => Value.int .u8 (x.toNat : Int)) = wr := by rw [hnil]; rfl
                    rw [hsc] at hcp
                    have hall : bs.take m ++ a3.data.toList ++ bs.drop (m + a3.size) = bs := by
                      rw [hnil, h30, ← hbm]
                      simp
                    rw [hall] at HP2
                    have hstr := file_Write.Bs.str wr w.heap.size _ _ HBS.out
                    obtain ⟨whole, hwh⟩ : ∃ whole : ByteArray, whole = ⟨bs.toArray⟩ := ⟨_, rfl⟩
                    rw [← hwh] at hstr HP2
                    clear hbl hD hz hnum hov hh2 hgB hwh hsc hall hnil
                    subst hce
                    have hsub : bs.length - cap = 0 := by omega
                    clear hbm h30
                    go_wp2_with (first
                      | ((with_reducible refine gate_builtin (b := .copy) (xs := #[.tmp 48, .tmp 49]) rfl ?_); at_builtin; refine Kd.wpList_copy_run _ rfl _ _ 93 9 rfl _ _ rfl rfl hcp ?_)
                      | (go_at_call 26; go_must ((with_reducible refine (file_Put.calls A0 c0 l0 a1 _ r1 r2 _ ?s1 ?s2 HP2.out).mono ?_); (case s1 => exact Kd.C_below HR.out HB.out); (case s2 => exact HC.out); rintro e w5 ⟨v5, rfl, ho, hb⟩; have HO5 := Aside0.mk (Kd.R_lower ho (below_size HB.out)); have HB5 := Aside0.mk (below_step HB.out hb); clear ho hb)))
                    go_ret2
                    exact ⟨_, rfl, HO5.out, HB5.out⟩
                  · obtain ⟨hcp, hbs2, hbw2⟩ := file_Write.Bs.copy wr w.heap.size bs gb cap HBS.out a3 m (by omega) 3 (cap - m)
                    obtain ⟨W2, hW2⟩ : ∃ W2, W2 = wr.setCells gb m (a3.data.toList.map fun x => Value.int .u8 (x.toNat : Int)) := ⟨_, rfl⟩
                    rw [← hW2] at hcp hbs2 hbw2
                    have hstr := file_Write.Bs.str W2 w.heap.size _ _ hbs2
                    have hln : (bs.take m ++ a3.data.toList ++ bs.drop (m + a3.size)).length = bs.length := by
                      rw [List.length_append, List.length_append, List.length_take, List.length_drop, ← Lib.size_eq]
                      omega
                    have HB2 := Aside0.mk (HB.out.trans hbw2)
                    obtain ⟨whole, hwh⟩ : ∃ whole : ByteArray, whole = ⟨(bs.take m ++ a3.data.toList ++ bs.drop (m + a3.size)).toArray⟩ := ⟨_, rfl⟩
                    rw [← hwh] at hstr HP2
                    clear hbl hD hz hnum hW2 hbs2 hbw2 hov hh2 hgB hwh
                    go_wp2_with (first
                      | ((with_reducible refine gate_builtin (b := .copy) (xs := #[.tmp 48, .tmp 49]) rfl ?_); at_builtin; refine Kd.wpList_copy_run _ rfl _ _ 93 9 rfl _ _ rfl rfl hcp ?_)
                      | (go_at_call 26; go_must ((with_reducible refine (file_Put.calls A0 c0 l0 a1 _ r1 r2 _ ?s1 ?s2 HP2.out).mono ?_); (case s1 => exact Kd.C_below HR.out HB2.out); (case s2 => exact HC.out); rintro e w5 ⟨v5, rfl, ho, hb⟩; have HO5 := Aside0.mk (Kd.R_lower ho (below_size HB2.out)); have HB5 := Aside0.mk (below_step HB2.out hb); clear ho hb)))
                    go_ret2
                    exact ⟨_, rfl, HO5.out, HB5.out⟩
                | g + 1, hz, HZ =>
                  have hdl : decide ((bs.length : Int) < (m : Int) + (a3.size : Int)) = true := decide_eq_true (by omega)
                  obtain ⟨v', W', hrun, hbs', hbw'⟩ := file_Write.Bs.push wr w.heap.size _ bs HBS.out (below_size HB.out) (by omega) 93
                  have hbs2 := hbs'
                  obtain ⟨gb', cap', cur', fr', hv', -⟩ := hbs'
                  subst hv'
                  have HBS2 := Aside0.mk hbs2
                  have HB2 := Aside0.mk (HB.out.trans hbw')
                  have HZ2 : Aside0 (z + 1 + g = D ∧ bs ++ [0] = old.data.toList ++ List.replicate (z + 1) 0) := ⟨by omega, by rw [HZ.out.2, List.append_assoc, List.replicate_succ']⟩
                  clear hbl hD hz hnum hbs2 hbw' HZ
                  go_wp2_with ((with_reducible refine gate_builtin (b := .append) (xs := #[.tmp 43, .tmp 44]) rfl ?_); at_builtin; refine Lib.wpList_append_run _ rfl _ _ _ _ rfl _ _ rfl rfl _ _ hrun ?_)
                  go_roundg g
                  case measure => omega
                  case rel => exact ⟨bs ++ [0], gb', cap', z + 1, by simp, HZ2, by rw [show bs.length + 1 = (bs ++ [0]).length by simp]; exact HBS2, HB2⟩
            · rw [if_neg c6] at h; cases h
        · rw [if_neg c4] at h; cases h
    · rw [if_neg c2] at h
      injection h with h
      injection h with h1 h2
      subst h1 h2
      have hd0 : decide (a2 < 0) = true := decide_eq_true (by omega)
      clear c2
      go_enter Try.func27, Try.ntmps27
      go_wp2_with (go_at_call 28; go_must ((with_reducible refine (file_Get.calls A0 c0 l0 a1 old true _ HR.out HC.out HG.out).mono ?_); rintro e w1 ⟨rfl, hb⟩; have HB := Aside0.mk hb; clear hb))
      go_ret2
      exact ⟨_, rfl, Kd.R_nil _ _ _ _ _, HB.out⟩


/-! ### lazarusref17_Same: function 29 -/
def lazarusref17_Same.l0 : Nat → List (S90) → List (S90) → Int → Option (Bool)
  | 0, _, _, _ => none
  | k + 1, x0, x1, x5 => if x5 < (x0.length : Int) then (if 0 ≤ x5 then (if x5 < (x1.length : Int) then (if (!((((rd_T90 x0 x5).f0).toList) == (((rd_T90 x1 x5).f0).toList)) || (!((((rd_T90 x0 x5).f1).toList) == (((rd_T90 x1 x5).f1).toList)))) = true then (some false) else (lazarusref17_Same.l0 k x0 x1 (wrap64 (x5 + 1)))) else (none)) else (none)) else (some true)
def lazarusref17_Same.f (k : Nat) (l0 : List (S90)) (l1 : List (S90)) : Option (Bool) := if (l0.length : Int) = (l1.length : Int) then (lazarusref17_Same.l0 k l0 l1 0) else (some false)
theorem lazarusref17_Same.mono_l : ∀ k, (∀ y0 y1 y2, LeO (lazarusref17_Same.l0 k y0 y1 y2) (lazarusref17_Same.l0 (k + 1) y0 y1 y2))
  | 0 => fun _ _ _ r h => by simp [lazarusref17_Same.l0] at h
  | k + 1 => by
    have ih0 := lazarusref17_Same.mono_l k
    · intro y0 y1 y2
      unfold lazarusref17_Same.l0
      repeat' first
      | (with_reducible exact ih0 _ _ _)
      | (with_reducible exact LeO.refl _)
      | (with_reducible exact LeO.none _)
      | (with_reducible refine LeO.ite ?_ ?_)
      | (with_reducible refine LeO.bind ?_ (fun _ => ?_))
      | exact ih0 _ _ _
      | exact LeO.none _
      | refine LeO.ite ?_ ?_
      | refine LeO.bind ?_ (fun _ => ?_)
theorem lazarusref17_Same.mono : ∀ a0 a1 k, LeO (lazarusref17_Same.f k a0 a1) (lazarusref17_Same.f (k + 1) a0 a1) := by
  intro a0 a1 k
  have ih0 := lazarusref17_Same.mono_l k
  unfold lazarusref17_Same.f
  repeat' first
      | (with_reducible exact ih0 _ _ _)
      | (with_reducible exact LeO.refl _)
      | (with_reducible exact LeO.none _)
      | (with_reducible refine LeO.ite ?_ ?_)
      | (with_reducible refine LeO.bind ?_ (fun _ => ?_))
      | exact ih0 _ _ _
      | exact LeO.none _
      | refine LeO.ite ?_ ?_
      | refine LeO.bind ?_ (fun _ => ?_)
set_option maxHeartbeats 8000000 in
set_option maxRecDepth 100000 in
theorem lazarusref17_Same.calls (k : Nat) (A0 : Option Addr) (c0 : Nat) (l0 : List (S90)) (A1 : Option Addr) (c1 : Nat) (l1 : List (S90)) (r : Bool) (w : World) (hr0 : Kd.C k90 w A0 l0.length l0) (hc0 : l0.length ≤ c0) (hr1 : Kd.C k90 w A1 l1.length l1) (hc1 : l1.length ≤ c1) (h : lazarusref17_Same.f k l0 l1 = some r) :
    Calls Try.prog 29 #[.slice A0 l0.length c0, .slice A1 l1.length c1] w fun e w' => e = .returned (.bool r) ∧ Drawn0 w w' := by
  have hu90 := Try.underlying90
  have HR0 := Aside0.mk hr0
  have HC0 := Aside0.mk hc0
  clear hr0 hc0
  have HR1 := Aside0.mk hr1
  have HC1 := Aside0.mk hc1
  clear hr1 hc1
  have H : (if (l0.length : Int) = (l1.length : Int) then (lazarusref17_Same.l0 k l0 l1 0) else (some false)) = some r := h
  clear h
  by_cases c3 : (l0.length : Int) = (l1.length : Int)
  · rw [if_pos c3] at H
    have c3b0 : ((l0.length : Int) == (l1.length : Int)) = true := beq_iff_eq.mpr c3
    have c3b1 : ((l0.length : Int) != (l1.length : Int)) = false := bne_eq_false_iff_eq.mpr c3
    have c3b2 : (l0.length == l1.length) = true := by first | simpa using c3 | (simp at c3 ⊢; omega)
    clear c3
    have H' := Aside0.mk H
    clear H
    go_enter Try.func29, Try.ntmps29
    go_wp2
    repeat (go_quiet (fail); try go_wp2)
    go_loopg [5] k (fun kq v5 w' => ∃ (x5_1 : Int), v5 = .int .i64 x5_1 ∧ Aside0 (lazarusref17_Same.l0 kq l0 l1 x5_1 = some r) ∧ Aside0 (kq ≤ k) ∧ Drawn0 w w')
    case atStart => exact ⟨(0), (by first | rfl | (simp; done) | (simp [*]; done) | (simp; unfold wrap64; omega)), H', ⟨Nat.le_refl _⟩, by repeat (first | exact Drawn0.refl _ | apply Drawn0.step)⟩
    case round =>
      clear H'
      try clear c1
      try clear c2
      try clear p2
      try clear c3
      try clear c3b0
      try clear c3b1
      try clear c3b2
      obtain ⟨x5_1, rfl, HA, HK1, ⟨m1, rfl⟩⟩ := hrel
      cases gk with
      | zero => exact absurd HA.out (by simp [lazarusref17_Same.l0])
      | succ k1 =>
        have H := HA.out
        clear HA
        simp only [lazarusref17_Same.l0] at H
        by_cases c4 : x5_1 < (l0.length : Int)
        · rw [if_pos c4] at H
          have c4b0 : decide (x5_1 < (l0.length : Int)) = true := decide_eq_true c4
          clear c4
          by_cases c5 : 0 ≤ x5_1
          · rw [if_pos c5] at H
            have c5b0 : decide (0 ≤ x5_1) = true := decide_eq_true c5
            clear c5
            by_cases c6 : x5_1 < (l1.length : Int)
            · rw [if_pos c6] at H
              have c6b0 : decide (x5_1 < (l1.length : Int)) = true := decide_eq_true c6
              clear c6
              by_cases c7 : (!((((rd_T90 l0 x5_1).f0).toList) == (((rd_T90 l1 x5_1).f0).toList)) || (!((((rd_T90 l0 x5_1).f1).toList) == (((rd_T90 l1 x5_1).f1).toList)))) = true
              · rw [if_pos c7] at H
                have c7b0 : (!((((rd_T90 l0 x5_1).f0).toList) == (((rd_T90 l1 x5_1).f0).toList)) || (!((((rd_T90 l0 x5_1).f1).toList) == (((rd_T90 l1 x5_1).f1).toList)))) = true := c7
                clear c7
                obtain rfl := Option.some.inj H
                have p112 : 0 ≤ (x5_1 : Int) := of_decide_eq_true (by first | (with_reducible assumption) | assumption)
                have q112 : x5_1 < (l0.length : Int) := of_decide_eq_true (by first | (with_reducible assumption) | assumption)
                obtain ⟨ad112, e112, hx112_0, hx112_1⟩ := at_T90 HR0.out x5_1 p112 q112
                cases e112
                replace p112 := eq_true p112
                replace q112 := eq_true q112
                have p113 : 0 ≤ (x5_1 : Int) := of_decide_eq_true (by first | (with_reducible assumption) | assumption)
                have q113 : x5_1 < (l1.length : Int) := of_decide_eq_true (by first | (with_reducible assumption) | assumption)
                obtain ⟨ad113, e113, hx113_0, hx113_1⟩ := at_T90 HR1.out x5_1 p113 q113
                cases e113
                replace p113 := eq_true p113
                replace q113 := eq_true q113
                go_wp2
                repeat (go_quiet (fail); try go_wp2)
                go_ret
                exact ⟨by first | rfl | (simp; done) | (simp [*]; done) | (simp; unfold wrap64; omega) | (simp; generalize ByteArray.toList _ = l_; cases l_ <;> simp), by repeat (first | exact Drawn0.refl _ | apply Drawn0.step)⟩
              · rw [if_neg c7] at H
                have c7b0 : (!((((rd_T90 l0 x5_1).f0).toList) == (((rd_T90 l1 x5_1).f0).toList)) || (!((((rd_T90 l0 x5_1).f1).toList) == (((rd_T90 l1 x5_1).f1).toList)))) = false := by simpa using c7
                clear c7
                have H' := Aside0.mk H
                clear H
                have p112 : 0 ≤ (x5_1 : Int) := of_decide_eq_true (by first | (with_reducible assumption) | assumption)
                have q112 : x5_1 < (l0.length : Int) := of_decide_eq_true (by first | (with_reducible assumption) | assumption)
                obtain ⟨ad112, e112, hx112_0, hx112_1⟩ := at_T90 HR0.out x5_1 p112 q112
                cases e112
                replace p112 := eq_true p112
                replace q112 := eq_true q112
                have p113 : 0 ≤ (x5_1 : Int) := of_decide_eq_true (by first | (with_reducible assumption) | assumption)
                have q113 : x5_1 < (l1.length : Int) := of_decide_eq_true (by first | (with_reducible assumption) | assumption)
                obtain ⟨ad113, e113, hx113_0, hx113_1⟩ := at_T90 HR1.out x5_1 p113 q113
                cases e113
                replace p113 := eq_true p113
                replace q113 := eq_true q113
                go_wp2
                repeat (go_quiet (fail); try go_wp2)
                go_roundg k1
                case measure => have := HK1.out; omega
                case rel => exact ⟨(wrap64 (x5_1 + 1)), (by first | rfl | (simp; done) | (simp [*]; done) | (simp; unfold wrap64; omega)), H', ⟨by have := HK1.out; omega⟩, by repeat (first | exact Drawn0.refl _ | apply Drawn0.step)⟩
            · rw [if_neg c6] at H
              exact absurd H (by simp)
          · rw [if_neg c5] at H
            exact absurd H (by simp)
        · rw [if_neg c4] at H
          have c4b0 : decide (x5_1 < (l0.length : Int)) = false := decide_eq_false c4
          clear c4
          obtain rfl := Option.some.inj H
          go_wp2
          repeat (go_quiet (fail); try go_wp2)
          go_ret
          exact ⟨by first | rfl | (simp; done) | (simp [*]; done) | (simp; unfold wrap64; omega) | (simp; generalize ByteArray.toList _ = l_; cases l_ <;> simp), by repeat (first | exact Drawn0.refl _ | apply Drawn0.step)⟩
  · rw [if_neg c3] at H
    have c3b0 : ((l0.length : Int) == (l1.length : Int)) = false := beq_eq_false_iff_ne.mpr c3
    have c3b1 : ((l0.length : Int) != (l1.length : Int)) = true := bne_iff_ne.mpr c3
    have c3b2 : (l0.length == l1.length) = false := by first | simpa using c3 | (simp at c3 ⊢; omega)
    obtain rfl := Option.some.inj H
    go_enter Try.func29, Try.ntmps29
    go_wp2
    repeat (go_quiet (fail); try go_wp2)
    go_ret
    exact ⟨by first | rfl | (simp; done) | (simp [*]; done) | (simp; unfold wrap64; omega) | (simp; generalize ByteArray.toList _ = l_; cases l_ <;> simp), by repeat (first | exact Drawn0.refl _ | apply Drawn0.step)⟩

end Go.Proofs.Ythlakeaefoljnaa.QFilePlays
