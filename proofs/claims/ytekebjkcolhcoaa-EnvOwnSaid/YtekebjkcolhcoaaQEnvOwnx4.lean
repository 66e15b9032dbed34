-- Written by a program of this session (wip/tools), out of the kit's print of the loaded program: functions, and proofs that the calls come to them.
import Derived.Test.YtekebjkcolhcoaaQEnvOwnx0
import Derived.Test.YtekebjkcolhcoaaQEnvOwnx3
namespace Go.Proofs.Ytekebjkcolhcoaa.QEnvOwn
open Go.RowKit Go.Proofs.YtekebjkcolhcoaaW.PrintWords Go.Proofs.YtekebjkcolhcoaaW.PrintLast Go.Proofs.YtekebjkcolhcoaaW.PrintMore
attribute [local go_sem] max2_int min2_int max_two min_two max_three min_three max_four min_four   -- for this text's walks alone
set_option linter.unusedVariables false
set_option linter.unusedSimpArgs false

/-! ### api_Binding_40: function 40 -/
theorem api_Binding_40.cmp_any (a b : ByteArray) (w : World) : Calls Try.prog 60 #[.string a, .string b] w fun e w' => e = .returned (.int .i64 (Kd.cmpS a b)) ∧ w = w' := by
  by_cases h1 : Op.bytesLess a.toList b.toList = true
  · have e : Kd.cmpS a b = -1 := by unfold Kd.cmpS; rw [if_pos h1]
    rw [e]
    clear e
    go_enter Try.func60, Try.ntmps60
    go_wp2
    go_ret
    exact ⟨rfl, rfl⟩
  · by_cases h2 : a.toList = b.toList
    · have e : Kd.cmpS a b = 0 := by unfold Kd.cmpS; rw [if_neg h1, if_pos h2]
      rw [e]
      clear e
      have h1 := Bool.eq_false_iff.mpr h1
      have h3 : (!a.toList == b.toList) = false := by simpa using h2
      clear h2
      go_enter Try.func60, Try.ntmps60
      go_wp2
      go_ret
      exact ⟨rfl, rfl⟩
    · have e : Kd.cmpS a b = 1 := by unfold Kd.cmpS; rw [if_neg h1, if_neg h2]
      rw [e]
      clear e
      have h1 := Bool.eq_false_iff.mpr h1
      have h3 : (!a.toList == b.toList) = true := by simpa using h2
      clear h2
      go_enter Try.func60, Try.ntmps60
      go_wp2
      go_ret
      exact ⟨rfl, rfl⟩
theorem api_Binding_40.key_any (a b : ByteArray) (w : World) : Calls Try.prog 39 #[.agg #[.string a, .string b]] w fun e w' => e = .returned (.string a) ∧ Below w.heap.size w w' := by
  go_enter Try.func39, Try.ntmps39
  go_wp2
  go_ret
  exact ⟨rfl, below_alloc (Below.refl _ _) _⟩
theorem api_Binding_40.cl_any (a b s : ByteArray) (p : Nat) (w : World) (hp : w.cell? ⟨p, 0, none⟩ = some (.func (.func 39) #[] #[])) (hlt : p < w.heap.size) :
    Calls Try.prog 59 #[.agg #[.string a, .string b], .string s, .pointer (some ⟨p, 0, none⟩)] w fun e w' => e = .returned (.int .i64 (Kd.cmpS a s)) ∧ Below w.heap.size w w' := by
  go_enter Try.func59, Try.ntmps59
  go_wp2_with (first | (go_at_call 39; go_must ((with_reducible refine (api_Binding_40.key_any a b _).mono ?_); rintro e w1 ⟨rfl, hb1⟩)) | (go_at_call 60; go_must ((with_reducible refine (api_Binding_40.cmp_any a s _).mono ?_); rintro e w' ⟨rfl, rfl⟩)))
  go_ret
  exact ⟨rfl, below_then (below_alloc (Below.refl _ _) _) (by simp) hb1⟩
def api_Binding_40.find_i (l : List S71) (s : ByteArray) : Nat := Kd.bsr (fun m => decide (Kd.cmpS (l.getD m z71).f0 s < 0)) l.length 0 l.length
theorem api_Binding_40.find_i_le (l : List S71) (s : ByteArray) : api_Binding_40.find_i l s ≤ l.length := Kd.bsr_le _ _ _ _ (Nat.zero_le _)
def api_Binding_40.hit (l : List S71) (s : ByteArray) : Bool := decide (api_Binding_40.find_i l s < l.length) && (Kd.cmpS (l.getD (api_Binding_40.find_i l s) z71).f0 s == 0)
set_option maxHeartbeats 2000000 in
theorem api_Binding_40.bs_any (A : Option Addr) (c : Nat) (l : List S71) (s : ByteArray) (p : Nat) (w : World) (hr : Kd.C k71 w A l.length l) (hc : l.length ≤ c) (HM : l.length < 140737488355328) (hp : w.cell? ⟨p, 0, none⟩ = some (.func (.func 39) #[] #[])) (hlt : p < w.heap.size) :
    Calls Try.prog 58 #[.slice A l.length c, .string s, .func (.func 59) #[] #[.pointer (some ⟨p, 0, none⟩)]] w fun e w' => e = .returned (.tuple #[.int .i64 (api_Binding_40.find_i l s), .bool (api_Binding_40.hit l s)]) ∧ Below w.heap.size w w' := by
  have HR := Aside0.mk hr
  have HC := Aside0.mk hc
  have HP := Aside0.mk hp
  have HL := Aside0.mk hlt
  clear hr hc hp hlt
  go_enter Try.func58, Try.ntmps58
  go_wp2
  go_loopw [9, 10] (fun lo hi wr => ∃ a b : Nat, a ≤ b ∧ b ≤ l.length ∧ lo = .int .i64 a ∧ hi = .int .i64 b ∧ Aside0 (Kd.bsr (fun m => decide (Kd.cmpS (l.getD m z71).f0 s < 0)) (b - a) a b = api_Binding_40.find_i l s) ∧ Aside0 (Below w.heap.size w wr)) (fun lo hi _ => (intOf hi - intOf lo).toNat)
  case atStart => exact ⟨0, l.length, Nat.zero_le _, Nat.le_refl _, rfl, rfl, ⟨by unfold api_Binding_40.find_i; exact Kd.bsr_more _ _ _ _ _ (by omega) (by omega)⟩, ⟨Below.refl _ _⟩⟩
  case round =>
    obtain ⟨a, b, hab, hbl, rfl, rfl, HI, HB⟩ := hrel
    have HR1 := Aside0.mk (Kd.C_below HR.out HB.out)
    have HP1 := (pw_cell_below HB.out HP.out)
    have HL1 := Nat.lt_of_lt_of_le HL.out HB.out.size
    by_cases hlt : a < b
    · obtain ⟨m, hm⟩ : ∃ m : Nat, m = (a + b) / 2 := ⟨_, rfl⟩
      obtain ⟨ad, e0, hx0, hx1⟩ := at_T71 HR1.out (m : Int) (by omega) (by omega)
      subst e0
      have e1 : rd_T71 l (m : Int) = l.getD m z71 := rfl
      rw [e1] at hx0 hx1
      simp only [Int.toNat_natCast] at hx0 hx1
      have em : ((a : Int) + (b : Int)) / 2 = (m : Int) := by omega
      have hd : decide ((a : Int) < (b : Int)) = true := by simpa using hlt
      have h1 : a ≤ m := by omega
      have h2 : m < b := by omega
      have HI3 : Aside0 (Kd.bsr (fun m => decide (Kd.cmpS (l.getD m z71).f0 s < 0)) (b - a) a b = if decide (Kd.cmpS (l.getD m z71).f0 s < 0) = true then Kd.bsr (fun m => decide (Kd.cmpS (l.getD m z71).f0 s < 0)) (b - (m + 1)) (m + 1) b else Kd.bsr (fun m => decide (Kd.cmpS (l.getD m z71).f0 s < 0)) (m - a) a m) := ⟨by
        obtain ⟨d, hdd⟩ : ∃ d, b - a = d + 1 := ⟨b - a - 1, by omega⟩
        rw [hdd, Kd.bsr, if_pos hlt, ← hm]
        split
        · exact Kd.bsr_more _ _ _ _ _ (by omega) (by omega)
        · exact Kd.bsr_more _ _ _ _ _ (by omega) (by omega)⟩
      clear hlt e1 hm
      generalize l.getD m z71 = x at hx0 hx1 HI3
      by_cases hc : Kd.cmpS x.f0 s < 0
      · have hcd : decide (Kd.cmpS x.f0 s < 0) = true := decide_eq_true hc
        have HI4 := Aside0.mk ((HI3.out.symm.trans HI.out))
        rw [if_pos hcd] at HI4
        clear hc HI3 HI
        go_wp2_with (go_at_call 59; go_must ((with_reducible refine (api_Binding_40.cl_any x.f0 x.f1 s p _ HP1 HL1).mono ?_); rintro e w1 ⟨rfl, hb1⟩))
        exact ⟨⟨m + 1, b, by omega, hbl, by go_num, rfl, HI4, ⟨below_step HB.out hb1⟩⟩, by simp [intOf]; omega⟩
      · have hcd : decide (Kd.cmpS x.f0 s < 0) = false := decide_eq_false hc
        have HI4 := Aside0.mk ((HI3.out.symm.trans HI.out))
        rw [if_neg (by simp [hc])] at HI4
        clear hc HI3 HI
        go_wp2_with (go_at_call 59; go_must ((with_reducible refine (api_Binding_40.cl_any x.f0 x.f1 s p _ HP1 HL1).mono ?_); rintro e w1 ⟨rfl, hb1⟩))
        exact ⟨⟨a, m, by omega, by omega, rfl, rfl, HI4, ⟨below_step HB.out hb1⟩⟩, by simp [intOf]; omega⟩
    · obtain rfl : a = b := by omega
      have hi : api_Binding_40.find_i l s = a := by
        have h := HI.out
        rw [Nat.sub_self] at h
        exact h.symm
      have hd : decide ((a : Int) < (a : Int)) = false := by simp
      by_cases hal : a < l.length
      · obtain ⟨ad, e0, hx0, hx1⟩ := at_T71 HR1.out (a : Int) (by omega) (by omega)
        subst e0
        have e1 : rd_T71 l (a : Int) = l.getD a z71 := rfl
        rw [e1] at hx0 hx1
        simp only [Int.toNat_natCast] at hx0 hx1
        have hh : api_Binding_40.hit l s = (Kd.cmpS (l.getD a z71).f0 s == 0) := by unfold api_Binding_40.hit; rw [hi]; simp [hal]
        have HH := Aside0.mk hh
        have HE := Aside0.mk hi
        clear hlt e1 hi hh HI
        generalize l.getD a z71 = x at hx0 hx1 HH
        go_wp2_with (go_at_call 59; go_must ((with_reducible refine (api_Binding_40.cl_any x.f0 x.f1 s p _ HP1 HL1).mono ?_); rintro e w1 ⟨rfl, hb1⟩))
        go_ret2
        rw [HE.out, HH.out]
        exact ⟨rfl, below_step HB.out hb1⟩
      · have hh : api_Binding_40.hit l s = false := by unfold api_Binding_40.hit; rw [hi]; simp [hal]
        have HH := Aside0.mk hh
        have HE := Aside0.mk hi
        clear hlt hi hh HI
        go_wp2
        go_ret2
        rw [HE.out, HH.out]
        exact ⟨rfl, HB.out⟩
def api_Binding_40.f (l0 : List S71) (a1 : ByteArray) : Option (Int × Bool) := if l0.length < 140737488355328 then some ((api_Binding_40.find_i l0 a1 : Int), api_Binding_40.hit l0 a1) else none
theorem api_Binding_40.calls (A0 : Option Addr) (c0 : Nat) (l0 : List S71) (a1 : ByteArray) (r1 : Int) (r2 : Bool) (w : World) (hr0 : Kd.C k71 w A0 l0.length l0) (hc0 : l0.length ≤ c0) (h : api_Binding_40.f l0 a1 = some (r1, r2)) :
    Calls Try.prog 40 #[.slice A0 l0.length c0, .string a1, .func (.func 39) #[] #[]] w fun e w' => e = .returned (.tuple #[.int .i64 r1, .bool r2]) ∧ Below w.heap.size w w' := by
  unfold api_Binding_40.f at h
  by_cases hl : l0.length < 140737488355328
  · rw [if_pos hl] at h
    injection h with h
    injection h with h1 h2
    subst h1 h2
    have hmf : ∀ (fn : Fn) (first cap : Array Value) (w : World), (Instr.makeFunc fn first cap).run Try.prog w = .ok (.func fn first cap) w := fun _ _ _ _ => rfl
    have HR := Aside0.mk hr0
    have HC := Aside0.mk hc0
    have HM := Aside0.mk hl
    clear hr0 hc0 hl
    go_enter Try.func40, Try.ntmps40
    go_wp2_with (go_at_call 58; go_must ((with_reducible refine (api_Binding_40.bs_any A0 c0 l0 a1 w.heap.size _ ?s1 HC.out HM.out ?s2 ?s3).mono ?_); (case s1 => exact Kd.C_below HR.out (below_alloc (Below.refl _ _) _)); (case s2 => exact (Kd.heap_cell (heap_alloc_new _ _) 0)); (case s3 => simp); rintro e w1 ⟨rfl, hb1⟩))
    go_ret2
    exact ⟨rfl, below_then (below_alloc (Below.refl _ _) _) (by simp) hb1⟩
  · rw [if_neg hl] at h
    cases h


-- NOT PRINTED: function 65 (api_Binding_65)

-- NOT PRINTED: function 71 (api_Binding_71)

-- NOT PRINTED: function 69 (api_Binding_69)

-- NOT PRINTED: function 66 (api_Binding_66)

/-! ### api_Binding_57: function 57 -/
theorem api_Binding_57.ins_flat : Kd.Flat k71 := fun w w' base ok ok' x cs h => by
  obtain rfl := k71_openM h
  exact k71_mkM _ _ _ _
theorem api_Binding_57.ins_info : (Try.prog.info? 71).map (fun i => (i.zero, i.size, i.bytes)) = some (some (.agg #[.string ⟨#[]⟩, .string ⟨#[]⟩]), 2, 32) := by kernel_rfl
def api_Binding_57.ins_cells (x : S71) : List Value := [.string x.f0, .string x.f1]
theorem api_Binding_57.ins_lit {W : World} {g : Nat} {x : S71} (h : W.heap[g]? = some (.cells (api_Binding_57.ins_cells x).toArray 71 (0, 0))) : Kd.C k71 W (some ⟨g, 0, none⟩) 1 [x] :=
  ⟨rfl, by omega, fun _ => ⟨_, rfl, fun j p hj => by
    have hj0 : j = 0 := by have := (List.getElem?_eq_some_iff.1 hj).1; simpa using this
    subst hj0
    obtain rfl : x = p := by simpa using hj
    refine ⟨_, rfl, k71_mk _ _, fun i u hu => ?_⟩
    have e : k71.sz = 2 := rfl
    have ha : (⟨g, 0, none⟩ : Addr).add (0 * k71.sz + i) = ⟨g, i, none⟩ := by rw [Nat.zero_mul, Nat.zero_add]; exact add_plain _ _
    rw [ha, blk_cell h]
    simpa [api_Binding_57.ins_cells] using hu⟩⟩
set_option maxHeartbeats 4000000 in
set_option maxRecDepth 100000 in
/-- slices.Insert behind the last element: an append. -/
theorem api_Binding_57.ins_end (B gv : Nat) (v : Value) (xs : List S71) (x : S71) (W : World) (hgv : W.heap[gv]? = some (.cells (api_Binding_57.ins_cells x).toArray 71 (0, 0))) (HO : Kd.R k71 71 W B (fun z => z ≠ gv) v xs) (hB : B ≤ W.heap.size) (hbig : (xs.length + 1) * 32 ≤ 140737488355328) :
    Calls Try.prog 57 #[v, .int .i64 (xs.length : Int), .slice (some ⟨gv, 0, none⟩) 1 1] W fun e w' => ∃ v', e = .returned v' ∧ Kd.R k71 71 w' B (fun _ => True) v' (xs ++ [x]) ∧ Below B W w' := by
  have HRx : Aside0 (ReadsRow (k71.K W) k71.sz W (some ⟨gv, 0, none⟩) 1 [x]) := ⟨api_Binding_57.ins_lit hgv⟩
  have hlt : gv < W.heap.size := (Array.getElem?_eq_some_iff.1 hgv).1
  have HOx := Aside0.mk HO
  obtain ⟨hok, inner, hown, hr⟩ := HO
  rcases hown.2 with ⟨rfl, hn0⟩ | ⟨g, cap, cur, rfl, hgB, hh, hnc, hcm, hcs, htake⟩
  · obtain rfl : xs = [] := List.eq_nil_of_length_eq_zero hn0
    clear hgv hok hown hr hn0
    simp only [List.length_nil] at hbig ⊢
    go_enter Try.func57, Try.ntmps57
    go_wp2_with ((with_reducible refine gate_builtin (b := .append) (xs := #[.tmp 23, .tmp 24]) rfl ?_); at_builtin; go_must (refine Kd.R_append_rows k71 (w0 := W) B rfl (.tmp 23) (.tmp 24) 22 71 (.agg #[.string ⟨#[]⟩, .string ⟨#[]⟩]) 32 rfl Try.underlying22 api_Binding_57.ins_info rfl (by decide) (by decide) _ ([] : List S71) [x] (some ⟨gv, 0, none⟩) 1 1 (fun z => z ≠ gv) (fun _ => False) rfl rfl ?aO ?aR (fun _ _ h => h) ?aP ?aF ?aB ?aS ?aL ?_; (case aO => exact HOx.out); (case aR => exact HRx.out); (case aP => exact fun _ hk => hk.elim); (case aF => exact fun k hk => by omega); (case aB => exact Below.refl _ _); (case aS => exact hB); (case aL => exact hbig)); intro v1 w1 ho hb hg hat; have HO1 := Aside0.mk ho; have HB1 := Aside0.mk hb; clear ho hb hg hat)
    go_ret
    exact ⟨_, rfl, Kd.R_mono HO1.out (fun _ _ => trivial), HB1.out⟩
  · have h1 : ((xs.length : Int) ≤ (xs.length : Int)) = True := eq_true (by omega)
    have h2 : ((0 : Int) ≤ (xs.length : Int)) = True := eq_true (by omega)
    have hc0 : Aside0 (xs.length ≤ cap) := ⟨hnc⟩
    clear hgv hok hown hr hh hcs htake hgB hcm inner cur
    by_cases hce : cap = xs.length
    · subst hce
      clear hnc
      go_enter Try.func57, Try.ntmps57
      go_wp2_with ((with_reducible refine gate_builtin (b := .append) (xs := #[.tmp 23, .tmp 24]) rfl ?_); at_builtin; go_must (refine Kd.R_append_rows k71 (w0 := W) B rfl (.tmp 23) (.tmp 24) 22 71 (.agg #[.string ⟨#[]⟩, .string ⟨#[]⟩]) 32 rfl Try.underlying22 api_Binding_57.ins_info rfl (by decide) (by decide) _ xs [x] (some ⟨gv, 0, none⟩) 1 1 (fun z => z ≠ gv) (fun _ => False) rfl rfl ?aO ?aR (fun _ _ h => h) ?aP ?aF ?aB ?aS ?aL ?_; (case aO => exact HOx.out); (case aR => exact HRx.out); (case aP => exact fun _ hk => hk.elim); (case aF => exact fun k hk => by omega); (case aB => exact Below.refl _ _); (case aS => exact hB); (case aL => exact hbig)); intro v1 w1 ho hb hg hat; have HO1 := Aside0.mk ho; have HB1 := Aside0.mk hb; clear ho hb hg hat)
      go_ret
      exact ⟨_, rfl, Kd.R_mono HO1.out (fun _ _ => trivial), HB1.out⟩
    · go_enter Try.func57, Try.ntmps57
      go_wp2_with ((with_reducible refine gate_builtin (b := .append) (xs := #[.tmp 23, .tmp 24]) rfl ?_); at_builtin; go_must (refine Kd.R_append_rows k71 (w0 := W) B rfl (.tmp 23) (.tmp 24) 22 71 (.agg #[.string ⟨#[]⟩, .string ⟨#[]⟩]) 32 rfl Try.underlying22 api_Binding_57.ins_info rfl (by decide) (by decide) _ xs [x] (some ⟨gv, 0, none⟩) 1 1 (fun z => z ≠ gv) (fun _ => False) rfl rfl ?aO ?aR (fun _ _ h => h) ?aP ?aF ?aB ?aS ?aL ?_; (case aO => exact HOx.out); (case aR => exact HRx.out); (case aP => exact fun _ hk => hk.elim); (case aF => exact fun k hk => by omega); (case aB => exact Below.refl _ _); (case aS => exact hB); (case aL => exact hbig)); intro v1 w1 ho hb hg hat; have HO1 := Aside0.mk ho; have HB1 := Aside0.mk hb; clear ho hb hg hat)
      go_ret
      exact ⟨_, rfl, Kd.R_mono HO1.out (fun _ _ => trivial), HB1.out⟩
set_option maxHeartbeats 4000000 in
set_option maxRecDepth 100000 in
/-- slices.Insert, room for one more: in place. -/
theorem api_Binding_57.ins_room (g n c i gv : Nat) (cs cx : List Value) (cur : Array Value) (w : World) (hi : i < n) (hroom : n + 1 ≤ c) (hc63 : c ≤ 9223372036854775807) (hne : gv ≠ g) (hh : w.heap[g]? = some (.cells cur 71 (0, 0))) (hcur : cur.size = c * 2)
    (htake : cur.toList.take (n * 2) = cs) (hgv : w.heap[gv]? = some (.cells cx.toArray 71 (0, 0))) (hvl : cx.length = 2) (h1c : ∀ v ∈ cs, v.oneCell' = true) (h1v : ∀ v ∈ cx, v.oneCell' = true) :
    Calls Try.prog 57 #[.slice (some ⟨g, 0, none⟩) n c, .int .i64 (i : Int), .slice (some ⟨gv, 0, none⟩) 1 1] w fun e w' => e = .returned (.slice (some ⟨g, 0, none⟩) (n + 1) c) ∧ w' = (w.drew.setCells g ((i + 1) * 2) (cs.drop (i * 2))).setCells g (i * 2) cx := by
  have hcl : cs.length = n * 2 := by rw [← htake, List.length_take, Array.length_toList]; omega
  have hsz : (Try.prog.info? 71).map (·.size) = some 2 := by
    obtain ⟨i0, hi0, h0, h1, h2⟩ := info_parts api_Binding_57.ins_info
    rw [hi0]; simp [h1]
  have hcell : ∀ (W : World), W.heap = w.heap → ∀ j v, cs[j]? = some v → W.cell? ⟨g, j, none⟩ = some v := fun W hW j v hj => by
    have hjl : j < cs.length := (List.getElem?_eq_some_iff.1 hj).1
    rw [cell_of_row W g _ cur 71 (0, 0) (by rw [hW]; exact hh), ← Array.getElem?_toList]
    rw [← htake, List.getElem?_take] at hj
    split at hj
    · exact hj
    · cases hj
  have hsome : ∀ (W : World), W.heap = w.heap → ∀ j, j < c * 2 → (W.cell? ⟨g, j, none⟩).isSome = true := fun W hW j hj => by
    rw [cell_of_row W g _ cur 71 (0, 0) (by rw [hW]; exact hh)]
    simp; omega
  have hov : ∀ lb cb, (callFunc 65 #[.slice (some ⟨gv, 0, none⟩) 1 1, .slice (some ⟨g, (i + 1) * 2, none⟩) lb cb]).run Try.prog w = .ok (.value (.bool false)) w := fun lb cb => by
    rw [run_callFunc_extern Try.func65 (by kernel_rfl) (by kernel_rfl) (by kernel_rfl) (e := Extern.SlicesOverlaps.overlaps #[22, 22] #[4]) (by kernel_rfl),
      Lib.run_overlaps_apart w 22 4 71 Try.underlying22 2 Try.sizeOf71 ⟨gv, 0, none⟩ ⟨g, (i + 1) * 2, none⟩ 1 1 lb cb hne 71 71 2 (c * 2) (by simp [World.shape?, hgv, hvl]) (by simp [World.shape?, hh, hcur]) (by omega) (blk_frozen hgv _) (blk_frozen hgv _)]
    rfl
  have hcp1 : ∀ (W : World), W.heap = w.heap → ∀ ty dc sc, (Builtin.copy_ #[22, 22] ty #[.slice (some ⟨g, (i + 1) * 2, none⟩) (n - i) dc, .slice (some ⟨g, i * 2, none⟩) (n + 1 - i) sc]).run Try.prog W = .ok (goInt ((n - i : Nat) : Int)) (W.setCells g ((i + 1) * 2) (cs.drop (i * 2))) := fun W hW ty dc sc =>
    Kd.run_copy_cells_sz W _ _ ty 71 g ((i + 1) * 2) (n - i) dc ⟨g, i * 2, none⟩ (n + 1 - i) sc (n - i) 2 (cs.drop (i * 2)) Try.underlying22 hsz (by simp only [Nat.min_def]; split <;> omega) (by rw [List.length_drop, hcl]; omega)
      (fun j v hj => by rw [Kd.add_plain2]; exact hcell W hW _ v (by rwa [List.getElem?_drop] at hj)) (fun j hj => hsome W hW _ (by rw [List.length_drop, hcl] at hj; omega)) (fun j hj => blk_frozen (by rw [hW]; exact hh) _) (fun v hv => h1c v (List.mem_of_mem_drop hv))
  obtain ⟨cur1, hh1, hc1, ht1⟩ := setCells_row (cs.drop (i * 2)) ((i + 1) * 2) w cur hh (by rw [List.length_drop, hcl, hcur]; omega)
  have hgv1 : (w.setCells g ((i + 1) * 2) (cs.drop (i * 2))).heap[gv]? = some (.cells cx.toArray 71 (0, 0)) := by rw [setCells_far _ _ gv hne]; exact hgv
  have hcp2 : ∀ (W : World), W.heap = (w.setCells g ((i + 1) * 2) (cs.drop (i * 2))).heap → ∀ ty dc, (Builtin.copy_ #[22, 22] ty #[.slice (some ⟨g, i * 2, none⟩) (n + 1 - i) dc, .slice (some ⟨gv, 0, none⟩) 1 1]).run Try.prog W = .ok (goInt 1) (W.setCells g (i * 2) cx) := fun W hW ty dc =>
    Kd.run_copy_cells_sz W _ _ ty 71 g (i * 2) (n + 1 - i) dc ⟨gv, 0, none⟩ 1 1 1 2 cx Try.underlying22 hsz (by simp only [Nat.min_def]; split <;> omega) (by omega)
      (fun j v hj => by rw [add_plain, cell_of_row W gv _ cx.toArray 71 (0, 0) (by rw [hW]; exact hgv1)]; simpa using hj)
      (fun j hj => by rw [cell_of_row W g _ cur1 71 (0, 0) (by rw [hW]; exact hh1)]; simp; omega) (fun j hj => blk_frozen (by rw [hW]; exact hh1) _) h1v
  have hheap : (w.drew.setCells g ((i + 1) * 2) (cs.drop (i * 2))).heap = (w.setCells g ((i + 1) * 2) (cs.drop (i * 2))).heap := by rw [← Kd.drew_setCells g (cs.drop (i * 2)) ((i + 1) * 2) w]; rfl
  have hz2 : ¬ ((i : Int) = (n : Int)) := by omega
  have hw1 : IntKind.i64.wrap ((i : Int) + 1) = (i : Int) + 1 := by rw [IntKind.wrap_i64]; omega
  have hw2 : IntKind.i64.wrap ((n : Int) + 1) = (n : Int) + 1 := by rw [IntKind.wrap_i64]; omega
  have hb1 : (0 : Int) ≤ (i : Int) + 1 := by omega
  have hin : i ≤ n := by omega
  have htn : ((i : Int) + 1).toNat = i + 1 := by omega
  have hb3 : (i : Int) ≤ (n : Int) + 1 := by omega
  have hb2 : ¬ (c = i + 1) := by omega
  have hb4 : ¬ (c = i) := by omega
  have hcpA := hcp1 w.drew rfl
  have hcpB := hcp2 (w.drew.setCells g ((i + 1) * 2) (cs.drop (i * 2))) hheap
  clear hcell hsome hcp1 hcp2 hgv1 hh1 hc1 ht1 hheap
  go_enter Try.func57, Try.ntmps57
  go_wp2_with (simp only [hov])
  go_region_law (refine Kd.step_copy_run rfl _ _ 22 22 rfl _ _ (by simp [Act.eval, Act.put]) (by simp [Act.eval, Act.put]) (hcpA _ _ _) ?_)
  go_wp2_with (at_builtin; refine Kd.wpList_copy_run _ rfl _ _ 22 22 rfl _ _ rfl rfl (hcpB _ _) ?_)
  go_ret
  exact ⟨rfl, rfl⟩
set_option maxHeartbeats 4000000 in
set_option maxRecDepth 100000 in
/-- slices.Insert, no room: a new row. -/
theorem api_Binding_57.ins_grow (g n c i gv : Nat) (cs cx : List Value) (cur : Array Value) (w : World) (hi : i < n) (hnc : n ≤ c) (hroom : c < n + 1) (hbig : (n + 1) * 32 ≤ 140737488355328) (hh : w.heap[g]? = some (.cells cur 71 (0, 0)))
    (hcur : cur.size = c * 2) (htake : cur.toList.take (n * 2) = cs) (hgv : w.heap[gv]? = some (.cells cx.toArray 71 (0, 0))) (hvl : cx.length = 2) (h1c : ∀ v ∈ cs, v.oneCell' = true) (h1v : ∀ v ∈ cx, v.oneCell' = true) :
    Calls Try.prog 57 #[.slice (some ⟨g, 0, none⟩) n c, .int .i64 (i : Int), .slice (some ⟨gv, 0, none⟩) 1 1] w fun e w' => ∃ (G : Nat) (ROW : Array Value), n + 1 ≤ G ∧ G ≤ 9223372036854775807 ∧ ROW.size = G * 2 ∧ ROW.toList.take (i * 2) = cs.take (i * 2) ∧ e = .returned (.slice (some ⟨w.heap.size, 0, none⟩) (n + 1) G) ∧
      w' = (((w.alloc (.cells ROW 71)).drew.setCells w.heap.size (i * 2) cx).drew).setCells w.heap.size ((i + 1) * 2) (cs.drop (i * 2)) := by
  have hcl : cs.length = n * 2 := by rw [← htake, List.length_take, Array.length_toList]; omega
  obtain ⟨i0, hi0, hz0, hzs, hzb⟩ := info_parts api_Binding_57.ins_info
  have hsz : (Try.prog.info? 71).map (·.size) = some 2 := by rw [hi0]; simp [hzs]
  have hgw : g < w.heap.size := (Array.getElem?_eq_some_iff.1 hh).1
  have hvw : gv < w.heap.size := (Array.getElem?_eq_some_iff.1 hgv).1
  have hcell : ∀ (W : World), W.heap[g]? = w.heap[g]? → ∀ j v, cs[j]? = some v → W.cell? ⟨g, j, none⟩ = some v := fun W hW j v hj => by
    rw [cell_of_row W g _ cur 71 (0, 0) (by rw [hW]; exact hh), ← Array.getElem?_toList]
    rw [← htake, List.getElem?_take] at hj
    split at hj
    · exact hj
    · cases hj
  have hkk : (n : Int) + 1 - (i : Int) = ((n + 1 - i : Nat) : Int) := by omega
  have hik : i + (n + 1 - i) = n + 1 := by omega
  have hold : (Builtin.firstCells i0.size i (.slice (some ⟨g, 0, none⟩) i c)).run Try.prog w.drew = .ok (cs.take (i * 2)).toArray w.drew := by
    rw [hzs]
    exact run_firstCells_some w.drew 2 i ⟨g, 0, none⟩ i c (cs.take (i * 2)) (by rw [List.length_take]; omega) (fun j v hj => by
      rw [add_plain]
      rw [List.getElem?_take] at hj
      split at hj
      · exact hcell w.drew rfl j v hj
      · cases hj)
  have hrz : ∀ ty, (Builtin.append_ #[22, 3] ty #[.slice (some ⟨g, 0, none⟩) i c, .int .i64 ((n : Int) + 1 - (i : Int))]).run Try.prog w =
      .ok (.slice (some ⟨w.heap.size, 0, none⟩) (n + 1) (grownCap w (n + 1) c 71)) (w.drew.alloc (.cells ((cs.take (i * 2)).toArray ++ Builtin.zeroCells (.agg #[.string ⟨#[]⟩, .string ⟨#[]⟩] : Value).cells (n + 1 - i) ++ Builtin.zeroCells (.agg #[.string ⟨#[]⟩, .string ⟨#[]⟩] : Value).cells (grownCap w (n + 1) c 71 - (n + 1))) 71)) := fun ty => by
    have h := Lib.run_append_grow_zeros w 22 3 ty 71 i0 _ .i64 .i64 Try.underlying22 Try.underlying3 hi0 hz0 (some ⟨g, 0, none⟩) i c (cs.take (i * 2)) hold (n + 1 - i) (by omega) (by omega) (by omega) (by omega) (by rw [hzb]; omega) (by rw [hzb, hik]; exact growslice_fits hroom hbig)
    rw [hik] at h
    rw [hkk]
    exact h
  obtain ⟨G, hG⟩ : ∃ G, G = grownCap w (n + 1) c 71 := ⟨_, rfl⟩
  have hGn : n + 1 ≤ G := by rw [hG]; exact grownCap_ge w _ _ _
  have hG63 : G ≤ 9223372036854775807 := by
    have := grownCap_le_maxLen w (n + 1) c 71 (by unfold maxLen; omega)
    rw [← hG] at this
    unfold maxLen at this
    omega
  obtain ⟨ROW, hROW⟩ : ∃ ROW : Array Value, ROW = (cs.take (i * 2)).toArray ++ Builtin.zeroCells (.agg #[.string ⟨#[]⟩, .string ⟨#[]⟩] : Value).cells (n + 1 - i) ++ Builtin.zeroCells (.agg #[.string ⟨#[]⟩, .string ⟨#[]⟩] : Value).cells (G - (n + 1)) := ⟨_, rfl⟩
  rw [← hG] at hrz
  rw [← hROW] at hrz
  have hzc : ∀ m, (Builtin.zeroCells (.agg #[.string ⟨#[]⟩, .string ⟨#[]⟩] : Value).cells m).size = m * 2 := fun m => by simp [Builtin.zeroCells, Value.cells]
  have hRl : ROW.size = G * 2 := by
    rw [hROW, Array.size_append, Array.size_append, hzc, hzc, List.size_toArray, List.length_take]
    omega
  have hRt : ROW.toList.take (i * 2) = cs.take (i * 2) := by
    rw [hROW, Array.toList_append, Array.toList_append, List.append_assoc, List.take_append_of_le_length (by rw [List.length_take]; omega), List.take_of_length_le (by rw [List.length_take]; omega)]
  have hNh : ∀ (W : World), W.heap = (w.drew.alloc (.cells ROW 71)).heap → W.heap[w.heap.size]? = some (.cells ROW 71 (0, 0)) := fun W hW => by rw [hW]; exact blk_new w.drew _
  have hOh : ∀ (W : World), W.heap = (w.drew.alloc (.cells ROW 71)).heap → ∀ k, k < w.heap.size → W.heap[k]? = w.heap[k]? := fun W hW k hk => by rw [hW]; exact (below_alloc (Below.refl w.drew.heap.size w.drew) _).block k hk
  have hcpA : ∀ (W : World), W.heap = (w.drew.alloc (.cells ROW 71)).heap → ∀ ty dc, (Builtin.copy_ #[22, 22] ty #[.slice (some ⟨w.heap.size, i * 2, none⟩) (n + 1 - i) dc, .slice (some ⟨gv, 0, none⟩) 1 1]).run Try.prog W = .ok (goInt 1) (W.setCells w.heap.size (i * 2) cx) := fun W hW ty dc =>
    Kd.run_copy_cells_sz W _ _ ty 71 w.heap.size (i * 2) (n + 1 - i) dc ⟨gv, 0, none⟩ 1 1 1 2 cx Try.underlying22 hsz (by simp only [Nat.min_def]; split <;> omega) (by omega)
      (fun j v hj => by rw [add_plain, cell_of_row W gv _ cx.toArray 71 (0, 0) (by rw [hOh W hW gv hvw]; exact hgv)]; simpa using hj)
      (fun j hj => by rw [cell_of_row W _ _ ROW 71 (0, 0) (hNh W hW)]; simp; omega) (fun j hj => blk_frozen (hNh W hW) _) h1v
  obtain ⟨cur1, hh1, hc1, ht1⟩ := setCells_row cx (i * 2) (w.drew.alloc (.cells ROW 71)) ROW (hNh _ rfl) (by omega)
  have hcpB : ∀ (W : World), W.heap = ((w.drew.alloc (.cells ROW 71)).setCells w.heap.size (i * 2) cx).heap → ∀ ty dc sc, (Builtin.copy_ #[22, 22] ty #[.slice (some ⟨w.heap.size, (i + 1) * 2, none⟩) (n - i) dc, .slice (some ⟨g, i * 2, none⟩) (n - i) sc]).run Try.prog W = .ok (goInt ((n - i : Nat) : Int)) (W.setCells w.heap.size ((i + 1) * 2) (cs.drop (i * 2))) := fun W hW ty dc sc =>
    Kd.run_copy_cells_sz W _ _ ty 71 w.heap.size ((i + 1) * 2) (n - i) dc ⟨g, i * 2, none⟩ (n - i) sc (n - i) 2 (cs.drop (i * 2)) Try.underlying22 hsz (by simp only [Nat.min_def]; split <;> omega) (by rw [List.length_drop, hcl]; omega)
      (fun j v hj => by rw [Kd.add_plain2]; exact hcell W (by rw [hW, setCells_far _ _ g (by omega)]; exact hOh _ rfl g hgw) _ v (by rwa [List.getElem?_drop] at hj))
      (fun j hj => by rw [cell_of_row W _ _ cur1 71 (0, 0) (by rw [hW]; exact hh1)]; rw [List.length_drop, hcl] at hj; simp; omega) (fun j hj => blk_frozen (by rw [hW]; exact hh1) _) (fun v hv => h1c v (List.mem_of_mem_drop hv))
  have hGi : ¬ (G = i) := by omega
  have hGim : ¬ (G = i + 1) := by omega
  have hci : ¬ (c = i) := by omega
  have hz2 : ¬ ((i : Int) = (n : Int)) := by omega
  have hz3 : (c : Int) < (n : Int) + 1 := by omega
  have hw1 : IntKind.i64.wrap ((i : Int) + 1) = (i : Int) + 1 := by rw [IntKind.wrap_i64]; omega
  have hw2 : IntKind.i64.wrap ((n : Int) + 1) = (n : Int) + 1 := by rw [IntKind.wrap_i64]; omega
  have hw3 : IntKind.i64.wrap ((n : Int) + 1 - (i : Int)) = (n : Int) + 1 - (i : Int) := by rw [IntKind.wrap_i64]; omega
  have hb1 : (0 : Int) ≤ (i : Int) + 1 := by omega
  have hin : i ≤ n := by omega
  have htn : ((i : Int) + 1).toNat = i + 1 := by omega
  have hb3 : (i : Int) ≤ (n : Int) := by omega
  have hF : ((w.alloc (.cells ROW 71)).drew.setCells w.heap.size (i * 2) cx).drew.heap = ((w.drew.alloc (.cells ROW 71)).setCells w.heap.size (i * 2) cx).heap := rfl
  have hX1 := hcpA ((w.alloc (.cells ROW 71)).drew) rfl
  have hX2 := hcpB _ hF
  clear hcell hkk hik hold hROW hG hNh hOh hcpA hcpB hh1 hc1 ht1 hF
  go_enter Try.func57, Try.ntmps57
  go_wp2_with (first
    | ((with_reducible refine gate_builtin (b := .append) (xs := #[.tmp 34, .tmp 39]) rfl ?_); at_builtin; refine Lib.wpList_append_run _ rfl _ _ _ _ rfl _ _ rfl rfl _ _ (hrz _) ?_)
    | ((with_reducible refine gate_builtin (b := .copy) (xs := #[.tmp 43, .tmp 44]) rfl ?_); at_builtin; refine Kd.wpList_copy_run _ rfl _ _ 22 22 rfl _ _ rfl rfl (hX1 _ _) ?_))
  go_region_law (refine Kd.step_copy_run rfl _ _ 22 22 rfl _ _ (by simp [Act.eval, Act.put]) (by simp [Act.eval, Act.put]) (hX2 _ _ _) ?_)
  go_wp2
  go_ret
  exact ⟨G, ROW, hGn, hG63, hRl, hRt, rfl, rfl⟩
set_option maxHeartbeats 2000000 in
/-- slices.Insert of one element into a row of the call's own. -/
theorem api_Binding_57.ins (B gv i : Nat) (v : Value) (xs : List S71) (x : S71) (W : World) (hi : i ≤ xs.length) (hgv : W.heap[gv]? = some (.cells (api_Binding_57.ins_cells x).toArray 71 (0, 0))) (HO : Kd.R k71 71 W B (fun z => z ≠ gv) v xs) (hB : B ≤ W.heap.size) (hbig : (xs.length + 1) * 32 ≤ 140737488355328) :
    Calls Try.prog 57 #[v, .int .i64 (i : Int), .slice (some ⟨gv, 0, none⟩) 1 1] W fun e w' => ∃ v', e = .returned v' ∧ Kd.R k71 71 w' B (fun _ => True) v' (xs.take i ++ [x] ++ xs.drop i) ∧ Below B W w' := by
  by_cases hie : i = xs.length
  · subst hie
    rw [List.take_length, List.drop_length, List.append_nil]
    exact api_Binding_57.ins_end B gv v xs x W hgv HO hB hbig
  obtain ⟨hok, inner, hown, hr⟩ := HO
  have hil : inner.length = xs.length * 2 := hr.1
  have h1c : ∀ u ∈ inner, u.oneCell' = true := by
    intro u hu
    obtain ⟨q, hq, rfl⟩ := List.mem_iff_getElem.1 hu
    have hc := hr.2 (q / 2) _ (List.getElem?_eq_getElem (by omega))
    refine k71.K_one (k71.K_of_M hc) _ ?_
    rw [List.mem_iff_getElem?]
    refine ⟨q % 2, ?_⟩
    show ((inner.drop (q / 2 * 2)).take 2)[q % 2]? = _
    rw [List.getElem?_take, if_pos (by omega), List.getElem?_drop, Nat.mul_comm, Nat.div_add_mod, List.getElem?_eq_getElem hq]
  have h1v : ∀ u ∈ api_Binding_57.ins_cells x, u.oneCell' = true := fun u hu => k71.K_one (k71_mk W x) u hu
  have hrx : Reps (k71.M W B (fun k => k ≠ gv ∧ some k ≠ v.ownBlock)) k71.sz (xs.take i ++ [x] ++ xs.drop i) (inner.take (i * 2) ++ api_Binding_57.ins_cells x ++ inner.drop (i * 2)) := Kd.reps_put hr (k71_mkM _ _ _ _) rfl hi
  have hxl : (xs.take i ++ [x] ++ xs.drop i).length = xs.length + 1 := by simp; omega
  rcases hown.2 with ⟨rfl, hn0⟩ | ⟨g, cap, cur, rfl, hgB, hh, hnc, hcm, hcs, htake⟩
  · omega
  have hgne : gv ≠ g := fun e => hok g (by simp [Value.ownBlock]) e.symm
  have hcs' : cur.size = cap * 2 := hcs
  have htake' : cur.toList.take (xs.length * 2) = inner := htake
  have hlo : g < W.heap.size := (Array.getElem?_eq_some_iff.1 hh).1
  by_cases hroom : xs.length + 1 ≤ cap
  · refine (api_Binding_57.ins_room g xs.length cap i gv inner (api_Binding_57.ins_cells x) cur W (by omega) hroom hcm hgne hh hcs' htake' hgv rfl h1c h1v).mono ?_
    rintro e w' ⟨rfl, rfl⟩
    obtain ⟨cur1, hh1, hc1, ht1⟩ := setCells_row (inner.drop (i * 2)) ((i + 1) * 2) W.drew cur hh (by rw [List.length_drop]; omega)
    obtain ⟨cur2, hh2, hc2, ht2⟩ := setCells_row (api_Binding_57.ins_cells x) (i * 2) (W.drew.setCells g ((i + 1) * 2) (inner.drop (i * 2))) cur1 hh1 (by show i * 2 + 2 ≤ _; omega)
    refine ⟨_, rfl, ?_, ?_⟩
    · rw [← hxl]
      refine Kd.R_of_row api_Binding_57.ins_flat hrx hh2 hgB (by rw [hxl]; exact hroom) hcm (by show cur2.size = cap * 2; omega) ?_ trivial rfl
      rw [hxl, ht2, ht1]
      show List.take ((xs.length + 1) * 2) _ = _
      have hx2 : (api_Binding_57.ins_cells x).length = 2 := rfl
      have e1 : (cur.toList.take ((i + 1) * 2) ++ inner.drop (i * 2) ++ cur.toList.drop ((i + 1) * 2 + (inner.drop (i * 2)).length)).take (i * 2) = inner.take (i * 2) := by
        rw [List.append_assoc, List.take_append_of_le_length (by rw [List.length_take, Array.length_toList]; omega), List.take_take, ← htake', List.take_take]
        congr 1
        omega
      have e2 : ((cur.toList.take ((i + 1) * 2) ++ inner.drop (i * 2) ++ cur.toList.drop ((i + 1) * 2 + (inner.drop (i * 2)).length)).drop (i * 2 + (api_Binding_57.ins_cells x).length)).take ((xs.length + 1) * 2 - (i * 2 + 2)) = inner.drop (i * 2) := by
        have hl1 : (cur.toList.take ((i + 1) * 2)).length = i * 2 + 2 := by rw [List.length_take, Array.length_toList]; omega
        rw [hx2, List.append_assoc, ← hl1, List.drop_left, List.take_append_of_le_length (by rw [List.length_drop]; omega), List.take_of_length_le (by rw [List.length_drop]; omega)]
      rw [e1]
      rw [List.take_append, List.take_of_length_le (by rw [List.length_append, List.length_take]; omega)]
      congr 1
      rw [List.length_append, List.length_take, hx2, show min (i * 2) inner.length = i * 2 by omega]
      exact e2
    · exact Kd.below_setCells (Kd.below_setCells (below_drew1 (Below.refl _ _)) hgB) hgB
  · refine (api_Binding_57.ins_grow g xs.length cap i gv inner (api_Binding_57.ins_cells x) cur W (by omega) hnc (by omega) hbig hh hcs' htake' hgv rfl h1c h1v).mono ?_
    rintro e w' ⟨G, ROW, hGn, hG63, hRl, hRt, rfl, rfl⟩
    have hN : ((W.alloc (.cells ROW 71)).drew).heap[W.heap.size]? = some (.cells ROW 71 (0, 0)) := blk_new W _
    obtain ⟨cur1, hh1, hc1, ht1⟩ := setCells_row (api_Binding_57.ins_cells x) (i * 2) ((W.alloc (.cells ROW 71)).drew) ROW hN (by show i * 2 + 2 ≤ _; omega)
    obtain ⟨cur2, hh2, hc2, ht2⟩ := setCells_row (inner.drop (i * 2)) ((i + 1) * 2) (((W.alloc (.cells ROW 71)).drew.setCells W.heap.size (i * 2) (api_Binding_57.ins_cells x)).drew) cur1 hh1 (by rw [List.length_drop]; omega)
    refine ⟨_, rfl, ?_, ?_⟩
    · rw [← hxl]
      refine Kd.R_of_row api_Binding_57.ins_flat hrx hh2 hB (by rw [hxl]; exact hGn) hG63 (by show cur2.size = G * 2; omega) ?_ trivial rfl
      rw [hxl, ht2, ht1]
      show List.take ((xs.length + 1) * 2) _ = _
      have hx2 : (api_Binding_57.ins_cells x).length = 2 := rfl
      have e1 : (ROW.toList.take (i * 2) ++ api_Binding_57.ins_cells x ++ ROW.toList.drop (i * 2 + (api_Binding_57.ins_cells x).length)).take ((i + 1) * 2) = inner.take (i * 2) ++ api_Binding_57.ins_cells x := by
        rw [List.take_append_of_le_length (by rw [List.length_append, List.length_take, Array.length_toList, hx2]; omega), List.take_of_length_le (by rw [List.length_append, List.length_take, hx2]; omega), hRt]
      rw [e1, List.take_append_of_le_length (by rw [List.length_append, List.length_append, List.length_take, List.length_drop, hx2]; omega), List.take_of_length_le (by rw [List.length_append, List.length_append, List.length_take, List.length_drop, hx2]; omega)]
    · exact Kd.below_setCells (below_drew1 (Kd.below_setCells (below_drew1 ((Below.refl B W).alloc hB _)) hB)) hB


/-! ### api_Binding_38: function 38 -/
def api_Binding_38.put (l : List S71) (n : ByteArray) (v : ByteArray) : List S71 := if api_Binding_40.hit l n = true then l.set (api_Binding_40.find_i l n) ⟨n, v⟩ else l.take (api_Binding_40.find_i l n) ++ [⟨n, v⟩] ++ l.drop (api_Binding_40.find_i l n)
def api_Binding_38.f (l0 : List S71) (a1_0 : ByteArray) (a1_1 : ByteArray) : Option (List S71) := if l0.length < 1099511627776 then some (api_Binding_38.put l0 a1_0 a1_1) else none
theorem api_Binding_38.name_any (n : ByteArray) (a1_1 : ByteArray) (w : World) : Calls Try.prog 39 #[.agg #[.string n, .string a1_1]] w fun e w' => e = .returned (.string n) ∧ Below w.heap.size w w' := by
  go_enter Try.func39, Try.ntmps39
  go_wp2
  go_ret
  exact ⟨rfl, below_alloc (Below.refl _ _) _⟩
set_option maxHeartbeats 4000000 in
theorem api_Binding_38.calls (A0 : Option Addr) (c0 : Nat) (l0 : List S71) (a1_0 : ByteArray) (a1_1 : ByteArray) (r : List S71) (w : World) (hr0 : Kd.C k71 w A0 l0.length l0) (hc0 : l0.length ≤ c0) (h : api_Binding_38.f l0 a1_0 a1_1 = some r) :
    Calls Try.prog 38 #[.slice A0 l0.length c0, .agg #[.string a1_0, .string a1_1], .func (.func 39) #[] #[]] w fun e w' => ∃ v0_, e = .returned v0_ ∧ Kd.R k71 71 w' w.heap.size (fun _ => True) v0_ r ∧ Below w.heap.size w w' := by
  unfold api_Binding_38.f at h
  by_cases hl : l0.length < 1099511627776
  · rw [if_pos hl] at h
    injection h with h
    subst h
    have HR0 := Aside0.mk hr0
    have HC0 := Aside0.mk hc0
    have HF : Aside0 (api_Binding_40.f l0 a1_0 = some ((api_Binding_40.find_i l0 a1_0 : Int), api_Binding_40.hit l0 a1_0)) := ⟨by rw [api_Binding_40.f, if_pos (by omega)]⟩
    have HCL : Aside0 (api_Binding_53.f l0 = some l0) := ⟨by
      rw [api_Binding_53.f, Option.bind_some, if_pos (by simp; omega)]
      rfl⟩
    have hile := api_Binding_40.find_i_le l0 a1_0
    have hlt : api_Binding_40.hit l0 a1_0 = true → api_Binding_40.find_i l0 a1_0 < l0.length := fun e => by
      unfold api_Binding_40.hit at e
      rw [Bool.and_eq_true, decide_eq_true_eq] at e
      exact e.1
    unfold api_Binding_38.put
    generalize api_Binding_40.find_i l0 a1_0 = i at *
    generalize api_Binding_40.hit l0 a1_0 = hit at *
    have HLB : Aside0 ((l0.length + 1) * 32 ≤ 140737488355328) := ⟨by omega⟩
    have HI := Aside0.mk hile
    clear hr0 hc0 hl
    cases hit with
    | true =>
      rw [if_pos rfl]
      have hil := hlt rfl
      have HIL := Aside0.mk hil
      have hi1 : (0 ≤ (i : Int)) = True := eq_true (by omega)
      have hi2 : ((i : Int) < (l0.length : Int)) = True := eq_true (by omega)
      have hi3 : (i < l0.length) = True := eq_true hil
      clear hlt hile hil
      go_enter Try.func38, Try.ntmps38
      go_wp2_with (first
        | (go_at_call 39; go_must ((with_reducible refine (api_Binding_38.name_any a1_0 a1_1 _).mono ?_); rintro e w1 ⟨rfl, hb1⟩; have HB1 := Aside0.mk (below_then (below_alloc (Below.refl _ _) _) (by simp) hb1); have HX1 := Aside0.mk ((hb1.block _ (by simp)).trans (blk_new w _)); clear hb1))
        | (go_at_call 40; go_must ((with_reducible refine (api_Binding_40.calls A0 c0 l0 a1_0 _ _ _ ?s1 ?s2 HF.out).mono ?_); (case s1 => exact Kd.C_below HR0.out HB1.out); (case s2 => exact HC0.out); rintro e w2 ⟨rfl, hb2⟩; have HX2 := Aside0.mk ((hb2.block _ (Array.getElem?_eq_some_iff.1 HX1.out).1).trans HX1.out); have HB2 := Aside0.mk (below_step HB1.out hb2); clear hb2))
        | (go_at_call 53; go_must ((with_reducible refine (api_Binding_53.calls A0 c0 l0 l0 _ ?s1 ?s2 HCL.out).mono ?_); (case s1 => exact Kd.C_below HR0.out HB2.out); (case s2 => exact HC0.out); rintro e w3 ⟨v0, rfl, ho, hb3⟩; obtain ⟨g, cap, hv, hcap⟩ := Kd.own_some ho (by have := HIL.out; omega); subst hv; have HX3 := Aside0.mk ((hb3.block _ (Array.getElem?_eq_some_iff.1 HX2.out).1).trans HX2.out); have HO3 := Aside0.mk (Kd.R_lower ho (below_size HB2.out)); have HB3 := Aside0.mk (below_step HB2.out hb3); have hcz0 := blk_cell HX3.out 0; have hcz1 := blk_cell HX3.out 1; simp only [List.getElem?_toArray, List.getElem?_cons_zero, List.getElem?_cons_succ] at hcz0 hcz1; clear hb3 ho hcap))
        | ((with_reducible refine gate_ (.store 71 (.tmp 24) (.tmp 23)) rfl ?_); go_must (obtain ⟨cc, hccl, hcc⟩ := Kd.R_cellsAt HO3.out i HIL.out; refine Kd.R_store k71 (w0 := w) w.heap.size rfl rfl 71 (.tmp 24) (.tmp 23) rfl 71 (i : Int) 0 l0 ⟨a1_0, a1_1⟩ (.agg #[.string a1_0, .string a1_1]) [.string a1_0, .string a1_1] cc (fun _ => True) (fun _ => False) rfl ?t1 rfl rfl (by kernel_rfl) ?t2 HO3.out (by omega) ?t3 hccl ?t4 (Nat.le_refl 2) ?t5 (fun _ hk => hk.elim) HB3.out ?_; (case t1 => show i * 2 = ((i : Int)).toNat * 2 + 0; omega); (case t2 => simp [Value.oneCell']); (case t3 => have := HIL.out; omega); (case t4 => intro j u hj; have := hcc j u hj; simpa using this); (case t5 => rw [List.take_zero, List.nil_append, List.drop_of_length_le (by rw [hccl]; exact Nat.le_refl 2), List.append_nil]; exact k71_mkM _ _ _ _); intro w4 ho4 hb4 hg4; have HO4 := Aside0.mk ho4; have HB4 := Aside0.mk hb4; clear ho4 hb4 hg4)))
      go_ret
      exact ⟨_, rfl, by simpa using HO4.out, HB4.out⟩
    | false =>
      rw [if_neg (by simp)]
      clear hlt hile
      go_enter Try.func38, Try.ntmps38
      go_wp2_with (first
        | (go_at_call 39; go_must ((with_reducible refine (api_Binding_38.name_any a1_0 a1_1 _).mono ?_); rintro e w1 ⟨rfl, hb1⟩; have HB1 := Aside0.mk (below_then (below_alloc (Below.refl _ _) _) (by simp) hb1); have HX1 := Aside0.mk ((hb1.block _ (by simp)).trans (blk_new w _)); clear hb1))
        | (go_at_call 40; go_must ((with_reducible refine (api_Binding_40.calls A0 c0 l0 a1_0 _ _ _ ?s1 ?s2 HF.out).mono ?_); (case s1 => exact Kd.C_below HR0.out HB1.out); (case s2 => exact HC0.out); rintro e w2 ⟨rfl, hb2⟩; have HX2 := Aside0.mk ((hb2.block _ (Array.getElem?_eq_some_iff.1 HX1.out).1).trans HX1.out); have HB2 := Aside0.mk (below_step HB1.out hb2); clear hb2))
        | (go_at_call 53; go_must ((with_reducible refine (api_Binding_53.calls A0 c0 l0 l0 _ ?s1 ?s2 HCL.out).mono ?_); (case s1 => exact Kd.C_below HR0.out HB2.out); (case s2 => exact HC0.out); rintro e w3 ⟨v0, rfl, ho, hb3⟩; have HX3 := Aside0.mk ((hb3.block _ (Array.getElem?_eq_some_iff.1 HX2.out).1).trans HX2.out); have HO3 := Aside0.mk (Kd.R_alloc (Kd.R_mono (Kd.R_bound (Kd.R_lower ho (below_size HB2.out))) (fun k hk => show k ≠ w3.heap.size by have := hk.2.2.1; omega)) (.cells (api_Binding_57.ins_cells ⟨a1_0, a1_1⟩).toArray 71 (0, 0))); have HB3 := Aside0.mk (below_step HB2.out hb3); have hcz0 := blk_cell HX3.out 0; have hcz1 := blk_cell HX3.out 1; simp only [List.getElem?_toArray, List.getElem?_cons_zero, List.getElem?_cons_succ] at hcz0 hcz1; clear hb3 ho))
        | (go_at_call 57; go_must ((with_reducible refine (api_Binding_57.ins w.heap.size w3.heap.size i v0 l0 ⟨a1_0, a1_1⟩ _ ?s1 ?s2 ?s3 ?s4 ?s5).mono ?_); (case s1 => exact HI.out); (case s2 => exact blk_new w3 _); (case s3 => exact HO3.out); (case s4 => have := HB3.out.size; simp; omega); (case s5 => exact HLB.out); rintro e w5 ⟨v5, rfl, ho5, hb5⟩; have HO5 := Aside0.mk ho5; have HB5 := Aside0.mk (((HB3.out).alloc (HB3.out.size) _).trans hb5); clear ho5 hb5)))
      go_ret
      exact ⟨_, rfl, HO5.out, HB5.out⟩
  · rw [if_neg hl] at h
    cases h


/-! ### env_bound: function 39 -/
def env_bound.f (a0_0 : ByteArray) (a0_1 : ByteArray) : Option (ByteArray) := some a0_0
set_option maxHeartbeats 8000000 in
set_option maxRecDepth 100000 in
theorem env_bound.calls (a0_0 : ByteArray) (a0_1 : ByteArray) (r : ByteArray) (w : World) (h : env_bound.f a0_0 a0_1 = some r) :
    Calls Try.prog 39 #[.agg #[.string a0_0, .string a0_1]] w fun e w' => e = .returned (.string r) ∧ Below w.heap.size w w' := by
  have hu71 := Try.underlying71
  have HB := Aside0.mk (Below.refl w.heap.size w)
  have H : (some a0_0) = some r := h
  clear h
  obtain rfl := Option.some.inj H
  go_enter Try.func39, Try.ntmps39
  go_wp2_with (first | ((with_reducible refine gate_dst (N := 1) rfl ?_); refine box_event ?hg (N := 1) ?hd (cs := #[.string a0_0, .string a0_1]) (t := 71) ?hr ?_; (case hd => rfl); (case hg => rfl); (case hr => first | (go_simp; done) | (go_simp; rfl)); intro gb145 hg w2 hbox hb; have n0_ := Aside0.mk (below_step (by repeat (first | (with_reducible first | exact HB.out | apply below_alloc | apply pw_below_drewN | apply below_drew1) | exact HB.out)) hb); have n1_ := Aside0.mk (hbox); have n2_ := Aside0.mk ((by rw [hg]; exact (below_size (by repeat (first | (with_reducible first | exact HB.out | apply below_alloc | apply pw_below_drewN | apply below_drew1) | exact HB.out))) : w.heap.size ≤ gb145)); have n3_ := Aside0.mk ((by rw [hg]; exact (below_size (by repeat (first | (with_reducible first | exact HB.out | apply below_alloc | apply pw_below_drewN | apply below_drew1) | exact HB.out))) : w.heap.size ≤ gb145)); clear HB; have HB := n0_; have BK145 := n1_; have GW145 := n2_; have GE145 := n3_; clear n0_ n1_ n2_ n3_; clear hb hbox hg; have hcz3_0 : w2.cell? ⟨gb145, 0, none⟩ = some (.string a0_0) := (blk_cell BK145.out 0).trans rfl; have hcz3_1 : w2.cell? ⟨gb145, 1, none⟩ = some (.string a0_1) := (blk_cell BK145.out 1).trans rfl; have hfz3_0 := blk_frozen BK145.out 0; have hfz3_1 := blk_frozen BK145.out 1))
  go_ret
  exact ⟨by first | rfl | (simp [errW_none, errW_some] <;> rfl) | (simp [*, errW_none, errW_some] <;> rfl), by repeat (first | (with_reducible first | exact HB.out | apply below_alloc | apply pw_below_drewN | apply below_drew1 | refine below_set ?_ GE145.out) | exact HB.out)⟩

/-! ### env_Set: function 10 -/
def env_Set.f (l0_0 : List (S71)) (l0_1 : List ByteArray) (l0_2 : List (S67)) (a1 : ByteArray) (a2 : ByteArray) : Option ((List (S71)) × List ByteArray × (List (S67))) := (env_copied.f l0_0 l0_1 l0_2).bind fun bt148 => ((api_Binding_38.f bt148.1 a1 a2).bind fun t157 => (some (t157, bt148.2.1, bt148.2.2)))
set_option maxHeartbeats 8000000 in
set_option maxRecDepth 100000 in
theorem env_Set.calls (A0_0 : Option Addr) (c0_0 : Nat) (l0_0 : List (S71)) (A0_1 : Option Addr) (c0_1 : Nat) (l0_1 : List ByteArray) (A0_2 : Option Addr) (c0_2 : Nat) (l0_2 : List (S67)) (a1 : ByteArray) (a2 : ByteArray) (r1 : List (S71)) (r2 : List ByteArray) (r3 : List (S67)) (w : World) (hr0_0 : Kd.C k71 w A0_0 l0_0.length l0_0) (hc0_0 : l0_0.length ≤ c0_0) (hr0_1 : Kd.C Kd.string w A0_1 l0_1.length l0_1) (hc0_1 : l0_1.length ≤ c0_1) (hr0_2 : Kd.C k67 w A0_2 l0_2.length l0_2) (hc0_2 : l0_2.length ≤ c0_2) (h : env_Set.f l0_0 l0_1 l0_2 a1 a2 = some (r1, r2, r3)) :
    Calls Try.prog 10 #[.agg #[.slice A0_0 l0_0.length c0_0, .slice A0_1 l0_1.length c0_1, .slice A0_2 l0_2.length c0_2], .string a1, .string a2] w fun e w' => ∃ v0_ v1_ v2_ : Value, e = .returned (.agg #[v0_, v1_, v2_]) ∧ Kd.R k71 71 w' w.heap.size (fun _ => True) v0_ r1 ∧ Kd.R Kd.string 9 w' w.heap.size (fun _ => True) v1_ r2 ∧ Kd.R k67 67 w' w.heap.size (fun _ => True) v2_ r3 ∧ Below w.heap.size w w' := by
  have hu26 := Try.underlying26
  have hu71 := Try.underlying71
  have HR0_0 := Aside0.mk hr0_0
  have HC0_0 := Aside0.mk hc0_0
  clear hr0_0 hc0_0
  have HR0_1 := Aside0.mk hr0_1
  have HC0_1 := Aside0.mk hc0_1
  clear hr0_1 hc0_1
  have HR0_2 := Aside0.mk hr0_2
  have HC0_2 := Aside0.mk hc0_2
  clear hr0_2 hc0_2
  have HB := Aside0.mk (Below.refl w.heap.size w)
  have H : ((env_copied.f l0_0 l0_1 l0_2).bind fun bt148 => ((api_Binding_38.f bt148.1 a1 a2).bind fun t157 => (some (t157, bt148.2.1, bt148.2.2)))) = some (r1, r2, r3) := h
  clear h
  replace H := Option.bind_eq_some_iff.mp H
  obtain ⟨⟨t148, t151, t154⟩, A40, H⟩ := H
  replace H : ((api_Binding_38.f t148 a1 a2).bind fun t157 => (some (t157, t151, t154))) = some (r1, r2, r3) := H
  have A4 := Aside0.mk A40
  clear A40
  replace H := Option.bind_eq_some_iff.mp H
  obtain ⟨t157, A50, H⟩ := H
  replace H : (some (t157, t151, t154)) = some (r1, r2, r3) := H
  have A5 := Aside0.mk A50
  clear A50
  simp only [Option.some.injEq, Prod.mk.injEq] at H
  obtain ⟨rfl, rfl, rfl⟩ := H
  go_enter Try.func10, Try.ntmps10
  go_wp2_with (first | ((with_reducible refine gate_dst (N := 3) rfl ?_); refine box_event ?hg (N := 3) ?hd (cs := #[.slice A0_0 l0_0.length c0_0, .slice A0_1 l0_1.length c0_1, .slice A0_2 l0_2.length c0_2]) (t := 26) ?hr ?_; (case hd => rfl); (case hg => rfl); (case hr => first | (go_simp; done) | (go_simp; rfl)); intro gb146 hg w6 hbox hb; have n0_ := Aside0.mk (below_step (by repeat (first | (with_reducible first | exact HB.out | apply below_alloc | apply pw_below_drewN | apply below_drew1) | exact HB.out)) hb); have n1_ := Aside0.mk (hbox); have n2_ := Aside0.mk ((by rw [hg]; exact (below_size (by repeat (first | (with_reducible first | exact HB.out | apply below_alloc | apply pw_below_drewN | apply below_drew1) | exact HB.out))) : w.heap.size ≤ gb146)); have n3_ := Aside0.mk ((by rw [hg]; exact (below_size (by repeat (first | (with_reducible first | exact HB.out | apply below_alloc | apply pw_below_drewN | apply below_drew1) | exact HB.out))) : w.heap.size ≤ gb146)); clear HB; have HB := n0_; have BK146 := n1_; have GW146 := n2_; have GE146 := n3_; clear n0_ n1_ n2_ n3_; clear hb hbox hg) | ((with_reducible refine gate_dst (N := 6) rfl ?_); refine box_event ?hg (N := 6) ?hd (cs := #[.slice none 0 0, .slice none 0 0, .slice none 0 0]) (t := 26) ?hr ?_; (case hd => rfl); (case hg => rfl); (case hr => first | (go_simp; done) | (go_simp; rfl)); intro gb147 hg w7 hbox hb; have n0_ := Aside0.mk (blk_below (g := gb146) (o := .cells #[.slice A0_0 l0_0.length c0_0, .slice A0_1 l0_1.length c0_1, .slice A0_2 l0_2.length c0_2] 26 (0, 0)) (by (with_reducible repeat (first | refine blk_drewN ?_ _ | refine blk_drew ?_ | refine blk_alloc ?_ _)); exact BK146.out) hb); have n1_ := Aside0.mk (below_step (by repeat (first | (with_reducible first | exact HB.out | apply below_alloc | apply pw_below_drewN | apply below_drew1 | refine below_set ?_ GE146.out) | exact HB.out)) hb); have n2_ := Aside0.mk (hbox); have n3_ := Aside0.mk ((by rw [hg]; exact (below_size (by repeat (first | (with_reducible first | exact HB.out | apply below_alloc | apply pw_below_drewN | apply below_drew1 | refine below_set ?_ GE146.out) | exact HB.out))) : w.heap.size ≤ gb147)); have n4_ := Aside0.mk ((by rw [hg]; exact (below_size (by repeat (first | (with_reducible first | exact HB.out | apply below_alloc | apply pw_below_drewN | apply below_drew1 | refine below_set ?_ GE146.out) | exact HB.out))) : w.heap.size ≤ gb147)); have n5_ := Aside0.mk ((by rw [hg]; exact Nat.ne_of_lt (blk_lt (g := gb146) (o := .cells #[.slice A0_0 l0_0.length c0_0, .slice A0_1 l0_1.length c0_1, .slice A0_2 l0_2.length c0_2] 26 (0, 0)) (by (with_reducible repeat (first | refine blk_drewN ?_ _ | refine blk_drew ?_ | refine blk_alloc ?_ _)); exact BK146.out)) : gb146 ≠ gb147)); have n6_ := Aside0.mk ((by rw [hg]; exact Nat.ne_of_gt (blk_lt (g := gb146) (o := .cells #[.slice A0_0 l0_0.length c0_0, .slice A0_1 l0_1.length c0_1, .slice A0_2 l0_2.length c0_2] 26 (0, 0)) (by (with_reducible repeat (first | refine blk_drewN ?_ _ | refine blk_drew ?_ | refine blk_alloc ?_ _)); exact BK146.out)) : gb147 ≠ gb146)); clear BK146; clear HB; have BK146 := n0_; have HB := n1_; have BK147 := n2_; have GW147 := n3_; have GE147 := n4_; have NB146_147 := n5_; have NB147_146 := n6_; clear n0_ n1_ n2_ n3_ n4_ n5_ n6_; clear hb hbox hg; have hnb8 := NB146_147.out; have hnc8 := NB147_146.out; have hcz9_0 : w7.cell? ⟨gb146, 0, none⟩ = some (.slice A0_0 l0_0.length c0_0) := (blk_cell BK146.out 0).trans rfl; have hcz9_1 : w7.cell? ⟨gb146, 1, none⟩ = some (.slice A0_1 l0_1.length c0_1) := (blk_cell BK146.out 1).trans rfl; have hcz9_2 : w7.cell? ⟨gb146, 2, none⟩ = some (.slice A0_2 l0_2.length c0_2) := (blk_cell BK146.out 2).trans rfl; have hfz9_0 := blk_frozen BK146.out 0; have hfz9_1 := blk_frozen BK146.out 1; have hfz9_2 := blk_frozen BK146.out 2) | ((with_reducible refine gate_callee (f := 35) rfl ?_); refine goesL_ (some 8) rfl rfl Try.func35 (by kernel_rfl) rfl #[.agg #[.slice A0_0 l0_0.length c0_0, .slice A0_1 l0_1.length c0_1, .slice A0_2 l0_2.length c0_2]] rfl (by (try simp only [List.map_toArray, List.map_cons, List.map_nil]); first | done | rfl | (simp only [List.length_drop, List.length_take]; rfl)) ?_; (with_reducible refine (env_copied.calls _ _ l0_0 _ _ l0_1 _ _ l0_2 t148 t151 t154 _ ?side1 ?side2 ?side3 ?side4 ?side5 ?side6 A4.out).mono ?_); (case side1 => repeat (first | (with_reducible exact HR0_0.out) | exact (Kd.C_below HR0_0.out HB.out) | (with_reducible refine Kd.C_alloc ?_ _) | (with_reducible refine Kd.C_drewN ?_ _) | (with_reducible refine Kd.C_drew ?_))); (case side2 => exact HC0_0.out); (case side3 => repeat (first | (with_reducible exact HR0_1.out) | exact (Kd.C_below HR0_1.out HB.out) | (with_reducible refine Kd.C_alloc ?_ _) | (with_reducible refine Kd.C_drewN ?_ _) | (with_reducible refine Kd.C_drew ?_))); (case side4 => exact HC0_1.out); (case side5 => repeat (first | (with_reducible exact HR0_2.out) | exact (Kd.C_below HR0_2.out HB.out) | (with_reducible refine Kd.C_alloc ?_ _) | (with_reducible refine Kd.C_drewN ?_ _) | (with_reducible refine Kd.C_drew ?_))); (case side6 => exact HC0_2.out); rintro e w10 ⟨v149, v152, v155, rfl, ho0, ho1, ho2, hb⟩; refine ⟨_, rfl, ?_⟩; have n0_ := Aside0.mk (Kd.R_lower ho0 (below_size (by repeat (first | (with_reducible first | exact HB.out | apply below_alloc | apply pw_below_drewN | apply below_drew1 | refine below_set ?_ GE146.out | refine below_set ?_ GE147.out) | exact HB.out)))); have n1_ := Aside0.mk (Kd.R_lower ho1 (below_size (by repeat (first | (with_reducible first | exact HB.out | apply below_alloc | apply pw_below_drewN | apply below_drew1 | refine below_set ?_ GE146.out | refine below_set ?_ GE147.out) | exact HB.out)))); have n2_ := Aside0.mk (Kd.R_lower ho2 (below_size (by repeat (first | (with_reducible first | exact HB.out | apply below_alloc | apply pw_below_drewN | apply below_drew1 | refine below_set ?_ GE146.out | refine below_set ?_ GE147.out) | exact HB.out)))); have n3_ := Aside0.mk (blk_below (g := gb146) (o := .cells #[.slice A0_0 l0_0.length c0_0, .slice A0_1 l0_1.length c0_1, .slice A0_2 l0_2.length c0_2] 26 (0, 0)) (by (with_reducible repeat (first | refine blk_drewN ?_ _ | refine blk_drew ?_ | refine blk_alloc ?_ _)); exact BK146.out) hb); have n4_ := Aside0.mk (blk_below (g := gb147) (o := .cells #[.slice none 0 0, .slice none 0 0, .slice none 0 0] 26 (0, 0)) (by (with_reducible repeat (first | refine blk_drewN ?_ _ | refine blk_drew ?_ | refine blk_alloc ?_ _)); exact BK147.out) hb); have n5_ := Aside0.mk (below_step (by repeat (first | (with_reducible first | exact HB.out | apply below_alloc | apply pw_below_drewN | apply below_drew1 | refine below_set ?_ GE146.out | refine below_set ?_ GE147.out) | exact HB.out)) hb); clear BK146; clear BK147; clear HB; have HO150 := n0_; have HO153 := n1_; have HO156 := n2_; have BK146 := n3_; have BK147 := n4_; have HB := n5_; clear n0_ n1_ n2_ n3_ n4_ n5_; (try clear hb); (try clear hb2); (try clear hk); (try clear hi); (try clear ho0); (try clear ho1); (try clear ho2); obtain ⟨Ao11, co11, eo11⟩ := Kd.R_slice HO150.out; subst eo11; have hcz12_0 : w10.cell? ⟨gb146, 0, none⟩ = some (.slice A0_0 l0_0.length c0_0) := (blk_cell BK146.out 0).trans rfl; have hcz12_1 : w10.cell? ⟨gb146, 1, none⟩ = some (.slice A0_1 l0_1.length c0_1) := (blk_cell BK146.out 1).trans rfl; have hcz12_2 : w10.cell? ⟨gb146, 2, none⟩ = some (.slice A0_2 l0_2.length c0_2) := (blk_cell BK146.out 2).trans rfl; have hfz12_0 := blk_frozen BK146.out 0; have hfz12_1 := blk_frozen BK146.out 1; have hfz12_2 := blk_frozen BK146.out 2; obtain ⟨Ao13, co13, eo13⟩ := Kd.R_slice HO153.out; subst eo13; obtain ⟨Ao14, co14, eo14⟩ := Kd.R_slice HO156.out; subst eo14) | ((with_reducible refine gate_callee (f := 38) rfl ?_); refine goesL_ (some 14) rfl rfl Try.func38 (by kernel_rfl) rfl #[.slice Ao11 t148.length co11, .agg #[.string a1, .string a2], .func (.func 39) #[] #[]] rfl (by (try simp only [List.map_toArray, List.map_cons, List.map_nil]); first | done | rfl | (simp only [List.length_drop, List.length_take]; rfl)) ?_; (with_reducible refine (api_Binding_38.calls _ _ t148 a1 a2  t157 _ ?side1 ?side2 A5.out).mono ?_); (case side1 => refine (Kd.R_reads' (e := 71) (base := w.heap.size) (ok := fun k_ => True) (n := t148.length) (c := co11) ?_).2.2; exact (by (with_reducible repeat (first | apply Kd.R_alloc | apply Kd.R_drewN | apply Kd.R_drew)); exact (Kd.R_mono (Kd.R_far (p := ⟨gb146, 2, none⟩) (Kd.R_far (p := ⟨gb146, 1, none⟩) (Kd.R_far (p := ⟨gb146, 0, none⟩) (Kd.R_types HO150.out BK146.out (by decide)) (fun _ hk => hk.2) (.slice Ao11 t148.length co11)) (fun _ hk => hk.2) (.slice Ao13 t151.length co13)) (fun _ hk => hk.2) (.slice Ao14 t154.length co14)) (fun _ h_ => h_.1)))); (case side2 => exact (Kd.R_reads' HO150.out).2.1); rintro e w15 ⟨v158, rfl, ho0, hb⟩; refine ⟨_, rfl, ?_⟩; have n0_ := Aside0.mk (Kd.R_elder' (by (with_reducible repeat (first | apply Kd.R_alloc | apply Kd.R_drewN | apply Kd.R_drew)); exact (Kd.R_mono (Kd.R_far (p := ⟨gb146, 2, none⟩) (Kd.R_far (p := ⟨gb146, 1, none⟩) (Kd.R_far (p := ⟨gb146, 0, none⟩) (Kd.R_types HO150.out BK146.out (by decide)) (fun _ hk => hk.2) (.slice Ao11 t148.length co11)) (fun _ hk => hk.2) (.slice Ao13 t151.length co13)) (fun _ hk => hk.2) (.slice Ao14 t154.length co14)) (fun _ h_ => h_.1))) (Kd.R_base ho0) hb); have n1_ := Aside0.mk (Kd.R_below (by (with_reducible repeat (first | apply Kd.R_alloc | apply Kd.R_drewN | apply Kd.R_drew)); exact (Kd.R_mono (Kd.R_far (p := ⟨gb146, 2, none⟩) (Kd.R_far (p := ⟨gb146, 1, none⟩) (Kd.R_far (p := ⟨gb146, 0, none⟩) (Kd.R_types HO153.out BK146.out (by decide)) (fun _ hk => hk.2) (.slice Ao11 t148.length co11)) (fun _ hk => hk.2) (.slice Ao13 t151.length co13)) (fun _ hk => hk.2) (.slice Ao14 t154.length co14)) (fun _ h_ => h_.1))) hb); have n2_ := Aside0.mk (Kd.R_below (by (with_reducible repeat (first | apply Kd.R_alloc | apply Kd.R_drewN | apply Kd.R_drew)); exact (Kd.R_mono (Kd.R_far (p := ⟨gb146, 2, none⟩) (Kd.R_far (p := ⟨gb146, 1, none⟩) (Kd.R_far (p := ⟨gb146, 0, none⟩) (Kd.R_types HO156.out BK146.out (by decide)) (fun _ hk => hk.2) (.slice Ao11 t148.length co11)) (fun _ hk => hk.2) (.slice Ao13 t151.length co13)) (fun _ hk => hk.2) (.slice Ao14 t154.length co14)) (fun _ h_ => h_.1))) hb); have n3_ := Aside0.mk (Kd.R_lower (Kd.R_new' ho0 (Kd.R_lt (by (with_reducible repeat (first | apply Kd.R_alloc | apply Kd.R_drewN | apply Kd.R_drew)); exact (Kd.R_mono (Kd.R_far (p := ⟨gb146, 2, none⟩) (Kd.R_far (p := ⟨gb146, 1, none⟩) (Kd.R_far (p := ⟨gb146, 0, none⟩) (Kd.R_types HO150.out BK146.out (by decide)) (fun _ hk => hk.2) (.slice Ao11 t148.length co11)) (fun _ hk => hk.2) (.slice Ao13 t151.length co13)) (fun _ hk => hk.2) (.slice Ao14 t154.length co14)) (fun _ h_ => h_.1))))) (below_size (by repeat (first | (with_reducible first | exact HB.out | apply below_alloc | apply pw_below_drewN | apply below_drew1 | refine below_set ?_ GE146.out | refine below_set ?_ GE147.out) | exact HB.out)))); have n4_ := Aside0.mk (blk_below (g := gb146) (o := .cells #[.slice Ao11 t148.length co11, .slice Ao13 t151.length co13, .slice Ao14 t154.length co14] 26 (0, 0)) (by (with_reducible repeat (first | refine blk_drewN ?_ _ | refine blk_drew ?_ | refine blk_alloc ?_ _)); refine blk_put (cs := #[.slice Ao11 t148.length co11, .slice Ao13 t151.length co13, .slice A0_2 l0_2.length c0_2]) ?_ 2 _ rfl; (with_reducible repeat (first | refine blk_drewN ?_ _ | refine blk_drew ?_ | refine blk_alloc ?_ _)); refine blk_put (cs := #[.slice Ao11 t148.length co11, .slice A0_1 l0_1.length c0_1, .slice A0_2 l0_2.length c0_2]) ?_ 1 _ rfl; (with_reducible repeat (first | refine blk_drewN ?_ _ | refine blk_drew ?_ | refine blk_alloc ?_ _)); refine blk_put (cs := #[.slice A0_0 l0_0.length c0_0, .slice A0_1 l0_1.length c0_1, .slice A0_2 l0_2.length c0_2]) ?_ 0 _ rfl; (with_reducible repeat (first | refine blk_drewN ?_ _ | refine blk_drew ?_ | refine blk_alloc ?_ _)); exact BK146.out) hb); have n5_ := Aside0.mk (blk_below (g := gb147) (o := .cells #[.slice none 0 0, .slice none 0 0, .slice none 0 0] 26 (0, 0)) (by (with_reducible repeat (first | refine blk_drewN ?_ _ | refine blk_drew ?_ | refine blk_alloc ?_ _)); refine blk_far ?_ NB147_146.out _; (with_reducible repeat (first | refine blk_drewN ?_ _ | refine blk_drew ?_ | refine blk_alloc ?_ _)); refine blk_far ?_ NB147_146.out _; (with_reducible repeat (first | refine blk_drewN ?_ _ | refine blk_drew ?_ | refine blk_alloc ?_ _)); refine blk_far ?_ NB147_146.out _; (with_reducible repeat (first | refine blk_drewN ?_ _ | refine blk_drew ?_ | refine blk_alloc ?_ _)); exact BK147.out) hb); have n6_ := Aside0.mk (below_step (by repeat (first | (with_reducible first | exact HB.out | apply below_alloc | apply pw_below_drewN | apply below_drew1 | refine below_set ?_ GE146.out | refine below_set ?_ GE147.out) | exact HB.out)) hb); clear HO150; clear HO153; clear HO156; clear BK146; clear BK147; clear HB; have HO150 := n0_; have HO153 := n1_; have HO156 := n2_; have HO159 := n3_; have BK146 := n4_; have BK147 := n5_; have HB := n6_; clear n0_ n1_ n2_ n3_ n4_ n5_ n6_; (try clear hb); (try clear hb2); (try clear hk); (try clear hi); (try clear ho0); obtain ⟨Ao16, co16, eo16⟩ := Kd.R_slice HO159.out; subst eo16; have hcz17_0 : w15.cell? ⟨gb146, 0, none⟩ = some (.slice Ao11 t148.length co11) := (blk_cell BK146.out 0).trans rfl; have hcz17_1 : w15.cell? ⟨gb146, 1, none⟩ = some (.slice Ao13 t151.length co13) := (blk_cell BK146.out 1).trans rfl; have hcz17_2 : w15.cell? ⟨gb146, 2, none⟩ = some (.slice Ao14 t154.length co14) := (blk_cell BK146.out 2).trans rfl; have hfz17_0 := blk_frozen BK146.out 0; have hfz17_1 := blk_frozen BK146.out 1; have hfz17_2 := blk_frozen BK146.out 2; have hcz18_0 : w15.cell? ⟨gb147, 0, none⟩ = some (.slice none 0 0) := (blk_cell BK147.out 0).trans rfl; have hcz18_1 : w15.cell? ⟨gb147, 1, none⟩ = some (.slice none 0 0) := (blk_cell BK147.out 1).trans rfl; have hcz18_2 : w15.cell? ⟨gb147, 2, none⟩ = some (.slice none 0 0) := (blk_cell BK147.out 2).trans rfl; have hfz18_0 := blk_frozen BK147.out 0; have hfz18_1 := blk_frozen BK147.out 1; have hfz18_2 := blk_frozen BK147.out 2))
  refine bodyPost_ret (results_cell_row rfl _ _ gb147 26 #[.slice Ao16 t157.length co16, .slice Ao13 t151.length co13, .slice Ao14 t154.length co14] (0, 0) _ rfl (by (with_reducible repeat (first | refine blk_drewN ?_ _ | refine blk_drew ?_ | refine blk_alloc ?_ _)); refine blk_put (cs := #[.slice Ao16 t157.length co16, .slice Ao13 t151.length co13, .slice none 0 0]) ?_ 2 _ rfl; (with_reducible repeat (first | refine blk_drewN ?_ _ | refine blk_drew ?_ | refine blk_alloc ?_ _)); refine blk_put (cs := #[.slice Ao16 t157.length co16, .slice none 0 0, .slice none 0 0]) ?_ 1 _ rfl; (with_reducible repeat (first | refine blk_drewN ?_ _ | refine blk_drew ?_ | refine blk_alloc ?_ _)); refine blk_put (cs := #[.slice none 0 0, .slice none 0 0, .slice none 0 0]) ?_ 0 _ rfl; (with_reducible repeat (first | refine blk_drewN ?_ _ | refine blk_drew ?_ | refine blk_alloc ?_ _)); refine blk_far ?_ NB147_146.out _; (with_reducible repeat (first | refine blk_drewN ?_ _ | refine blk_drew ?_ | refine blk_alloc ?_ _)); exact BK147.out) Try.underlying26 rfl (by kernel_rfl)) rfl ?_
  exact ⟨_, _, _, by first | rfl | (simp [errW_none, errW_some] <;> rfl) | (simp [*, errW_none, errW_some] <;> rfl), by (with_reducible repeat (first | apply Kd.R_alloc | apply Kd.R_drewN | apply Kd.R_drew)); exact Kd.R_mono (Kd.R_far (p := ⟨gb147, 2, none⟩) (Kd.R_far (p := ⟨gb147, 1, none⟩) (Kd.R_far (p := ⟨gb147, 0, none⟩) (Kd.R_far (p := ⟨gb146, 0, none⟩) (Kd.R_types (Kd.R_types HO159.out BK146.out (by decide)) BK147.out (by decide)) (fun _ hk => hk.1.2) (.slice Ao16 t157.length co16)) (fun _ hk => hk.2) (.slice Ao16 t157.length co16)) (fun _ hk => hk.2) (.slice Ao13 t151.length co13)) (fun _ hk => hk.2) (.slice Ao14 t154.length co14)) (fun _ hk => trivial), by (with_reducible repeat (first | apply Kd.R_alloc | apply Kd.R_drewN | apply Kd.R_drew)); exact Kd.R_mono (Kd.R_far (p := ⟨gb147, 2, none⟩) (Kd.R_far (p := ⟨gb147, 1, none⟩) (Kd.R_far (p := ⟨gb147, 0, none⟩) (Kd.R_far (p := ⟨gb146, 0, none⟩) (Kd.R_types (Kd.R_types HO153.out BK146.out (by decide)) BK147.out (by decide)) (fun _ hk => hk.1.2) (.slice Ao16 t157.length co16)) (fun _ hk => hk.2) (.slice Ao16 t157.length co16)) (fun _ hk => hk.2) (.slice Ao13 t151.length co13)) (fun _ hk => hk.2) (.slice Ao14 t154.length co14)) (fun _ hk => trivial), by (with_reducible repeat (first | apply Kd.R_alloc | apply Kd.R_drewN | apply Kd.R_drew)); exact Kd.R_mono (Kd.R_far (p := ⟨gb147, 2, none⟩) (Kd.R_far (p := ⟨gb147, 1, none⟩) (Kd.R_far (p := ⟨gb147, 0, none⟩) (Kd.R_far (p := ⟨gb146, 0, none⟩) (Kd.R_types (Kd.R_types HO156.out BK146.out (by decide)) BK147.out (by decide)) (fun _ hk => hk.1.2) (.slice Ao16 t157.length co16)) (fun _ hk => hk.2) (.slice Ao16 t157.length co16)) (fun _ hk => hk.2) (.slice Ao13 t151.length co13)) (fun _ hk => hk.2) (.slice Ao14 t154.length co14)) (fun _ hk => trivial), by repeat (first | (with_reducible first | exact HB.out | apply below_alloc | apply pw_below_drewN | apply below_drew1 | refine below_set ?_ GE146.out | refine below_set ?_ GE147.out) | exact HB.out)⟩

/-! ### api_Binding_41: function 41 -/
theorem api_Binding_41.info : (Try.prog.info? 71).map (fun i => (i.zero, i.size)) = some (some (.agg #[.string ⟨#[]⟩, .string ⟨#[]⟩]), 2) := by kernel_rfl
theorem api_Binding_41.flat : Kd.Flat k71 := fun w w' base ok ok' x cs h => by
  obtain rfl := k71_openM h
  exact k71_mkM _ _ _ _
set_option maxHeartbeats 4000000 in
set_option maxRecDepth 100000 in
theorem api_Binding_41.run (g n cap i : Nat) (cs : List Value) (cur : Array Value) (w : World) (hi : i < n) (hnc : n ≤ cap) (hcm : cap ≤ 9223372036854775807) (hh : w.heap[g]? = some (.cells cur 71 (0, 0))) (hcur : cur.size = cap * 2) (htake : cur.toList.take (n * 2) = cs) (h1c : ∀ v ∈ cs, v.oneCell' = true) :
    Calls Try.prog 41 #[.slice (some ⟨g, 0, none⟩) n cap, .int .i64 (i : Int), .int .i64 ((i : Int) + 1)] w fun e w' => e = .returned (.slice (some ⟨g, 0, none⟩) (n - 1) cap) ∧ w' = (w.drew.setCells g (i * 2) (cs.drop ((i + 1) * 2))).setCells g ((n - 1) * 2) (Builtin.zeroCells (.agg #[.string ⟨#[]⟩, .string ⟨#[]⟩] : Value).cells 1).toList := by
  have hcl : cs.length = n * 2 := by rw [← htake, List.length_take, Array.length_toList]; omega
  obtain ⟨i0, hi0, hzz⟩ := Option.map_eq_some_iff.1 api_Binding_41.info
  simp only [Prod.mk.injEq] at hzz
  obtain ⟨hz0, hzs⟩ := hzz
  have hcell : ∀ j v, cs[j]? = some v → w.drew.cell? ⟨g, j, none⟩ = some v := fun j v hj => by
    rw [cell_of_row w.drew g _ cur 71 (0, 0) hh, ← Array.getElem?_toList]
    rw [← htake, List.getElem?_take] at hj
    split at hj
    · exact hj
    · cases hj
  have hnews : (cs.drop ((i + 1) * 2)).length = (n - (i + 1)) * 2 := by rw [List.length_drop, hcl]; omega
  have hnews0 : cap = i + 1 → cs.drop ((i + 1) * 2) = [] := fun h => List.eq_nil_of_length_eq_zero (by rw [hnews]; omega)
  have hsp : ∀ j, j < (cs.drop ((i + 1) * 2)).length → (w.drew.cell? ⟨g, 0 + i * 2 + j, none⟩).isSome = true ∧ w.drew.frozen? ⟨g, 0 + i * 2 + j, none⟩ = false := fun j hj => ⟨by rw [cell_of_row w.drew g _ cur 71 (0, 0) hh]; rw [hnews] at hj; simp; omega, blk_frozen (w := w.drew) hh _⟩
  have hread : ∀ j u, (cs.drop ((i + 1) * 2))[j]? = some u → w.drew.cell? ((⟨g, (i + 1) * 2, none⟩ : Addr).add j) = some u := fun j u hj => by
    rw [Kd.add_plain2]
    exact hcell _ u (by rwa [List.getElem?_drop] at hj)
  have hone : ∀ u ∈ cs.drop ((i + 1) * 2), u.oneCell' = true := fun u hu => h1c u (List.mem_of_mem_drop hu)
  obtain ⟨cur1, hh1, hc1, ht1⟩ := setCells_row (cs.drop ((i + 1) * 2)) (i * 2) w.drew cur hh (by rw [hnews]; omega)
  have hzc : (Builtin.zeroCells (.agg #[.string ⟨#[]⟩, .string ⟨#[]⟩] : Value).cells 1).size = 2 := by simp [Builtin.zeroCells, Value.cells]
  have hz1 : ∀ u ∈ (Builtin.zeroCells (.agg #[.string ⟨#[]⟩, .string ⟨#[]⟩] : Value).cells 1).toList, u.oneCell' = true := by
    intro u hu
    simp [Builtin.zeroCells, Value.cells] at hu
    obtain ⟨a, ha, rfl⟩ := hu
    obtain rfl | rfl : a = 0 ∨ a = 1 := by omega
    all_goals rfl
  have hclr : ∀ (W : World), W.heap = (w.drew.setCells g (i * 2) (cs.drop ((i + 1) * 2))).heap → ∀ ty c, (Builtin.clear_ #[22] ty #[.slice (some ⟨g, (n - 1) * 2, none⟩) 1 c]).run Try.prog W = .ok (.tuple #[]) (W.setCells g ((n - 1) * 2) (Builtin.zeroCells (.agg #[.string ⟨#[]⟩, .string ⟨#[]⟩] : Value).cells 1).toList) := fun W hW ty c =>
    Kd.run_clear_row W 22 ty 71 i0 _ Try.underlying22 hi0 hz0 g ((n - 1) * 2) 1 c (by omega) (fun j hj => by rw [cell_of_row W g _ cur1 71 (0, 0) (by rw [hW]; exact hh1)]; rw [hzc] at hj; simp; omega) (fun j hj => blk_frozen (by rw [hW]; exact hh1) _) hz1
  have hX := hclr _ rfl
  have hb1 : (0 : Int) ≤ (i : Int) + 1 := by omega
  have hb2 : (i : Int) ≤ (i : Int) + 1 := by omega
  have hb3 : (i : Int) + 1 ≤ (n : Int) := by omega
  have hb4 : (i : Int) ≤ (n : Int) := by omega
  have hb5 : (n : Int) ≤ (cap : Int) := by omega
  have hb6 : (i : Int) + 1 ≤ (cap : Int) := by omega
  have hb7 : (i : Int) ≤ (cap : Int) := by omega
  have hb8 : ¬ ((i : Int) = (i : Int) + 1) := by omega
  have hin : i ≤ n := by omega
  have hin1 : i + 1 ≤ n := by omega
  have hic : i ≤ cap := by omega
  have htn : ((i : Int) + 1).toNat = i + 1 := by omega
  have hci : ¬ (cap = i) := by omega
  have hnn : i + (n - (i + 1)) = n - 1 := by omega
  have hn1 : ((n - 1 : Nat) : Int) = (n : Int) - 1 := by omega
  have hn2 : ((n : Int) - 1) ≤ (n : Int) := by omega
  have hn3 : (0 : Int) ≤ (n : Int) - 1 := by omega
  have hn4 : ((n : Int) - 1).toNat = n - 1 := by omega
  have hn5 : n - (n - 1) = 1 := by omega
  have hn6 : ¬ (cap = n - 1) := by omega
  have hn7 : n - 1 ≤ n := by omega
  have hn8 : ((n - 1 : Nat) : Int) ≤ (n : Int) := by omega
  clear hcell hclr hh1 hc1 ht1 hzc
  by_cases hce : cap = i + 1
  · have hni : n = i + 1 := by omega
    rw [hnews0 hce] at hX ⊢
    clear hread hone hnews hsp hnews0
    subst hce
    subst hni
    have hnil : w.drew.setCells g (i * 2) [] = w.drew := by simp [World.setCells]
    rw [hnil] at hX ⊢
    simp only [Nat.add_sub_cancel] at hX ⊢
    go_enter Try.func41, Try.ntmps41
    go_wp2
    go_region_law (refine step_append_room rfl (.tmp 22) (.tmp 25) 22 rfl 71 i0 2 Try.underlying22 hi0 hzs g 0 i (i + 1) (by simp [Act.eval, Act.put]) ⟨g, 0, none⟩ 0 _ [] (by simp [Act.eval, Act.put]) rfl (fun _ _ h => by simp at h) (fun _ h => by simp at h) (by omega) (fun _ h => by simp at h) ?_)
    go_wp2_with ((with_reducible refine gate_builtin (b := .clear) (xs := #[.tmp 31]) rfl ?_); at_builtin; refine Kd.wpList_clear_run _ rfl _ 22 rfl _ rfl (hX _ _) ?_)
    go_ret
    exact ⟨rfl, rfl⟩
  · have hroom : i + (n - (i + 1)) ≤ cap := by omega
    go_enter Try.func41, Try.ntmps41
    go_wp2
    go_region_law (refine step_append_room rfl (.tmp 22) (.tmp 25) 22 rfl 71 i0 2 Try.underlying22 hi0 hzs g 0 i cap (by simp [Act.eval, Act.put]) ⟨g, (i + 1) * 2, none⟩ (n - (i + 1)) _ (cs.drop ((i + 1) * 2)) (by simp [Act.eval, Act.put]; rfl) hnews hread hone hroom hsp ?_)
    go_wp2_with ((with_reducible refine gate_builtin (b := .clear) (xs := #[.tmp 31]) rfl ?_); at_builtin; refine Kd.wpList_clear_run _ rfl _ 22 rfl _ rfl (hX _ _) ?_)
    go_ret
    exact ⟨rfl, rfl⟩
set_option maxHeartbeats 2000000 in
/-- slices.Delete of one element of a row of the call's own. -/
theorem api_Binding_41.del (B i : Nat) (v : Value) (xs : List S71) (W : World) (hi : i < xs.length) (HO : Kd.R k71 71 W B (fun _ => True) v xs) :
    Calls Try.prog 41 #[v, .int .i64 (i : Int), .int .i64 ((i : Int) + 1)] W fun e w' => ∃ v' g, e = .returned v' ∧ Kd.R k71 71 w' B (fun _ => True) v' (xs.take i ++ xs.drop (i + 1)) ∧ Below B W w' ∧ B ≤ g ∧ (∃ cur, W.heap[g]? = some (.cells cur 71 (0, 0))) ∧ ∀ k, k ≠ g → w'.heap[k]? = W.heap[k]? := by
  obtain ⟨hok, inner, hown, hr⟩ := HO
  have hil : inner.length = xs.length * 2 := hr.1
  have h1c : ∀ u ∈ inner, u.oneCell' = true := by
    intro u hu
    obtain ⟨q, hq, rfl⟩ := List.mem_iff_getElem.1 hu
    have hc := hr.2 (q / 2) _ (List.getElem?_eq_getElem (by omega))
    refine k71.K_one (k71.K_of_M hc) _ ?_
    rw [List.mem_iff_getElem?]
    refine ⟨q % 2, ?_⟩
    show ((inner.drop (q / 2 * 2)).take 2)[q % 2]? = _
    rw [List.getElem?_take, if_pos (by omega), List.getElem?_drop, Nat.mul_comm, Nat.div_add_mod, List.getElem?_eq_getElem hq]
  have hrx : Reps (k71.M W B (fun k => True ∧ some k ≠ v.ownBlock)) k71.sz (xs.take i ++ xs.drop (i + 1)) (inner.take (i * 2) ++ inner.drop ((i + 1) * 2)) := Kd.reps_append (Kd.reps_take hr (by omega)) (Kd.reps_drop hr)
  have hxl : (xs.take i ++ xs.drop (i + 1)).length = xs.length - 1 := by simp; omega
  rcases hown.2 with ⟨rfl, hn0⟩ | ⟨g, cap, cur, rfl, hgB, hh, hnc, hcm, hcs, htake⟩
  · omega
  have hcs' : cur.size = cap * 2 := hcs
  have htake' : cur.toList.take (xs.length * 2) = inner := htake
  have hzl : (Builtin.zeroCells (.agg #[.string ⟨#[]⟩, .string ⟨#[]⟩] : Value).cells 1).toList.length = 2 := by simp [Builtin.zeroCells, Value.cells]
  refine (api_Binding_41.run g xs.length cap i inner cur W hi hnc hcm hh hcs' htake' h1c).mono ?_
  rintro e w' ⟨rfl, rfl⟩
  obtain ⟨cur1, hh1, hc1, ht1⟩ := setCells_row (inner.drop ((i + 1) * 2)) (i * 2) W.drew cur hh (by rw [List.length_drop]; omega)
  obtain ⟨cur2, hh2, hc2, ht2⟩ := setCells_row (Builtin.zeroCells (.agg #[.string ⟨#[]⟩, .string ⟨#[]⟩] : Value).cells 1).toList ((xs.length - 1) * 2) (W.drew.setCells g (i * 2) (inner.drop ((i + 1) * 2))) cur1 hh1 (by rw [hzl]; omega)
  refine ⟨_, g, rfl, ?_, Kd.below_setCells (Kd.below_setCells (below_drew1 (Below.refl _ _)) hgB) hgB, hgB, ⟨_, hh⟩, fun k hk => ?_⟩
  · have hct : cur2.toList.take ((xs.take i ++ xs.drop (i + 1)).length * k71.sz) = inner.take (i * 2) ++ inner.drop ((i + 1) * 2) := by
      rw [hxl, ht2, ht1]
      show List.take ((xs.length - 1) * 2) _ = _
      have hd1 : (inner.drop ((i + 1) * 2)).length = (xs.length - 1) * 2 - i * 2 := by rw [List.length_drop]; omega
      have ht0 : cur.toList.take (i * 2) = inner.take (i * 2) := by rw [← htake', List.take_take]; congr 1; omega
      have hl0 : (inner.take (i * 2)).length = i * 2 := by rw [List.length_take]; omega
      have e1 : ((cur.toList.take (i * 2) ++ inner.drop ((i + 1) * 2)) ++ cur.toList.drop (i * 2 + (inner.drop ((i + 1) * 2)).length)).take ((xs.length - 1) * 2) = inner.take (i * 2) ++ inner.drop ((i + 1) * 2) := by
        rw [ht0, List.take_append_of_le_length (by rw [List.length_append, hl0, hd1]; omega), List.take_of_length_le (by rw [List.length_append, hl0, hd1]; omega)]
      rw [e1, List.append_assoc, List.take_append_of_le_length (by rw [List.length_append, hl0, hd1]; omega), List.take_of_length_le (by rw [List.length_append, hl0, hd1]; omega)]
    have key := Kd.R_of_row (ok := fun _ => True) api_Binding_41.flat hrx hh2 hgB (by rw [hxl]; omega) hcm (by show cur2.size = cap * 2; omega) hct trivial rfl
    rw [hxl] at key
    exact key
  · rw [setCells_far _ _ k hk, setCells_far _ _ k hk]
    rfl


/-! ### env_Unset: function 11 -/
def env_Unset.cut (l : List S71) (s : ByteArray) : List S71 := if api_Binding_40.hit l s = true then l.take (api_Binding_40.find_i l s) ++ l.drop (api_Binding_40.find_i l s + 1) else l
def env_Unset.f (l0_0 : List S71) (l0_1 : List ByteArray) (l0_2 : List S67) (a1 : ByteArray) : Option (List S71 × List ByteArray × List S67) := (env_copied.f l0_0 l0_1 l0_2).bind fun c => (api_Binding_40.f c.1 a1).bind fun _ => some (env_Unset.cut c.1 a1, c.2.1, c.2.2)
set_option maxHeartbeats 8000000 in
set_option maxRecDepth 100000 in
theorem env_Unset.calls (A0_0 : Option Addr) (c0_0 : Nat) (l0_0 : List S71) (A0_1 : Option Addr) (c0_1 : Nat) (l0_1 : List ByteArray) (A0_2 : Option Addr) (c0_2 : Nat) (l0_2 : List S67) (a1 : ByteArray) (r1 : List S71) (r2 : List ByteArray) (r3 : List S67) (w : World) (hr0_0 : Kd.C k71 w A0_0 l0_0.length l0_0) (hc0_0 : l0_0.length ≤ c0_0) (hr0_1 : Kd.C Kd.string w A0_1 l0_1.length l0_1) (hc0_1 : l0_1.length ≤ c0_1) (hr0_2 : Kd.C k67 w A0_2 l0_2.length l0_2) (hc0_2 : l0_2.length ≤ c0_2) (h : env_Unset.f l0_0 l0_1 l0_2 a1 = some (r1, r2, r3)) :
    Calls Try.prog 11 #[.agg #[.slice A0_0 l0_0.length c0_0, .slice A0_1 l0_1.length c0_1, .slice A0_2 l0_2.length c0_2], .string a1] w fun e w' => ∃ v0_ v1_ v2_ : Value, e = .returned (.agg #[v0_, v1_, v2_]) ∧ Kd.R k71 71 w' w.heap.size (fun _ => True) v0_ r1 ∧ Kd.R Kd.string 9 w' w.heap.size (fun _ => True) v1_ r2 ∧ Kd.R k67 67 w' w.heap.size (fun _ => True) v2_ r3 ∧ Below w.heap.size w w' := by
  have HR0_0 := Aside0.mk hr0_0
  have HC0_0 := Aside0.mk hc0_0
  have HR0_1 := Aside0.mk hr0_1
  have HC0_1 := Aside0.mk hc0_1
  have HR0_2 := Aside0.mk hr0_2
  have HC0_2 := Aside0.mk hc0_2
  clear hr0_0 hc0_0 hr0_1 hc0_1 hr0_2 hc0_2
  have HB := Aside0.mk (Below.refl w.heap.size w)
  unfold env_Unset.f at h
  obtain ⟨⟨t0, t1, t2⟩, A40, h⟩ := Option.bind_eq_some_iff.1 h
  have A4 := Aside0.mk A40
  clear A40
  obtain ⟨⟨x1, x2⟩, A50, h⟩ := Option.bind_eq_some_iff.1 h
  have hlen : t0.length < 140737488355328 := by
    unfold api_Binding_40.f at A50
    split at A50
    · assumption
    · cases A50
  have HF : Aside0 (api_Binding_40.f t0 a1 = some ((api_Binding_40.find_i t0 a1 : Int), api_Binding_40.hit t0 a1)) := ⟨by rw [api_Binding_40.f, if_pos hlen]⟩
  clear A50 x1 x2
  simp only [Option.some.injEq, Prod.mk.injEq] at h
  obtain ⟨rfl, rfl, rfl⟩ := h
  have hlt : api_Binding_40.hit t0 a1 = true → api_Binding_40.find_i t0 a1 < t0.length := fun e => by
    unfold api_Binding_40.hit at e
    rw [Bool.and_eq_true, decide_eq_true_eq] at e
    exact e.1
  unfold env_Unset.cut
  generalize api_Binding_40.find_i t0 a1 = i at *
  generalize api_Binding_40.hit t0 a1 = hit at *
  cases hit with
  | true =>
      rw [if_pos rfl]
      have hil := hlt rfl
      have HI := Aside0.mk hil
      have hw1 : IntKind.i64.wrap ((i : Int) + 1) = (i : Int) + 1 := by rw [IntKind.wrap_i64]; omega
      clear hlt hil hlen
      obtain ⟨td, HCUT⟩ : ∃ td, Aside0 (t0.take i ++ t0.drop (i + 1) = td) := ⟨_, ⟨rfl⟩⟩
      rw [HCUT.out]
      go_enter Try.func11, Try.ntmps11
      go_wp2_with (first | ((with_reducible refine gate_dst (N := 2) rfl ?_); refine box_event ?hg (N := 2) ?hd (cs := #[.slice A0_0 l0_0.length c0_0, .slice A0_1 l0_1.length c0_1, .slice A0_2 l0_2.length c0_2]) (t := 26) ?hr ?_; (case hd => rfl); (case hg => rfl); (case hr => first | (go_simp; done) | (go_simp; rfl)); intro gb1 hg w6 hbox hb; have n0_ := Aside0.mk (below_step (by repeat (first | (with_reducible first | exact HB.out | apply below_alloc | apply pw_below_drewN | apply below_drew1) | exact HB.out)) hb); have n1_ := Aside0.mk hbox; have n2_ := Aside0.mk ((by rw [hg]; exact (below_size (by repeat (first | (with_reducible first | exact HB.out | apply below_alloc | apply pw_below_drewN | apply below_drew1) | exact HB.out))) : w.heap.size ≤ gb1)); clear HB; have HB := n0_; have BK1 := n1_; have GE1 := n2_; clear n0_ n1_ n2_; clear hb hbox hg) | ((with_reducible refine gate_dst (N := 4) rfl ?_); refine box_event ?hg (N := 4) ?hd (cs := #[.slice none 0 0, .slice none 0 0, .slice none 0 0]) (t := 26) ?hr ?_; (case hd => rfl); (case hg => rfl); (case hr => first | (go_simp; done) | (go_simp; rfl)); intro gb2 hg w7 hbox hb; have n0_ := Aside0.mk (blk_below (g := gb1) (o := .cells #[.slice A0_0 l0_0.length c0_0, .slice A0_1 l0_1.length c0_1, .slice A0_2 l0_2.length c0_2] 26 (0, 0)) (by (with_reducible repeat (first | refine blk_drewN ?_ _ | refine blk_drew ?_ | refine blk_alloc ?_ _)); exact BK1.out) hb); have n1_ := Aside0.mk (below_step (by repeat (first | (with_reducible first | exact HB.out | apply below_alloc | apply pw_below_drewN | apply below_drew1 | refine below_set ?_ GE1.out) | exact HB.out)) hb); have n2_ := Aside0.mk hbox; have n3_ := Aside0.mk ((by rw [hg]; exact (below_size (by repeat (first | (with_reducible first | exact HB.out | apply below_alloc | apply pw_below_drewN | apply below_drew1 | refine below_set ?_ GE1.out) | exact HB.out))) : w.heap.size ≤ gb2)); have n5_ := Aside0.mk ((by rw [hg]; exact Nat.ne_of_lt (blk_lt (g := gb1) (o := .cells #[.slice A0_0 l0_0.length c0_0, .slice A0_1 l0_1.length c0_1, .slice A0_2 l0_2.length c0_2] 26 (0, 0)) (by (with_reducible repeat (first | refine blk_drewN ?_ _ | refine blk_drew ?_ | refine blk_alloc ?_ _)); exact BK1.out)) : gb1 ≠ gb2)); clear BK1; clear HB; have BK1 := n0_; have HB := n1_; have BK2 := n2_; have GE2 := n3_; have NB12 := n5_; have NB21 := Aside0.mk (Ne.symm n5_.out); clear n0_ n1_ n2_ n3_ n5_; clear hb hbox hg; have hnb8 := NB12.out; have hnc8 := NB21.out; have hcz9_0 : w7.cell? ⟨gb1, 0, none⟩ = some (.slice A0_0 l0_0.length c0_0) := (blk_cell BK1.out 0).trans rfl; have hcz9_1 : w7.cell? ⟨gb1, 1, none⟩ = some (.slice A0_1 l0_1.length c0_1) := (blk_cell BK1.out 1).trans rfl; have hcz9_2 : w7.cell? ⟨gb1, 2, none⟩ = some (.slice A0_2 l0_2.length c0_2) := (blk_cell BK1.out 2).trans rfl; have hfz9_0 := blk_frozen BK1.out 0; have hfz9_1 := blk_frozen BK1.out 1; have hfz9_2 := blk_frozen BK1.out 2) | (go_at_call 35; go_must ((with_reducible refine (env_copied.calls _ _ l0_0 _ _ l0_1 _ _ l0_2 t0 t1 t2 _ ?side1 ?side2 ?side3 ?side4 ?side5 ?side6 A4.out).mono ?_); (case side1 => repeat (first | (with_reducible exact HR0_0.out) | exact (Kd.C_below HR0_0.out HB.out) | (with_reducible refine Kd.C_alloc ?_ _) | (with_reducible refine Kd.C_drewN ?_ _) | (with_reducible refine Kd.C_drew ?_))); (case side2 => exact HC0_0.out); (case side3 => repeat (first | (with_reducible exact HR0_1.out) | exact (Kd.C_below HR0_1.out HB.out) | (with_reducible refine Kd.C_alloc ?_ _) | (with_reducible refine Kd.C_drewN ?_ _) | (with_reducible refine Kd.C_drew ?_))); (case side4 => exact HC0_1.out); (case side5 => repeat (first | (with_reducible exact HR0_2.out) | exact (Kd.C_below HR0_2.out HB.out) | (with_reducible refine Kd.C_alloc ?_ _) | (with_reducible refine Kd.C_drewN ?_ _) | (with_reducible refine Kd.C_drew ?_))); (case side6 => exact HC0_2.out); rintro e w10 ⟨v0, v1, v2, rfl, ho0, ho1, ho2, hb⟩; have n0_ := Aside0.mk (Kd.R_lower ho0 (below_size (by repeat (first | (with_reducible first | exact HB.out | apply below_alloc | apply pw_below_drewN | apply below_drew1 | refine below_set ?_ GE1.out | refine below_set ?_ GE2.out) | exact HB.out)))); have n1_ := Aside0.mk (Kd.R_lower ho1 (below_size (by repeat (first | (with_reducible first | exact HB.out | apply below_alloc | apply pw_below_drewN | apply below_drew1 | refine below_set ?_ GE1.out | refine below_set ?_ GE2.out) | exact HB.out)))); have n2_ := Aside0.mk (Kd.R_lower ho2 (below_size (by repeat (first | (with_reducible first | exact HB.out | apply below_alloc | apply pw_below_drewN | apply below_drew1 | refine below_set ?_ GE1.out | refine below_set ?_ GE2.out) | exact HB.out)))); have n3_ := Aside0.mk (blk_below (g := gb1) (o := .cells #[.slice A0_0 l0_0.length c0_0, .slice A0_1 l0_1.length c0_1, .slice A0_2 l0_2.length c0_2] 26 (0, 0)) (by (with_reducible repeat (first | refine blk_drewN ?_ _ | refine blk_drew ?_ | refine blk_alloc ?_ _)); exact BK1.out) hb); have n4_ := Aside0.mk (blk_below (g := gb2) (o := .cells #[.slice none 0 0, .slice none 0 0, .slice none 0 0] 26 (0, 0)) (by (with_reducible repeat (first | refine blk_drewN ?_ _ | refine blk_drew ?_ | refine blk_alloc ?_ _)); exact BK2.out) hb); have n5_ := Aside0.mk (below_step (by repeat (first | (with_reducible first | exact HB.out | apply below_alloc | apply pw_below_drewN | apply below_drew1 | refine below_set ?_ GE1.out | refine below_set ?_ GE2.out) | exact HB.out)) hb); clear BK1; clear BK2; clear HB; have HO0 := n0_; have HO1 := n1_; have HO2 := n2_; have BK1 := n3_; have BK2 := n4_; have HB := n5_; clear n0_ n1_ n2_ n3_ n4_ n5_; clear hb ho0 ho1 ho2; obtain ⟨Ao0, co0, eo0⟩ := Kd.R_slice HO0.out; subst eo0; obtain ⟨Ao1, co1, eo1⟩ := Kd.R_slice HO1.out; subst eo1; obtain ⟨Ao2, co2, eo2⟩ := Kd.R_slice HO2.out; subst eo2; have hcz12_0 : w10.cell? ⟨gb1, 0, none⟩ = some (.slice A0_0 l0_0.length c0_0) := (blk_cell BK1.out 0).trans rfl; have hcz12_1 : w10.cell? ⟨gb1, 1, none⟩ = some (.slice A0_1 l0_1.length c0_1) := (blk_cell BK1.out 1).trans rfl; have hcz12_2 : w10.cell? ⟨gb1, 2, none⟩ = some (.slice A0_2 l0_2.length c0_2) := (blk_cell BK1.out 2).trans rfl; have hfz12_0 := blk_frozen BK1.out 0; have hfz12_1 := blk_frozen BK1.out 1; have hfz12_2 := blk_frozen BK1.out 2)) | (go_at_call 40; go_must ((with_reducible refine (api_Binding_40.calls _ _ t0 a1 _ _ _ ?s1 ?s2 HF.out).mono ?_); (case s1 => refine (Kd.R_reads' (e := 71) (base := w.heap.size) (ok := fun k_ => True) (n := t0.length) (c := co0) ?_).2.2; exact (by (with_reducible repeat (first | apply Kd.R_alloc | apply Kd.R_drewN | apply Kd.R_drew)); exact (Kd.R_mono (Kd.R_far (p := ⟨gb1, 2, none⟩) (Kd.R_far (p := ⟨gb1, 1, none⟩) (Kd.R_far (p := ⟨gb1, 0, none⟩) (Kd.R_types (Kd.R_types HO0.out BK1.out (by decide)) BK2.out (by decide)) (fun _ hk => hk.1.2) (.slice Ao0 t0.length co0)) (fun _ hk => hk.1.2) (.slice Ao1 t1.length co1)) (fun _ hk => hk.1.2) (.slice Ao2 t2.length co2)) (fun _ h_ => trivial)))); (case s2 => exact (Kd.R_reads' HO0.out).2.1); rintro e w15 ⟨rfl, hb⟩; have n0_ := Aside0.mk (Kd.R_below (by (with_reducible repeat (first | apply Kd.R_alloc | apply Kd.R_drewN | apply Kd.R_drew)); exact (Kd.R_mono (Kd.R_far (p := ⟨gb1, 2, none⟩) (Kd.R_far (p := ⟨gb1, 1, none⟩) (Kd.R_far (p := ⟨gb1, 0, none⟩) (Kd.R_types (Kd.R_types HO0.out BK1.out (by decide)) BK2.out (by decide)) (fun _ hk => hk.1.2) (.slice Ao0 t0.length co0)) (fun _ hk => hk.1.2) (.slice Ao1 t1.length co1)) (fun _ hk => hk.1.2) (.slice Ao2 t2.length co2)) (ok' := fun _ => True) (fun _ h_ => trivial))) hb); have n1_ := Aside0.mk (Kd.R_below (by (with_reducible repeat (first | apply Kd.R_alloc | apply Kd.R_drewN | apply Kd.R_drew)); exact (Kd.R_mono (Kd.R_far (p := ⟨gb1, 2, none⟩) (Kd.R_far (p := ⟨gb1, 1, none⟩) (Kd.R_far (p := ⟨gb1, 0, none⟩) (Kd.R_types (Kd.R_types HO1.out BK1.out (by decide)) BK2.out (by decide)) (fun _ hk => hk.1.2) (.slice Ao0 t0.length co0)) (fun _ hk => hk.1.2) (.slice Ao1 t1.length co1)) (fun _ hk => hk.1.2) (.slice Ao2 t2.length co2)) (ok' := fun _ => True) (fun _ h_ => trivial))) hb); have n2_ := Aside0.mk (Kd.R_below (by (with_reducible repeat (first | apply Kd.R_alloc | apply Kd.R_drewN | apply Kd.R_drew)); exact (Kd.R_mono (Kd.R_far (p := ⟨gb1, 2, none⟩) (Kd.R_far (p := ⟨gb1, 1, none⟩) (Kd.R_far (p := ⟨gb1, 0, none⟩) (Kd.R_types (Kd.R_types HO2.out BK1.out (by decide)) BK2.out (by decide)) (fun _ hk => hk.1.2) (.slice Ao0 t0.length co0)) (fun _ hk => hk.1.2) (.slice Ao1 t1.length co1)) (fun _ hk => hk.1.2) (.slice Ao2 t2.length co2)) (ok' := fun _ => True) (fun _ h_ => trivial))) hb); have n3_ := Aside0.mk (blk_below (g := gb1) (o := .cells #[.slice Ao0 t0.length co0, .slice Ao1 t1.length co1, .slice Ao2 t2.length co2] 26 (0, 0)) (by (with_reducible repeat (first | refine blk_drewN ?_ _ | refine blk_drew ?_ | refine blk_alloc ?_ _)); refine blk_put (cs := #[.slice Ao0 t0.length co0, .slice Ao1 t1.length co1, .slice A0_2 l0_2.length c0_2]) ?_ 2 _ rfl; (with_reducible repeat (first | refine blk_drewN ?_ _ | refine blk_drew ?_ | refine blk_alloc ?_ _)); refine blk_put (cs := #[.slice Ao0 t0.length co0, .slice A0_1 l0_1.length c0_1, .slice A0_2 l0_2.length c0_2]) ?_ 1 _ rfl; (with_reducible repeat (first | refine blk_drewN ?_ _ | refine blk_drew ?_ | refine blk_alloc ?_ _)); refine blk_put (cs := #[.slice A0_0 l0_0.length c0_0, .slice A0_1 l0_1.length c0_1, .slice A0_2 l0_2.length c0_2]) ?_ 0 _ rfl; (with_reducible repeat (first | refine blk_drewN ?_ _ | refine blk_drew ?_ | refine blk_alloc ?_ _)); exact BK1.out) hb); have n4_ := Aside0.mk (blk_below (g := gb2) (o := .cells #[.slice none 0 0, .slice none 0 0, .slice none 0 0] 26 (0, 0)) (by (with_reducible repeat (first | refine blk_drewN ?_ _ | refine blk_drew ?_ | refine blk_alloc ?_ _)); refine blk_far ?_ NB21.out _; (with_reducible repeat (first | refine blk_drewN ?_ _ | refine blk_drew ?_ | refine blk_alloc ?_ _)); refine blk_far ?_ NB21.out _; (with_reducible repeat (first | refine blk_drewN ?_ _ | refine blk_drew ?_ | refine blk_alloc ?_ _)); refine blk_far ?_ NB21.out _; (with_reducible repeat (first | refine blk_drewN ?_ _ | refine blk_drew ?_ | refine blk_alloc ?_ _)); exact BK2.out) hb); have n5_ := Aside0.mk (below_step (by repeat (first | (with_reducible first | exact HB.out | apply below_alloc | apply pw_below_drewN | apply below_drew1 | refine below_set ?_ GE1.out | refine below_set ?_ GE2.out) | exact HB.out)) hb); clear BK1; clear BK2; clear HB; clear HO0; clear HO1; clear HO2; have HO0 := n0_; have HO1 := n1_; have HO2 := n2_; have BK1 := n3_; have BK2 := n4_; have HB := n5_; clear n0_ n1_ n2_ n3_ n4_ n5_; clear hb; have hcz17_0 : w15.cell? ⟨gb1, 0, none⟩ = some (.slice Ao0 t0.length co0) := (blk_cell BK1.out 0).trans rfl; have hcz17_1 : w15.cell? ⟨gb1, 1, none⟩ = some (.slice Ao1 t1.length co1) := (blk_cell BK1.out 1).trans rfl; have hcz17_2 : w15.cell? ⟨gb1, 2, none⟩ = some (.slice Ao2 t2.length co2) := (blk_cell BK1.out 2).trans rfl; have hfz17_0 := blk_frozen BK1.out 0; have hfz17_1 := blk_frozen BK1.out 1; have hfz17_2 := blk_frozen BK1.out 2; have hcz18_0 : w15.cell? ⟨gb2, 0, none⟩ = some (.slice none 0 0) := (blk_cell BK2.out 0).trans rfl; have hcz18_1 : w15.cell? ⟨gb2, 1, none⟩ = some (.slice none 0 0) := (blk_cell BK2.out 1).trans rfl; have hcz18_2 : w15.cell? ⟨gb2, 2, none⟩ = some (.slice none 0 0) := (blk_cell BK2.out 2).trans rfl; have hfz18_0 := blk_frozen BK2.out 0; have hfz18_1 := blk_frozen BK2.out 1; have hfz18_2 := blk_frozen BK2.out 2)) | (go_at_call 41; go_must ((with_reducible refine (api_Binding_41.del w.heap.size i _ t0 _ HI.out ?s1).mono ?_); (case s1 => (with_reducible repeat (first | apply Kd.R_alloc | apply Kd.R_drewN | apply Kd.R_drew)); exact HO0.out); rintro e w20 ⟨vd, gd, rfl, hod, hbd, hgd, ⟨curd, htd⟩, hk⟩; rw [HCUT.out] at hod; have hne1 : gb1 ≠ gd := (by rintro rfl; have e1 := htd.symm.trans (show _ = some (.cells #[.slice Ao0 t0.length co0, .slice Ao1 t1.length co1, .slice Ao2 t2.length co2] 26 (0, 0)) from (by (with_reducible repeat (first | refine blk_drewN ?_ _ | refine blk_drew ?_ | refine blk_alloc ?_ _)); exact BK1.out)); simp at e1); have hne2 : gb2 ≠ gd := (by rintro rfl; have e1 := htd.symm.trans (show _ = some (.cells #[.slice none 0 0, .slice none 0 0, .slice none 0 0] 26 (0, 0)) from (by (with_reducible repeat (first | refine blk_drewN ?_ _ | refine blk_drew ?_ | refine blk_alloc ?_ _)); exact BK2.out)); simp at e1); have n0_ := Aside0.mk hod; have n1_ := Aside0.mk (Kd.R_mono (ok' := fun _ => True) (Kd.R_step (w1 := w20) (Kd.R_types (by (with_reducible repeat (first | apply Kd.R_alloc | apply Kd.R_drewN | apply Kd.R_drew)); exact HO1.out) htd (by decide)) (fun k ho _ => hk k ho.2)) (fun _ _ => trivial)); have n2_ := Aside0.mk (Kd.R_mono (ok' := fun _ => True) (Kd.R_step (w1 := w20) (Kd.R_types (by (with_reducible repeat (first | apply Kd.R_alloc | apply Kd.R_drewN | apply Kd.R_drew)); exact HO2.out) htd (by decide)) (fun k ho _ => hk k ho.2)) (fun _ _ => trivial)); have n3_ := Aside0.mk ((hk gb1 hne1).trans (show _ = some (.cells #[.slice Ao0 t0.length co0, .slice Ao1 t1.length co1, .slice Ao2 t2.length co2] 26 (0, 0)) from (by (with_reducible repeat (first | refine blk_drewN ?_ _ | refine blk_drew ?_ | refine blk_alloc ?_ _)); exact BK1.out))); have n4_ := Aside0.mk ((hk gb2 hne2).trans (show _ = some (.cells #[.slice none 0 0, .slice none 0 0, .slice none 0 0] 26 (0, 0)) from (by (with_reducible repeat (first | refine blk_drewN ?_ _ | refine blk_drew ?_ | refine blk_alloc ?_ _)); exact BK2.out))); have n5_ := Aside0.mk (Below.trans (by repeat (first | (with_reducible first | exact HB.out | apply below_alloc | apply pw_below_drewN | apply below_drew1 | refine below_set ?_ GE1.out | refine below_set ?_ GE2.out) | exact HB.out)) hbd); clear BK1; clear BK2; clear HB; clear HO0; clear HO1; clear HO2; have HO0 := n0_; have HO1 := n1_; have HO2 := n2_; have BK1 := n3_; have BK2 := n4_; have HB := n5_; clear n0_ n1_ n2_ n3_ n4_ n5_; clear hod hbd hgd htd hk hne1 hne2 curd gd; obtain ⟨Aod, cod, eod⟩ := Kd.R_slice HO0.out; subst eod; have hcz21_0 : w20.cell? ⟨gb1, 0, none⟩ = some (.slice Ao0 t0.length co0) := (blk_cell BK1.out 0).trans rfl; have hcz21_1 : w20.cell? ⟨gb1, 1, none⟩ = some (.slice Ao1 t1.length co1) := (blk_cell BK1.out 1).trans rfl; have hcz21_2 : w20.cell? ⟨gb1, 2, none⟩ = some (.slice Ao2 t2.length co2) := (blk_cell BK1.out 2).trans rfl; have hfz21_0 := blk_frozen BK1.out 0; have hfz21_1 := blk_frozen BK1.out 1; have hfz21_2 := blk_frozen BK1.out 2; have hcz22_0 : w20.cell? ⟨gb2, 0, none⟩ = some (.slice none 0 0) := (blk_cell BK2.out 0).trans rfl; have hcz22_1 : w20.cell? ⟨gb2, 1, none⟩ = some (.slice none 0 0) := (blk_cell BK2.out 1).trans rfl; have hcz22_2 : w20.cell? ⟨gb2, 2, none⟩ = some (.slice none 0 0) := (blk_cell BK2.out 2).trans rfl; have hfz22_0 := blk_frozen BK2.out 0; have hfz22_1 := blk_frozen BK2.out 1; have hfz22_2 := blk_frozen BK2.out 2)))
      refine bodyPost_ret (results_cell_row rfl _ _ gb2 26 #[.slice Aod td.length cod, .slice Ao1 t1.length co1, .slice Ao2 t2.length co2] (0, 0) _ rfl (by (with_reducible repeat (first | refine blk_drewN ?_ _ | refine blk_drew ?_ | refine blk_alloc ?_ _)); refine blk_put (cs := #[.slice Aod td.length cod, .slice Ao1 t1.length co1, .slice none 0 0]) ?_ 2 _ rfl; (with_reducible repeat (first | refine blk_drewN ?_ _ | refine blk_drew ?_ | refine blk_alloc ?_ _)); refine blk_put (cs := #[.slice Aod td.length cod, .slice none 0 0, .slice none 0 0]) ?_ 1 _ rfl; (with_reducible repeat (first | refine blk_drewN ?_ _ | refine blk_drew ?_ | refine blk_alloc ?_ _)); refine blk_put (cs := #[.slice none 0 0, .slice none 0 0, .slice none 0 0]) ?_ 0 _ rfl; (with_reducible repeat (first | refine blk_drewN ?_ _ | refine blk_drew ?_ | refine blk_alloc ?_ _)); refine blk_far ?_ NB21.out _; (with_reducible repeat (first | refine blk_drewN ?_ _ | refine blk_drew ?_ | refine blk_alloc ?_ _)); exact BK2.out) Try.underlying26 rfl (by kernel_rfl)) rfl ?_
      exact ⟨_, _, _, rfl, by (with_reducible repeat (first | apply Kd.R_alloc | apply Kd.R_drewN | apply Kd.R_drew)); exact (Kd.R_mono (Kd.R_far (p := ⟨gb2, 2, none⟩) (Kd.R_far (p := ⟨gb2, 1, none⟩) (Kd.R_far (p := ⟨gb2, 0, none⟩) (Kd.R_far (p := ⟨gb1, 0, none⟩) (Kd.R_types (Kd.R_types HO0.out BK1.out (by decide)) BK2.out (by decide)) (fun _ hk => hk.1.2) (.slice Aod td.length cod)) (fun _ hk => hk.2) (.slice Aod td.length cod)) (fun _ hk => hk.2) (.slice Ao1 t1.length co1)) (fun _ hk => hk.2) (.slice Ao2 t2.length co2)) (fun _ h_ => trivial)), by (with_reducible repeat (first | apply Kd.R_alloc | apply Kd.R_drewN | apply Kd.R_drew)); exact (Kd.R_mono (Kd.R_far (p := ⟨gb2, 2, none⟩) (Kd.R_far (p := ⟨gb2, 1, none⟩) (Kd.R_far (p := ⟨gb2, 0, none⟩) (Kd.R_far (p := ⟨gb1, 0, none⟩) (Kd.R_types (Kd.R_types HO1.out BK1.out (by decide)) BK2.out (by decide)) (fun _ hk => hk.1.2) (.slice Aod td.length cod)) (fun _ hk => hk.2) (.slice Aod td.length cod)) (fun _ hk => hk.2) (.slice Ao1 t1.length co1)) (fun _ hk => hk.2) (.slice Ao2 t2.length co2)) (fun _ h_ => trivial)), by (with_reducible repeat (first | apply Kd.R_alloc | apply Kd.R_drewN | apply Kd.R_drew)); exact (Kd.R_mono (Kd.R_far (p := ⟨gb2, 2, none⟩) (Kd.R_far (p := ⟨gb2, 1, none⟩) (Kd.R_far (p := ⟨gb2, 0, none⟩) (Kd.R_far (p := ⟨gb1, 0, none⟩) (Kd.R_types (Kd.R_types HO2.out BK1.out (by decide)) BK2.out (by decide)) (fun _ hk => hk.1.2) (.slice Aod td.length cod)) (fun _ hk => hk.2) (.slice Aod td.length cod)) (fun _ hk => hk.2) (.slice Ao1 t1.length co1)) (fun _ hk => hk.2) (.slice Ao2 t2.length co2)) (fun _ h_ => trivial)), by repeat (first | (with_reducible first | exact HB.out | apply below_alloc | apply pw_below_drewN | apply below_drew1 | refine below_set ?_ GE1.out | refine below_set ?_ GE2.out) | exact HB.out)⟩
  | false =>
      rw [if_neg (by simp)]
      clear hlt hlen
      go_enter Try.func11, Try.ntmps11
      go_wp2_with (first | ((with_reducible refine gate_dst (N := 2) rfl ?_); refine box_event ?hg (N := 2) ?hd (cs := #[.slice A0_0 l0_0.length c0_0, .slice A0_1 l0_1.length c0_1, .slice A0_2 l0_2.length c0_2]) (t := 26) ?hr ?_; (case hd => rfl); (case hg => rfl); (case hr => first | (go_simp; done) | (go_simp; rfl)); intro gb1 hg w6 hbox hb; have n0_ := Aside0.mk (below_step (by repeat (first | (with_reducible first | exact HB.out | apply below_alloc | apply pw_below_drewN | apply below_drew1) | exact HB.out)) hb); have n1_ := Aside0.mk hbox; have n2_ := Aside0.mk ((by rw [hg]; exact (below_size (by repeat (first | (with_reducible first | exact HB.out | apply below_alloc | apply pw_below_drewN | apply below_drew1) | exact HB.out))) : w.heap.size ≤ gb1)); clear HB; have HB := n0_; have BK1 := n1_; have GE1 := n2_; clear n0_ n1_ n2_; clear hb hbox hg) | ((with_reducible refine gate_dst (N := 4) rfl ?_); refine box_event ?hg (N := 4) ?hd (cs := #[.slice none 0 0, .slice none 0 0, .slice none 0 0]) (t := 26) ?hr ?_; (case hd => rfl); (case hg => rfl); (case hr => first | (go_simp; done) | (go_simp; rfl)); intro gb2 hg w7 hbox hb; have n0_ := Aside0.mk (blk_below (g := gb1) (o := .cells #[.slice A0_0 l0_0.length c0_0, .slice A0_1 l0_1.length c0_1, .slice A0_2 l0_2.length c0_2] 26 (0, 0)) (by (with_reducible repeat (first | refine blk_drewN ?_ _ | refine blk_drew ?_ | refine blk_alloc ?_ _)); exact BK1.out) hb); have n1_ := Aside0.mk (below_step (by repeat (first | (with_reducible first | exact HB.out | apply below_alloc | apply pw_below_drewN | apply below_drew1 | refine below_set ?_ GE1.out) | exact HB.out)) hb); have n2_ := Aside0.mk hbox; have n3_ := Aside0.mk ((by rw [hg]; exact (below_size (by repeat (first | (with_reducible first | exact HB.out | apply below_alloc | apply pw_below_drewN | apply below_drew1 | refine below_set ?_ GE1.out) | exact HB.out))) : w.heap.size ≤ gb2)); have n5_ := Aside0.mk ((by rw [hg]; exact Nat.ne_of_lt (blk_lt (g := gb1) (o := .cells #[.slice A0_0 l0_0.length c0_0, .slice A0_1 l0_1.length c0_1, .slice A0_2 l0_2.length c0_2] 26 (0, 0)) (by (with_reducible repeat (first | refine blk_drewN ?_ _ | refine blk_drew ?_ | refine blk_alloc ?_ _)); exact BK1.out)) : gb1 ≠ gb2)); clear BK1; clear HB; have BK1 := n0_; have HB := n1_; have BK2 := n2_; have GE2 := n3_; have NB12 := n5_; have NB21 := Aside0.mk (Ne.symm n5_.out); clear n0_ n1_ n2_ n3_ n5_; clear hb hbox hg; have hnb8 := NB12.out; have hnc8 := NB21.out; have hcz9_0 : w7.cell? ⟨gb1, 0, none⟩ = some (.slice A0_0 l0_0.length c0_0) := (blk_cell BK1.out 0).trans rfl; have hcz9_1 : w7.cell? ⟨gb1, 1, none⟩ = some (.slice A0_1 l0_1.length c0_1) := (blk_cell BK1.out 1).trans rfl; have hcz9_2 : w7.cell? ⟨gb1, 2, none⟩ = some (.slice A0_2 l0_2.length c0_2) := (blk_cell BK1.out 2).trans rfl; have hfz9_0 := blk_frozen BK1.out 0; have hfz9_1 := blk_frozen BK1.out 1; have hfz9_2 := blk_frozen BK1.out 2) | (go_at_call 35; go_must ((with_reducible refine (env_copied.calls _ _ l0_0 _ _ l0_1 _ _ l0_2 t0 t1 t2 _ ?side1 ?side2 ?side3 ?side4 ?side5 ?side6 A4.out).mono ?_); (case side1 => repeat (first | (with_reducible exact HR0_0.out) | exact (Kd.C_below HR0_0.out HB.out) | (with_reducible refine Kd.C_alloc ?_ _) | (with_reducible refine Kd.C_drewN ?_ _) | (with_reducible refine Kd.C_drew ?_))); (case side2 => exact HC0_0.out); (case side3 => repeat (first | (with_reducible exact HR0_1.out) | exact (Kd.C_below HR0_1.out HB.out) | (with_reducible refine Kd.C_alloc ?_ _) | (with_reducible refine Kd.C_drewN ?_ _) | (with_reducible refine Kd.C_drew ?_))); (case side4 => exact HC0_1.out); (case side5 => repeat (first | (with_reducible exact HR0_2.out) | exact (Kd.C_below HR0_2.out HB.out) | (with_reducible refine Kd.C_alloc ?_ _) | (with_reducible refine Kd.C_drewN ?_ _) | (with_reducible refine Kd.C_drew ?_))); (case side6 => exact HC0_2.out); rintro e w10 ⟨v0, v1, v2, rfl, ho0, ho1, ho2, hb⟩; have n0_ := Aside0.mk (Kd.R_lower ho0 (below_size (by repeat (first | (with_reducible first | exact HB.out | apply below_alloc | apply pw_below_drewN | apply below_drew1 | refine below_set ?_ GE1.out | refine below_set ?_ GE2.out) | exact HB.out)))); have n1_ := Aside0.mk (Kd.R_lower ho1 (below_size (by repeat (first | (with_reducible first | exact HB.out | apply below_alloc | apply pw_below_drewN | apply below_drew1 | refine below_set ?_ GE1.out | refine below_set ?_ GE2.out) | exact HB.out)))); have n2_ := Aside0.mk (Kd.R_lower ho2 (below_size (by repeat (first | (with_reducible first | exact HB.out | apply below_alloc | apply pw_below_drewN | apply below_drew1 | refine below_set ?_ GE1.out | refine below_set ?_ GE2.out) | exact HB.out)))); have n3_ := Aside0.mk (blk_below (g := gb1) (o := .cells #[.slice A0_0 l0_0.length c0_0, .slice A0_1 l0_1.length c0_1, .slice A0_2 l0_2.length c0_2] 26 (0, 0)) (by (with_reducible repeat (first | refine blk_drewN ?_ _ | refine blk_drew ?_ | refine blk_alloc ?_ _)); exact BK1.out) hb); have n4_ := Aside0.mk (blk_below (g := gb2) (o := .cells #[.slice none 0 0, .slice none 0 0, .slice none 0 0] 26 (0, 0)) (by (with_reducible repeat (first | refine blk_drewN ?_ _ | refine blk_drew ?_ | refine blk_alloc ?_ _)); exact BK2.out) hb); have n5_ := Aside0.mk (below_step (by repeat (first | (with_reducible first | exact HB.out | apply below_alloc | apply pw_below_drewN | apply below_drew1 | refine below_set ?_ GE1.out | refine below_set ?_ GE2.out) | exact HB.out)) hb); clear BK1; clear BK2; clear HB; have HO0 := n0_; have HO1 := n1_; have HO2 := n2_; have BK1 := n3_; have BK2 := n4_; have HB := n5_; clear n0_ n1_ n2_ n3_ n4_ n5_; clear hb ho0 ho1 ho2; obtain ⟨Ao0, co0, eo0⟩ := Kd.R_slice HO0.out; subst eo0; obtain ⟨Ao1, co1, eo1⟩ := Kd.R_slice HO1.out; subst eo1; obtain ⟨Ao2, co2, eo2⟩ := Kd.R_slice HO2.out; subst eo2; have hcz12_0 : w10.cell? ⟨gb1, 0, none⟩ = some (.slice A0_0 l0_0.length c0_0) := (blk_cell BK1.out 0).trans rfl; have hcz12_1 : w10.cell? ⟨gb1, 1, none⟩ = some (.slice A0_1 l0_1.length c0_1) := (blk_cell BK1.out 1).trans rfl; have hcz12_2 : w10.cell? ⟨gb1, 2, none⟩ = some (.slice A0_2 l0_2.length c0_2) := (blk_cell BK1.out 2).trans rfl; have hfz12_0 := blk_frozen BK1.out 0; have hfz12_1 := blk_frozen BK1.out 1; have hfz12_2 := blk_frozen BK1.out 2)) | (go_at_call 40; go_must ((with_reducible refine (api_Binding_40.calls _ _ t0 a1 _ _ _ ?s1 ?s2 HF.out).mono ?_); (case s1 => refine (Kd.R_reads' (e := 71) (base := w.heap.size) (ok := fun k_ => True) (n := t0.length) (c := co0) ?_).2.2; exact (by (with_reducible repeat (first | apply Kd.R_alloc | apply Kd.R_drewN | apply Kd.R_drew)); exact (Kd.R_mono (Kd.R_far (p := ⟨gb1, 2, none⟩) (Kd.R_far (p := ⟨gb1, 1, none⟩) (Kd.R_far (p := ⟨gb1, 0, none⟩) (Kd.R_types (Kd.R_types HO0.out BK1.out (by decide)) BK2.out (by decide)) (fun _ hk => hk.1.2) (.slice Ao0 t0.length co0)) (fun _ hk => hk.1.2) (.slice Ao1 t1.length co1)) (fun _ hk => hk.1.2) (.slice Ao2 t2.length co2)) (fun _ h_ => trivial)))); (case s2 => exact (Kd.R_reads' HO0.out).2.1); rintro e w15 ⟨rfl, hb⟩; have n0_ := Aside0.mk (Kd.R_below (by (with_reducible repeat (first | apply Kd.R_alloc | apply Kd.R_drewN | apply Kd.R_drew)); exact (Kd.R_mono (Kd.R_far (p := ⟨gb1, 2, none⟩) (Kd.R_far (p := ⟨gb1, 1, none⟩) (Kd.R_far (p := ⟨gb1, 0, none⟩) (Kd.R_types (Kd.R_types HO0.out BK1.out (by decide)) BK2.out (by decide)) (fun _ hk => hk.1.2) (.slice Ao0 t0.length co0)) (fun _ hk => hk.1.2) (.slice Ao1 t1.length co1)) (fun _ hk => hk.1.2) (.slice Ao2 t2.length co2)) (ok' := fun _ => True) (fun _ h_ => trivial))) hb); have n1_ := Aside0.mk (Kd.R_below (by (with_reducible repeat (first | apply Kd.R_alloc | apply Kd.R_drewN | apply Kd.R_drew)); exact (Kd.R_mono (Kd.R_far (p := ⟨gb1, 2, none⟩) (Kd.R_far (p := ⟨gb1, 1, none⟩) (Kd.R_far (p := ⟨gb1, 0, none⟩) (Kd.R_types (Kd.R_types HO1.out BK1.out (by decide)) BK2.out (by decide)) (fun _ hk => hk.1.2) (.slice Ao0 t0.length co0)) (fun _ hk => hk.1.2) (.slice Ao1 t1.length co1)) (fun _ hk => hk.1.2) (.slice Ao2 t2.length co2)) (ok' := fun _ => True) (fun _ h_ => trivial))) hb); have n2_ := Aside0.mk (Kd.R_below (by (with_reducible repeat (first | apply Kd.R_alloc | apply Kd.R_drewN | apply Kd.R_drew)); exact (Kd.R_mono (Kd.R_far (p := ⟨gb1, 2, none⟩) (Kd.R_far (p := ⟨gb1, 1, none⟩) (Kd.R_far (p := ⟨gb1, 0, none⟩) (Kd.R_types (Kd.R_types HO2.out BK1.out (by decide)) BK2.out (by decide)) (fun _ hk => hk.1.2) (.slice Ao0 t0.length co0)) (fun _ hk => hk.1.2) (.slice Ao1 t1.length co1)) (fun _ hk => hk.1.2) (.slice Ao2 t2.length co2)) (ok' := fun _ => True) (fun _ h_ => trivial))) hb); have n3_ := Aside0.mk (blk_below (g := gb1) (o := .cells #[.slice Ao0 t0.length co0, .slice Ao1 t1.length co1, .slice Ao2 t2.length co2] 26 (0, 0)) (by (with_reducible repeat (first | refine blk_drewN ?_ _ | refine blk_drew ?_ | refine blk_alloc ?_ _)); refine blk_put (cs := #[.slice Ao0 t0.length co0, .slice Ao1 t1.length co1, .slice A0_2 l0_2.length c0_2]) ?_ 2 _ rfl; (with_reducible repeat (first | refine blk_drewN ?_ _ | refine blk_drew ?_ | refine blk_alloc ?_ _)); refine blk_put (cs := #[.slice Ao0 t0.length co0, .slice A0_1 l0_1.length c0_1, .slice A0_2 l0_2.length c0_2]) ?_ 1 _ rfl; (with_reducible repeat (first | refine blk_drewN ?_ _ | refine blk_drew ?_ | refine blk_alloc ?_ _)); refine blk_put (cs := #[.slice A0_0 l0_0.length c0_0, .slice A0_1 l0_1.length c0_1, .slice A0_2 l0_2.length c0_2]) ?_ 0 _ rfl; (with_reducible repeat (first | refine blk_drewN ?_ _ | refine blk_drew ?_ | refine blk_alloc ?_ _)); exact BK1.out) hb); have n4_ := Aside0.mk (blk_below (g := gb2) (o := .cells #[.slice none 0 0, .slice none 0 0, .slice none 0 0] 26 (0, 0)) (by (with_reducible repeat (first | refine blk_drewN ?_ _ | refine blk_drew ?_ | refine blk_alloc ?_ _)); refine blk_far ?_ NB21.out _; (with_reducible repeat (first | refine blk_drewN ?_ _ | refine blk_drew ?_ | refine blk_alloc ?_ _)); refine blk_far ?_ NB21.out _; (with_reducible repeat (first | refine blk_drewN ?_ _ | refine blk_drew ?_ | refine blk_alloc ?_ _)); refine blk_far ?_ NB21.out _; (with_reducible repeat (first | refine blk_drewN ?_ _ | refine blk_drew ?_ | refine blk_alloc ?_ _)); exact BK2.out) hb); have n5_ := Aside0.mk (below_step (by repeat (first | (with_reducible first | exact HB.out | apply below_alloc | apply pw_below_drewN | apply below_drew1 | refine below_set ?_ GE1.out | refine below_set ?_ GE2.out) | exact HB.out)) hb); clear BK1; clear BK2; clear HB; clear HO0; clear HO1; clear HO2; have HO0 := n0_; have HO1 := n1_; have HO2 := n2_; have BK1 := n3_; have BK2 := n4_; have HB := n5_; clear n0_ n1_ n2_ n3_ n4_ n5_; clear hb; have hcz17_0 : w15.cell? ⟨gb1, 0, none⟩ = some (.slice Ao0 t0.length co0) := (blk_cell BK1.out 0).trans rfl; have hcz17_1 : w15.cell? ⟨gb1, 1, none⟩ = some (.slice Ao1 t1.length co1) := (blk_cell BK1.out 1).trans rfl; have hcz17_2 : w15.cell? ⟨gb1, 2, none⟩ = some (.slice Ao2 t2.length co2) := (blk_cell BK1.out 2).trans rfl; have hfz17_0 := blk_frozen BK1.out 0; have hfz17_1 := blk_frozen BK1.out 1; have hfz17_2 := blk_frozen BK1.out 2; have hcz18_0 : w15.cell? ⟨gb2, 0, none⟩ = some (.slice none 0 0) := (blk_cell BK2.out 0).trans rfl; have hcz18_1 : w15.cell? ⟨gb2, 1, none⟩ = some (.slice none 0 0) := (blk_cell BK2.out 1).trans rfl; have hcz18_2 : w15.cell? ⟨gb2, 2, none⟩ = some (.slice none 0 0) := (blk_cell BK2.out 2).trans rfl; have hfz18_0 := blk_frozen BK2.out 0; have hfz18_1 := blk_frozen BK2.out 1; have hfz18_2 := blk_frozen BK2.out 2)))
      refine bodyPost_ret (results_cell_row rfl _ _ gb2 26 #[.slice Ao0 t0.length co0, .slice Ao1 t1.length co1, .slice Ao2 t2.length co2] (0, 0) _ rfl (by (with_reducible repeat (first | refine blk_drewN ?_ _ | refine blk_drew ?_ | refine blk_alloc ?_ _)); refine blk_put (cs := #[.slice Ao0 t0.length co0, .slice Ao1 t1.length co1, .slice none 0 0]) ?_ 2 _ rfl; (with_reducible repeat (first | refine blk_drewN ?_ _ | refine blk_drew ?_ | refine blk_alloc ?_ _)); refine blk_put (cs := #[.slice Ao0 t0.length co0, .slice none 0 0, .slice none 0 0]) ?_ 1 _ rfl; (with_reducible repeat (first | refine blk_drewN ?_ _ | refine blk_drew ?_ | refine blk_alloc ?_ _)); refine blk_put (cs := #[.slice none 0 0, .slice none 0 0, .slice none 0 0]) ?_ 0 _ rfl; (with_reducible repeat (first | refine blk_drewN ?_ _ | refine blk_drew ?_ | refine blk_alloc ?_ _)); exact BK2.out) Try.underlying26 rfl (by kernel_rfl)) rfl ?_
      exact ⟨_, _, _, rfl, by (with_reducible repeat (first | apply Kd.R_alloc | apply Kd.R_drewN | apply Kd.R_drew)); exact (Kd.R_mono (Kd.R_far (p := ⟨gb2, 2, none⟩) (Kd.R_far (p := ⟨gb2, 1, none⟩) (Kd.R_far (p := ⟨gb2, 0, none⟩) (Kd.R_types (Kd.R_types HO0.out BK1.out (by decide)) BK2.out (by decide)) (fun _ hk => hk.2) (.slice Ao0 t0.length co0)) (fun _ hk => hk.2) (.slice Ao1 t1.length co1)) (fun _ hk => hk.2) (.slice Ao2 t2.length co2)) (fun _ h_ => trivial)), by (with_reducible repeat (first | apply Kd.R_alloc | apply Kd.R_drewN | apply Kd.R_drew)); exact (Kd.R_mono (Kd.R_far (p := ⟨gb2, 2, none⟩) (Kd.R_far (p := ⟨gb2, 1, none⟩) (Kd.R_far (p := ⟨gb2, 0, none⟩) (Kd.R_types (Kd.R_types HO1.out BK1.out (by decide)) BK2.out (by decide)) (fun _ hk => hk.2) (.slice Ao0 t0.length co0)) (fun _ hk => hk.2) (.slice Ao1 t1.length co1)) (fun _ hk => hk.2) (.slice Ao2 t2.length co2)) (fun _ h_ => trivial)), by (with_reducible repeat (first | apply Kd.R_alloc | apply Kd.R_drewN | apply Kd.R_drew)); exact (Kd.R_mono (Kd.R_far (p := ⟨gb2, 2, none⟩) (Kd.R_far (p := ⟨gb2, 1, none⟩) (Kd.R_far (p := ⟨gb2, 0, none⟩) (Kd.R_types (Kd.R_types HO2.out BK1.out (by decide)) BK2.out (by decide)) (fun _ hk => hk.2) (.slice Ao0 t0.length co0)) (fun _ hk => hk.2) (.slice Ao1 t1.length co1)) (fun _ hk => hk.2) (.slice Ao2 t2.length co2)) (fun _ h_ => trivial)), by repeat (first | (with_reducible first | exact HB.out | apply below_alloc | apply pw_below_drewN | apply below_drew1 | refine below_set ?_ GE1.out | refine below_set ?_ GE2.out) | exact HB.out)⟩


/-! ### env_Get: function 12 -/
def env_Get.f (l0_0 : List (S71)) (l0_1 : List ByteArray) (l0_2 : List (S67)) (a1 : ByteArray) : Option (ByteArray × Bool) := (api_Binding_40.f l0_0 a1).bind fun bt161 => (if bt161.2 = true then (if 0 ≤ bt161.1 then (if bt161.1 < (l0_0.length : Int) then (some ((rd_T71 l0_0 bt161.1).f1, true)) else (none)) else (none)) else (some ((⟨#[]⟩ : ByteArray), false)))
set_option maxHeartbeats 8000000 in
set_option maxRecDepth 100000 in
theorem env_Get.calls (A0_0 : Option Addr) (c0_0 : Nat) (l0_0 : List (S71)) (A0_1 : Option Addr) (c0_1 : Nat) (l0_1 : List ByteArray) (A0_2 : Option Addr) (c0_2 : Nat) (l0_2 : List (S67)) (a1 : ByteArray) (r1 : ByteArray) (r2 : Bool) (w : World) (hr0_0 : Kd.C k71 w A0_0 l0_0.length l0_0) (hc0_0 : l0_0.length ≤ c0_0) (hr0_1 : Kd.C Kd.string w A0_1 l0_1.length l0_1) (hc0_1 : l0_1.length ≤ c0_1) (hr0_2 : Kd.C k67 w A0_2 l0_2.length l0_2) (hc0_2 : l0_2.length ≤ c0_2) (h : env_Get.f l0_0 l0_1 l0_2 a1 = some (r1, r2)) :
    Calls Try.prog 12 #[.agg #[.slice A0_0 l0_0.length c0_0, .slice A0_1 l0_1.length c0_1, .slice A0_2 l0_2.length c0_2], .string a1] w fun e w' => e = .returned (.tuple #[.string r1, .bool r2]) ∧ Below w.heap.size w w' := by
  have hu26 := Try.underlying26
  have HR0_0 := Aside0.mk hr0_0
  have HC0_0 := Aside0.mk hc0_0
  clear hr0_0 hc0_0
  have HR0_1 := Aside0.mk hr0_1
  have HC0_1 := Aside0.mk hc0_1
  clear hr0_1 hc0_1
  have HR0_2 := Aside0.mk hr0_2
  have HC0_2 := Aside0.mk hc0_2
  clear hr0_2 hc0_2
  have HB := Aside0.mk (Below.refl w.heap.size w)
  have H : ((api_Binding_40.f l0_0 a1).bind fun bt161 => (if bt161.2 = true then (if 0 ≤ bt161.1 then (if bt161.1 < (l0_0.length : Int) then (some ((rd_T71 l0_0 bt161.1).f1, true)) else (none)) else (none)) else (some ((⟨#[]⟩ : ByteArray), false)))) = some (r1, r2) := h
  clear h
  replace H := Option.bind_eq_some_iff.mp H
  obtain ⟨⟨t161, t162⟩, A30, H⟩ := H
  replace H : (if t162 = true then (if 0 ≤ t161 then (if t161 < (l0_0.length : Int) then (some ((rd_T71 l0_0 t161).f1, true)) else (none)) else (none)) else (some ((⟨#[]⟩ : ByteArray), false))) = some (r1, r2) := H
  have A3 := Aside0.mk A30
  clear A30
  by_cases c4 : t162 = true
  · subst c4
    have H1 : (if 0 ≤ t161 then (if t161 < (l0_0.length : Int) then (some ((rd_T71 l0_0 t161).f1, true)) else (none)) else (none)) = some (r1, r2) := by rw [if_pos rfl] at H; exact H
    clear H
    have H := H1
    clear H1
    by_cases c5 : 0 ≤ t161
    · rw [if_pos c5] at H
      have c5b0 : decide (0 ≤ t161) = true := decide_eq_true c5
      clear c5
      by_cases c6 : t161 < (l0_0.length : Int)
      · rw [if_pos c6] at H
        have c6b0 : decide (t161 < (l0_0.length : Int)) = true := decide_eq_true c6
        clear c6
        simp only [Option.some.injEq, Prod.mk.injEq] at H
        obtain ⟨rfl, rfl⟩ := H
        go_enter Try.func12, Try.ntmps12
        go_wp2_with (first | ((with_reducible refine gate_dst (N := 2) rfl ?_); refine box_event ?hg (N := 2) ?hd (cs := #[.slice A0_0 l0_0.length c0_0, .slice A0_1 l0_1.length c0_1, .slice A0_2 l0_2.length c0_2]) (t := 26) ?hr ?_; (case hd => rfl); (case hg => rfl); (case hr => first | (go_simp; done) | (go_simp; rfl)); intro gb160 hg w7 hbox hb; have n0_ := Aside0.mk (below_step (by repeat (first | (with_reducible first | exact HB.out | apply below_alloc | apply pw_below_drewN | apply below_drew1) | exact HB.out)) hb); have n1_ := Aside0.mk (hbox); have n2_ := Aside0.mk ((by rw [hg]; exact (below_size (by repeat (first | (with_reducible first | exact HB.out | apply below_alloc | apply pw_below_drewN | apply below_drew1) | exact HB.out))) : w.heap.size ≤ gb160)); have n3_ := Aside0.mk ((by rw [hg]; exact (below_size (by repeat (first | (with_reducible first | exact HB.out | apply below_alloc | apply pw_below_drewN | apply below_drew1) | exact HB.out))) : w.heap.size ≤ gb160)); clear HB; have HB := n0_; have BK160 := n1_; have GW160 := n2_; have GE160 := n3_; clear n0_ n1_ n2_ n3_; clear hb hbox hg; have hcz8_0 : w7.cell? ⟨gb160, 0, none⟩ = some (.slice A0_0 l0_0.length c0_0) := (blk_cell BK160.out 0).trans rfl; have hcz8_1 : w7.cell? ⟨gb160, 1, none⟩ = some (.slice A0_1 l0_1.length c0_1) := (blk_cell BK160.out 1).trans rfl; have hcz8_2 : w7.cell? ⟨gb160, 2, none⟩ = some (.slice A0_2 l0_2.length c0_2) := (blk_cell BK160.out 2).trans rfl; have hfz8_0 := blk_frozen BK160.out 0; have hfz8_1 := blk_frozen BK160.out 1; have hfz8_2 := blk_frozen BK160.out 2) | ((with_reducible refine gate_callee (f := 40) rfl ?_); refine goesL_ (some 12) rfl rfl Try.func40 (by kernel_rfl) rfl #[.slice A0_0 l0_0.length c0_0, .string a1, .func (.func 39) #[] #[]] rfl (by (try simp only [List.map_toArray, List.map_cons, List.map_nil]); first | done | rfl | (simp only [List.length_drop, List.length_take]; rfl)) ?_; (with_reducible refine (api_Binding_40.calls _ _ l0_0 a1  t161 true _ ?side1 ?side2 A3.out).mono ?_); (case side1 => repeat (first | (with_reducible exact HR0_0.out) | exact (Kd.C_below HR0_0.out HB.out) | (with_reducible refine Kd.C_alloc ?_ _) | (with_reducible refine Kd.C_drewN ?_ _) | (with_reducible refine Kd.C_drew ?_))); (case side2 => exact HC0_0.out); rintro e w9 ⟨rfl, hb⟩; refine ⟨_, rfl, ?_⟩; have n0_ := Aside0.mk (blk_below (g := gb160) (o := .cells #[.slice A0_0 l0_0.length c0_0, .slice A0_1 l0_1.length c0_1, .slice A0_2 l0_2.length c0_2] 26 (0, 0)) (by (with_reducible repeat (first | refine blk_drewN ?_ _ | refine blk_drew ?_ | refine blk_alloc ?_ _)); exact BK160.out) hb); have n1_ := Aside0.mk (below_step (by repeat (first | (with_reducible first | exact HB.out | apply below_alloc | apply pw_below_drewN | apply below_drew1 | refine below_set ?_ GE160.out) | exact HB.out)) hb); clear BK160; clear HB; have BK160 := n0_; have HB := n1_; clear n0_ n1_; (try clear hb); (try clear hb2); (try clear hk); (try clear hi); have hcz10_0 : w9.cell? ⟨gb160, 0, none⟩ = some (.slice A0_0 l0_0.length c0_0) := (blk_cell BK160.out 0).trans rfl; have hcz10_1 : w9.cell? ⟨gb160, 1, none⟩ = some (.slice A0_1 l0_1.length c0_1) := (blk_cell BK160.out 1).trans rfl; have hcz10_2 : w9.cell? ⟨gb160, 2, none⟩ = some (.slice A0_2 l0_2.length c0_2) := (blk_cell BK160.out 2).trans rfl; have hfz10_0 := blk_frozen BK160.out 0; have hfz10_1 := blk_frozen BK160.out 1; have hfz10_2 := blk_frozen BK160.out 2; have p163 : 0 ≤ (t161 : Int) := of_decide_eq_true (by first | (with_reducible assumption) | assumption); have q163 : t161 < (l0_0.length : Int) := of_decide_eq_true (by first | (with_reducible assumption) | assumption); obtain ⟨ad163, e163, hx163_0, hx163_1⟩ := at_T71 HR0_0.out t161 p163 q163; cases e163; replace hx163_0 := (HB.out.cell (World.block_lt_of_cell? w _ hx163_0)).trans hx163_0; replace hx163_1 := (HB.out.cell (World.block_lt_of_cell? w _ hx163_1)).trans hx163_1; replace p163 := eq_true p163; replace q163 := eq_true q163))
        go_ret2
        exact ⟨by first | rfl | (simp [errW_none, errW_some] <;> rfl) | (simp [*, errW_none, errW_some] <;> rfl), by repeat (first | (with_reducible first | exact HB.out | apply below_alloc | apply pw_below_drewN | apply below_drew1 | refine below_set ?_ GE160.out) | exact HB.out)⟩
      · rw [if_neg c6] at H
        exact absurd H (by simp)
    · rw [if_neg c5] at H
      exact absurd H (by simp)
  · replace c4 := Bool.eq_false_iff.mpr c4
    subst c4
    have H1 : (some ((⟨#[]⟩ : ByteArray), false)) = some (r1, r2) := by rw [if_neg (show ¬ (false = true) by decide)] at H; exact H
    clear H
    have H := H1
    clear H1
    simp only [Option.some.injEq, Prod.mk.injEq] at H
    obtain ⟨rfl, rfl⟩ := H
    go_enter Try.func12, Try.ntmps12
    go_wp2_with (first | ((with_reducible refine gate_dst (N := 2) rfl ?_); refine box_event ?hg (N := 2) ?hd (cs := #[.slice A0_0 l0_0.length c0_0, .slice A0_1 l0_1.length c0_1, .slice A0_2 l0_2.length c0_2]) (t := 26) ?hr ?_; (case hd => rfl); (case hg => rfl); (case hr => first | (go_simp; done) | (go_simp; rfl)); intro gb160 hg w11 hbox hb; have n0_ := Aside0.mk (below_step (by repeat (first | (with_reducible first | exact HB.out | apply below_alloc | apply pw_below_drewN | apply below_drew1) | exact HB.out)) hb); have n1_ := Aside0.mk (hbox); have n2_ := Aside0.mk ((by rw [hg]; exact (below_size (by repeat (first | (with_reducible first | exact HB.out | apply below_alloc | apply pw_below_drewN | apply below_drew1) | exact HB.out))) : w.heap.size ≤ gb160)); have n3_ := Aside0.mk ((by rw [hg]; exact (below_size (by repeat (first | (with_reducible first | exact HB.out | apply below_alloc | apply pw_below_drewN | apply below_drew1) | exact HB.out))) : w.heap.size ≤ gb160)); clear HB; have HB := n0_; have BK160 := n1_; have GW160 := n2_; have GE160 := n3_; clear n0_ n1_ n2_ n3_; clear hb hbox hg; have hcz12_0 : w11.cell? ⟨gb160, 0, none⟩ = some (.slice A0_0 l0_0.length c0_0) := (blk_cell BK160.out 0).trans rfl; have hcz12_1 : w11.cell? ⟨gb160, 1, none⟩ = some (.slice A0_1 l0_1.length c0_1) := (blk_cell BK160.out 1).trans rfl; have hcz12_2 : w11.cell? ⟨gb160, 2, none⟩ = some (.slice A0_2 l0_2.length c0_2) := (blk_cell BK160.out 2).trans rfl; have hfz12_0 := blk_frozen BK160.out 0; have hfz12_1 := blk_frozen BK160.out 1; have hfz12_2 := blk_frozen BK160.out 2) | ((with_reducible refine gate_callee (f := 40) rfl ?_); refine goesL_ (some 12) rfl rfl Try.func40 (by kernel_rfl) rfl #[.slice A0_0 l0_0.length c0_0, .string a1, .func (.func 39) #[] #[]] rfl (by (try simp only [List.map_toArray, List.map_cons, List.map_nil]); first | done | rfl | (simp only [List.length_drop, List.length_take]; rfl)) ?_; (with_reducible refine (api_Binding_40.calls _ _ l0_0 a1  t161 false _ ?side1 ?side2 A3.out).mono ?_); (case side1 => repeat (first | (with_reducible exact HR0_0.out) | exact (Kd.C_below HR0_0.out HB.out) | (with_reducible refine Kd.C_alloc ?_ _) | (with_reducible refine Kd.C_drewN ?_ _) | (with_reducible refine Kd.C_drew ?_))); (case side2 => exact HC0_0.out); rintro e w13 ⟨rfl, hb⟩; refine ⟨_, rfl, ?_⟩; have n0_ := Aside0.mk (blk_below (g := gb160) (o := .cells #[.slice A0_0 l0_0.length c0_0, .slice A0_1 l0_1.length c0_1, .slice A0_2 l0_2.length c0_2] 26 (0, 0)) (by (with_reducible repeat (first | refine blk_drewN ?_ _ | refine blk_drew ?_ | refine blk_alloc ?_ _)); exact BK160.out) hb); have n1_ := Aside0.mk (below_step (by repeat (first | (with_reducible first | exact HB.out | apply below_alloc | apply pw_below_drewN | apply below_drew1 | refine below_set ?_ GE160.out) | exact HB.out)) hb); clear BK160; clear HB; have BK160 := n0_; have HB := n1_; clear n0_ n1_; (try clear hb); (try clear hb2); (try clear hk); (try clear hi)))
    go_ret2
    exact ⟨by first | rfl | (simp [errW_none, errW_some] <;> rfl) | (simp [*, errW_none, errW_some] <;> rfl), by repeat (first | (with_reducible first | exact HB.out | apply below_alloc | apply pw_below_drewN | apply below_drew1 | refine below_set ?_ GE160.out) | exact HB.out)⟩

end Go.Proofs.Ytekebjkcolhcoaa.QEnvOwn
