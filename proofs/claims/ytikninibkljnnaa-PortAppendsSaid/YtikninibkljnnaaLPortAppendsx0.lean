/- The contract of the law PortAppends, by hand. -/
import Derived.Test.YtikninibkljnnaaPort2
import Derived.Test.YtikninibkljnnaaPortR
import Derived.RangeFuncNested
import Derived.StillTail
import Derived.Deep.RegionHeld
import Derived.StillTailTactics
namespace Go.Proofs.Ytikninibkljnnaa.LPortAppends
open Go.RowKit Go.Proofs.Ytikninibkljnnaa.QPortAppends Go.Proofs.Ytikninibkljnnaa.Hnd Go.Proofs.YtikninibkljnnaaW.PrintWords Go.Proofs.YtikninibkljnnaaW.PrintLast  Go
set_option linter.unusedVariables false
set_option linter.unusedSimpArgs false
attribute [local go_sem] Oper.semAt_some
def lazaruslaw18_PortAppends.f (_ : ByteArray) (_ : List ByteArray) : Option Bool := some true
theorem rg_take {P : Program} {ops : Array Oper} {Q : Exit → Act → World → Prop} {md : Region.Mode} {S : World → Prop} {i : Nat} {dst : Option Nat} {v : Value} {fuel : Nat} {listed : Array Bool} {a : Act} {w : World} (hd : (ops[i]?).map Oper.dst = some dst)
    (hs : Region.noSelect ops = true) (hf : Region.free md ops listed i = true) (hr : (Region.ready md ops listed).contains i = true)
    (hQ : ∀ c a w, Q (.panic c) (a.put dst v) w → Q (.panic c) a w) (hw : (ops[i]?).map (fun o => Region.wanted o (yielded ops a.tmps)) = some true)
    (hy : ∀ o, ops[i]? = some o → ∀ w, S w → (execOp a.eval o).run P w = .ok (.value v) w) (hS : S w)
    (h : wpAnyH P md ops Q S fuel (listed.setIfInBounds i true) (a.put dst v) w) : wpAnyH P md ops Q S (fuel + 1) listed a w := by
  obtain ⟨o, ho⟩ : ∃ o, ops[i]? = some o := by
    cases hh : ops[i]? with
    | none => rw [hh] at hd; cases hd
    | some o => exact ⟨o, rfl⟩
  rw [ho] at hd hw
  cases hd
  exact wpAnyH_take ho hs hf hr hQ (Or.inl ⟨Option.some.inj hw, hy o ho⟩) hS h
theorem str_row {w : World} {A : Option Addr} {l : List ByteArray} (h : Kd.string.C w A l.length l) (k : Nat) (hk : k < l.length) : ∃ ad, A = some ad ∧ ∀ W, Below w.heap.size w W → W.cell? (ad.add k) = some (.string (l.getD k ⟨#[]⟩)) := by
  obtain ⟨ad, c, e, hl, hK, hc0⟩ := Kd.C_get h (⟨#[]⟩ : ByteArray) (k : Int) (by omega) (by omega)
  rw [Int.toNat_natCast] at hK hc0
  obtain rfl : c = [.string (l.getD k ⟨#[]⟩)] := hK
  have h0 : w.cell? (ad.add (k * 1 + 0)) = some (.string (l.getD k ⟨#[]⟩)) := hc0 0 _ rfl
  rw [Nat.mul_one, Nat.add_zero] at h0
  exact ⟨ad, e, fun W hB => (hB.cell (World.block_lt_of_cell? w _ h0)).trans h0⟩
theorem rput_c (w : World) (d : ByteArray) (hd : d.size ≤ 4000) : Calls Try.prog 6 #[.slice none 0 0, .string ⟨#[102]⟩, .string d] w fun e w' => ∃ (A : Option Addr) (c : Nat), e = .returned (.tuple #[.slice A 1 c, .int .i64 0]) ∧ Kd.R k55 55 w' w.heap.size (fun _ => True) (.slice A 1 c) [⟨⟨#[102]⟩, d⟩] ∧ Below w.heap.size w w' := by
  obtain ⟨k, hk⟩ := (refput_ev [] ⟨#[102]⟩ d (by decide) (by simp) trivial).rounds
  rw [if_pos nameF, if_neg (by omega), if_neg (by simp [has])] at hk
  refine (lazarusref17_Put.calls k none 0 [] ⟨#[102]⟩ d [⟨⟨#[102]⟩, d⟩] 0 w (Kd.C_nil _ _) (Nat.le_refl _) hk).mono ?_
  rintro e w1 ⟨v, e1, hR, hB⟩
  obtain ⟨A, c, rfl⟩ := Kd.R_slice hR
  exact ⟨A, c, e1, hR, hB⟩
theorem rget_c {w : World} {A : Option Addr} {c : Nat} {n v : ByteArray} (hC : [(⟨n, v⟩ : S55)].length ≤ c ∧ k55.C w A [(⟨n, v⟩ : S55)].length [⟨n, v⟩]) : Calls Try.prog 9 #[.slice A 1 c, .string n] w fun e w' => e = .returned (.tuple #[.string v, .bool true]) ∧ Below w.heap.size w w' := by
  obtain ⟨k, hk⟩ := (refget_ev [⟨n, v⟩] n (by simp) (one_srt n v)).rounds
  rw [if_pos (one_has n v), one_cnt] at hk
  exact (lazarusref17_Get.calls k A c [⟨n, v⟩] n v true w hC.2 hC.1 hk).mono fun e w' h => ⟨h.1, h.2.below⟩
theorem app_w (n cur x : ByteArray) (hn : nameOk n = true) (hm : cur.size + x.size ≤ 4000) : file_Write.f [⟨n, cur⟩] n (cur.size : Int) x = some ([⟨n, cur ++ x⟩], 0) := by
  have h1 := over_short cur.data.toList x.data.toList cur.size (by rw [← Lib.size_eq]; omega) cur.data.toList (by rw [← Lib.size_eq]; simp)
  have h2 : cur.data.toList.take cur.size = cur.data.toList := List.take_of_length_le (by rw [← Lib.size_eq]; exact Nat.le_refl _)
  rw [h2] at h1
  rw [write_one n cur cur.size x hn hm (by omega), h1]
  have h3 : (⟨(cur.data.toList ++ x.data.toList).toArray⟩ : ByteArray) = cur ++ x := by
    apply ba_ext
    rw [app_data]
  rw [h3]
theorem app_len (a b : ByteArray) : ((a ++ b).size : Int) = (a.size : Int) + (b.size : Int) := by rw [ByteArray.size_append]; omega
set_option maxHeartbeats 8000000 in
set_option maxRecDepth 100000 in
theorem app_core (a0 : ByteArray) (A1 : Option Addr) (c1 : Nat) (l1 : List ByteArray) (w : World) (hr1 : Kd.C Kd.string w A1 l1.length l1) (hc1 : l1.length ≤ c1) :
    Calls Try.prog 3 #[.string a0, .slice A1 l1.length c1] w fun e w' => e = .returned (.bool true) ∧ Below w.heap.size w w' := by
  have HR := Aside0.mk hr1
  have HC := Aside0.mk hc1
  clear hr1 hc1
  go_enter Try.func3, Try.ntmps3
  by_cases hA : a0.size ≤ 200
  case neg =>
    have p1 : decide ((a0.size : Int) > 200) = true := decide_eq_true (by omega)
    have p2 : decide ((200 : Int) < (a0.size : Int)) = true := decide_eq_true (by omega)
    have p3 : decide (200 < a0.size) = true := decide_eq_true (by omega)
    clear hA
    go_wp2
    go_ret
    exact ⟨rfl, Below.refl _ _⟩
  have p1 : decide ((a0.size : Int) > 200) = false := decide_eq_false (by omega)
  have p2 : decide ((200 : Int) < (a0.size : Int)) = false := decide_eq_false (by omega)
  have p3 : decide (200 < a0.size) = false := decide_eq_false (by omega)
  by_cases hB : l1.length ≤ 20
  case neg =>
    have q1 : decide ((l1.length : Int) > 20) = true := decide_eq_true (by omega)
    have q2 : decide ((20 : Int) < (l1.length : Int)) = true := decide_eq_true (by omega)
    have q3 : decide (20 < l1.length) = true := decide_eq_true (by omega)
    clear hA hB
    go_wp2
    go_ret
    exact ⟨rfl, Below.refl _ _⟩
  have q1 : decide ((l1.length : Int) > 20) = false := decide_eq_false (by omega)
  have q2 : decide ((20 : Int) < (l1.length : Int)) = false := decide_eq_false (by omega)
  have q3 : decide (20 < l1.length) = false := decide_eq_false (by omega)
  have H20 := Aside0.mk hB
  have HA := Aside0.mk hA
  clear hA hB
  go_wp2_with (first | ((with_reducible refine gate_store (t := 38) (p := 7) rfl ?_); refine store_all (g := w2.heap.size) (vs := [.slice none 0 0, .slice none 0 0, .slice none 0 0, .slice A0 1 c0, .int .i64 0, .string ⟨#[]⟩, .string ⟨#[]⟩, .int .i64 0, .int .i64 1, .string ⟨#[102]⟩, .int .i64 (a0.size : Int), .string ⟨#[]⟩, .slice none 0 0, .int .i64 0, .int .i64 0, .bool false, .bool false, .int .i64 0, .slice none 0 0, .slice none 0 0, .string ⟨#[]⟩]) rfl rfl rfl ?hp ?hv HE2.out ?hz ?ht ?h1 ?_; (case hp => first | rfl | (go_simp; done)); (case hv => first | rfl | (go_simp; done)); (case hz => rfl); (case ht => kernel_rfl); (case h1 => rfl); intro v0 hW; have HN0 : Aside0 (v0.heap[w2.heap.size]? = some (.cells #[.slice none 0 0, .slice none 0 0, .slice none 0 0, .slice A0 1 c0, .int .i64 0, .string ⟨#[]⟩, .string ⟨#[]⟩, .int .i64 0, .int .i64 1, .string ⟨#[102]⟩, .int .i64 (a0.size : Int), .string ⟨#[]⟩, .slice none 0 0, .int .i64 0, .int .i64 0, .bool false, .bool false, .int .i64 0, .slice none 0 0, .slice none 0 0, .string ⟨#[]⟩] 38 (0, 0))) := ⟨by rw [hW]; exact setCells_all HE2.out rfl⟩; have HR0 : Aside0 (Kd.R k55 55 v0 w.heap.size (fun _ => True) (.slice A0 1 c0) [⟨⟨#[102]⟩, a0⟩]) := ⟨by rw [hW]; exact R_setCells (by decide) _ _ _ _ HE2.out (Kd.R_below (Kd.R_below HF.out T2.out) D2.out)⟩; have HB0 : Aside0 (Below b0.heap.size b0 v0) := ⟨by rw [hW]; exact (T2.out.trans (D2.out.mono T2.out.size)).trans (Go.Proofs.Ytikninibkljnnaa.Hnd.below_setCells T2.out.size _ _ _)⟩; clear hW) | (go_at_call 7; refine (oapp_c (n2 := ⟨#[102]⟩) (rc HF.out rfl) (get_one _ _)).mono ?_; rintro e w2 ⟨rfl, hB⟩; have T2 := Aside0.mk hB; have D2 := Aside0.mk (below_alloc (Below.refl w2.heap.size w2) (.cells #[.slice none 0 0, .slice none 0 0, .slice none 0 0, .slice none 0 0, .int .i64 0, .string ⟨#[]⟩, .string ⟨#[]⟩, .int .i64 0, .int .i64 0, .string ⟨#[]⟩, .int .i64 0, .string ⟨#[]⟩, .slice none 0 0, .int .i64 0, .int .i64 0, .bool false, .bool false, .int .i64 0, .slice none 0 0, .slice none 0 0, .string ⟨#[]⟩] 38)); have HE2 := Aside0.mk (blk_new w2 (.cells #[.slice none 0 0, .slice none 0 0, .slice none 0 0, .slice none 0 0, .int .i64 0, .string ⟨#[]⟩, .string ⟨#[]⟩, .int .i64 0, .int .i64 0, .string ⟨#[]⟩, .int .i64 0, .string ⟨#[]⟩, .slice none 0 0, .int .i64 0, .int .i64 0, .bool false, .bool false, .int .i64 0, .slice none 0 0, .slice none 0 0, .string ⟨#[]⟩] 38)); clear hB) | (go_at_call 6; refine (rput_c _ a0 (by have := HA.out; omega)).mono ?_; rintro e b0 ⟨A0, c0, rfl, hR, hB⟩; have HF := Aside0.mk hR; have HW0 := Aside0.mk hB; clear hR hB))
  clear p1 p2 p3 q1 q2 q3
  obtain ⟨q5, hq5⟩ : ∃ q5, w2.heap.size = q5 := ⟨_, rfl⟩
  have HQ5 : Aside0 (b0.heap.size ≤ q5) := ⟨by rw [← hq5]; exact T2.out.size⟩
  rw [hq5] at HN0 ⊢
  clear hq5 HE2 D2
  go_loopw [9, 10] (fun u6 u7 wr => ∃ (k : Nat) (cur : ByteArray) (A2 : Option Addr) (c2 : Nat), u6 = .string cur ∧ u7 = .int .i64 (k : Int) ∧ Aside0 (k ≤ l1.length) ∧ Aside0 (cur.size ≤ 200 + 100 * k) ∧ Aside0 (wr.heap[q5]? = some (.cells #[.slice none 0 0, .slice none 0 0, .slice none 0 0, .slice A2 1 c2, .int .i64 0, .string ⟨#[]⟩, .string ⟨#[]⟩, .int .i64 0, .int .i64 1, .string ⟨#[102]⟩, .int .i64 (cur.size : Int), .string ⟨#[]⟩, .slice none 0 0, .int .i64 0, .int .i64 0, .bool false, .bool false, .int .i64 0, .slice none 0 0, .slice none 0 0, .string ⟨#[]⟩] 38 (0, 0))) ∧ Aside0 (Kd.R k55 55 wr w.heap.size (fun _ => True) (.slice A2 1 c2) [⟨⟨#[102]⟩, cur⟩]) ∧ Aside0 (Below b0.heap.size b0 wr)) (fun _ u7 _ => l1.length + 1 - (intOf u7).toNat)
  case atStart => exact ⟨0, a0, A0, c0, rfl, rfl, ⟨Nat.zero_le _⟩, ⟨by have := HA.out; omega⟩, HN0, HR0, HB0⟩
  case round =>
    obtain ⟨k, cur, A2, c2, rfl, rfl, HK, HP, HN, HRW, HB⟩ := hrel
    have hk := HK.out
    have h20 := H20.out
    have hp0 : (0 : Int) ≤ (k : Int) := by omega
    have hp1 : (k : Int) ≤ 20 := by omega
    by_cases hlt : k < l1.length
    · have dl : decide ((k : Int) < (l1.length : Int)) = true := decide_eq_true (by omega)
      have dl' : decide (k < l1.length) = true := decide_eq_true hlt
      have hp2 : (k : Int) < (l1.length : Int) := by omega
      obtain ⟨ad, e0, hx⟩ := str_row (Kd.C_below HR.out HW0.out) k hlt
      subst e0
      obtain ⟨x, hxq⟩ : ∃ x, l1.getD k ⟨#[]⟩ = x := ⟨_, rfl⟩
      rw [hxq] at hx
      have HX := Aside0.mk hx
      have HLT := Aside0.mk hlt
      have x0 := hx _ HB.out
      clear hxq hx hlt hk h20
      by_cases hX : x.size ≤ 100
      case neg =>
        have s1 : decide ((x.size : Int) > 100) = true := decide_eq_true (by omega)
        have s2 : decide ((100 : Int) < (x.size : Int)) = true := decide_eq_true (by omega)
        have s3 : decide (100 < x.size) = true := decide_eq_true (by omega)
        clear hX
        go_wp2
        go_ret
        exact ⟨rfl, HW0.out.trans (HB.out.mono HW0.out.size)⟩
      have s1 : decide ((x.size : Int) > 100) = false := decide_eq_false (by omega)
      have s2 : decide ((100 : Int) < (x.size : Int)) = false := decide_eq_false (by omega)
      have s3 : decide (100 < x.size) = false := decide_eq_false (by omega)
      have HXS := Aside0.mk hX
      clear hX
      go_upto_region 13 with (fail)
      clear s1 s2 s3 dl dl' x0
      have HSS : Aside0 (∀ W', Below wr.heap.size wr W' → (fun W' => W'.heap[q5]? = some (.cells #[.slice none 0 0, .slice none 0 0, .slice none 0 0, .slice A2 1 c2, .int .i64 0, .string ⟨#[]⟩, .string ⟨#[]⟩, .int .i64 0, .int .i64 1, .string ⟨#[102]⟩, .int .i64 (cur.size : Int), .string ⟨#[]⟩, .slice none 0 0, .int .i64 0, .int .i64 0, .bool false, .bool false, .int .i64 0, .slice none 0 0, .slice none 0 0, .string ⟨#[]⟩] 38 (0, 0)) ∧ W'.cell? (ad.add k) = some (.string x)) W') := ⟨fun W' hB => ⟨blk_below HN.out hB, HX.out _ (HB.out.trans (hB.mono HB.out.size))⟩⟩
      have HD := Aside0.mk (below_drew1 (Below.refl wr.heap.size wr))
      have hS0 := HSS.out _ HD.out
      refine wp_region_held_drew (S := (fun W' => W'.heap[q5]? = some (.cells #[.slice none 0 0, .slice none 0 0, .slice none 0 0, .slice A2 1 c2, .int .i64 0, .string ⟨#[]⟩, .string ⟨#[]⟩, .int .i64 0, .int .i64 1, .string ⟨#[102]⟩, .int .i64 (cur.size : Int), .string ⟨#[]⟩, .slice none 0 0, .int .i64 0, .int .i64 0, .bool false, .bool false, .int .i64 0, .slice none 0 0, .slice none 0 0, .string ⟨#[]⟩] 38 (0, 0)) ∧ W'.cell? (ad.add k) = some (.string x))) (by kernel_rfl) hS0 (fun hHeld => ?_)
      clear hHeld
      refine rg_take (i := 0) (dst := some 52) (v := ?_) (by kernel_rfl) (by kernel_rfl) (by kernel_rfl) (by kernel_rfl) (fun _ _ _ h => h) (by rfl) ?_ (by assumption) ?_
      rotate_left
      · intro o ho w' hSw
        cases ho
        refine load_whole (ty := 38) (p := 7) ?_ ?_ hSw.1 Try.underlying38 rfl (by kernel_rfl) <;> rfl
      simp only [Act.put, List.setIfInBounds_toArray, List.set_cons_zero, List.set_cons_succ]
      refine rg_take (i := 1) (dst := some 53) (v := ?_) (by kernel_rfl) (by kernel_rfl) (by kernel_rfl) (by kernel_rfl) (fun _ _ _ h => h) (by rfl) ?_ (by assumption) ?_
      rotate_left
      · intro o ho w' hSw
        cases ho
        have hSc := hSw.2
        clear hSw
        go_simp
        first | done | with_reducible rfl
      simp only [Act.put, List.setIfInBounds_toArray, List.set_cons_zero, List.set_cons_succ]
      refine rg_take (i := 2) (dst := some 54) (v := ?_) (by kernel_rfl) (by kernel_rfl) (by kernel_rfl) (by kernel_rfl) (fun _ _ _ h => h) (by rfl) ?_ (by assumption) ?_
      rotate_left
      · intro o ho w' hSw
        cases ho
        have hSc := hSw.2
        clear hSw
        go_simp
        first | done | with_reducible rfl
      simp only [Act.put, List.setIfInBounds_toArray, List.set_cons_zero, List.set_cons_succ]
      refine rg_take (i := 3) (dst := some 55) (v := ?_) (by kernel_rfl) (by kernel_rfl) (by kernel_rfl) (by kernel_rfl) (fun _ _ _ h => h) (by rfl) ?_ (by assumption) ?_
      rotate_left
      · intro o ho w' hSw
        cases ho
        have hSc := hSw.2
        clear hSw
        go_simp
        first | done | with_reducible rfl
      simp only [Act.put, List.setIfInBounds_toArray, List.set_cons_zero, List.set_cons_succ]
      refine rg_take (i := 4) (dst := some 56) (v := ?_) (by kernel_rfl) (by kernel_rfl) (by kernel_rfl) (by kernel_rfl) (fun _ _ _ h => h) (by rfl) ?_ (by assumption) ?_
      rotate_left
      · intro o ho w' hSw
        cases ho
        have hSc := hSw.2
        clear hSw
        go_simp
        first | done | with_reducible rfl
      simp only [Act.put, List.setIfInBounds_toArray, List.set_cons_zero, List.set_cons_succ]
      have HPX : Aside0 (cur.size + x.size ≤ 4000) := ⟨by have := HP.out; have := HXS.out; have := HLT.out; have := H20.out; omega⟩
      refine wpAnyH_ready (rs := [5, 9]) (by kernel_rfl) (by simp) ?_
      refine AllReadyH.cons rfl (fun K hK => ?_) (AllReadyH.cons rfl (fun K hK => ?_) AllReadyH.nil)
      · skip
        clear hS0
        go_simp
        go_wp2_with (go_at_call 8; refine (wfile_c (nm := ⟨#[102]⟩) (rc (Kd.R_below HRW.out HD.out) rfl) (get_one _ _) (app_w _ _ x nameF HPX.out) (Int.natCast_nonneg _) (app_len cur x).symm (by have := HPX.out; rw [ByteArray.size_append]; omega)).mono ?_; rintro e w3 ⟨A4, c4, rfl, hR, hB⟩; have D3 := Aside0.mk (HD.out.trans (hB.mono HD.out.size)); have HR4 := Aside0.mk (Kd.R_lower hR (Nat.le_trans HW0.out.size (Nat.le_trans HB.out.size HD.out.size))); clear hR hB)
        refine hK.out _ _ (HSS.out _ D3.out) (fun hHeld => ?_)
        clear hK K hHeld
        have hS0 := HSS.out _ D3.out
        refine rg_take (i := 6) (dst := some 51) (v := ?_) (by kernel_rfl) (by kernel_rfl) (by kernel_rfl) (by kernel_rfl) (fun _ _ _ h => h) (by rfl) ?_ (by assumption) ?_
        rotate_left
        · intro o ho w' hSw
          cases ho
          have hSc := hSw.2
          clear hSw
          go_simp
          first | done | with_reducible rfl
        simp only [Act.put, List.setIfInBounds_toArray, List.set_cons_zero, List.set_cons_succ]
        refine rg_take (i := 7) (dst := some 58) (v := ?_) (by kernel_rfl) (by kernel_rfl) (by kernel_rfl) (by kernel_rfl) (fun _ _ _ h => h) (by rfl) ?_ (by assumption) ?_
        rotate_left
        · intro o ho w' hSw
          cases ho
          have hSc := hSw.2
          clear hSw
          go_simp
          first | done | with_reducible rfl
        simp only [Act.put, List.setIfInBounds_toArray, List.set_cons_zero, List.set_cons_succ]
        refine rg_take (i := 8) (dst := some 59) (v := ?_) (by kernel_rfl) (by kernel_rfl) (by kernel_rfl) (by kernel_rfl) (fun _ _ _ h => h) (by rfl) ?_ (by assumption) ?_
        rotate_left
        · intro o ho w' hSw
          cases ho
          have hSc := hSw.2
          clear hSw
          go_simp
          first | done | with_reducible rfl
        simp only [Act.put, List.setIfInBounds_toArray, List.set_cons_zero, List.set_cons_succ]
        refine wpAnyH_ready (rs := [9]) (by kernel_rfl) (by simp) ?_
        refine AllReadyH.cons rfl (fun K hK => ?_) AllReadyH.nil
        clear hS0
        have DA4 := Aside0.mk (below_alloc (Below.refl w3.heap.size w3) (.cells #[.slice none 0 0, .slice none 0 0, .slice none 0 0, .slice none 0 0, .int .i64 0, .string ⟨#[]⟩, .string ⟨#[]⟩, .int .i64 0, .int .i64 0, .string ⟨#[]⟩, .int .i64 0, .string ⟨#[]⟩, .slice none 0 0, .int .i64 0, .int .i64 0, .bool false, .bool false, .int .i64 0, .slice none 0 0, .slice none 0 0, .string ⟨#[]⟩] 38))
        have D4 := Aside0.mk (D3.out.trans ((below_alloc (Below.refl w3.heap.size w3) (.cells #[.slice none 0 0, .slice none 0 0, .slice none 0 0, .slice none 0 0, .int .i64 0, .string ⟨#[]⟩, .string ⟨#[]⟩, .int .i64 0, .int .i64 0, .string ⟨#[]⟩, .int .i64 0, .string ⟨#[]⟩, .slice none 0 0, .int .i64 0, .int .i64 0, .bool false, .bool false, .int .i64 0, .slice none 0 0, .slice none 0 0, .string ⟨#[]⟩] 38)).mono D3.out.size))
        have HE4 : Aside0 ((w3.alloc (.cells #[.slice none 0 0, .slice none 0 0, .slice none 0 0, .slice none 0 0, .int .i64 0, .string ⟨#[]⟩, .string ⟨#[]⟩, .int .i64 0, .int .i64 0, .string ⟨#[]⟩, .int .i64 0, .string ⟨#[]⟩, .slice none 0 0, .int .i64 0, .int .i64 0, .bool false, .bool false, .int .i64 0, .slice none 0 0, .slice none 0 0, .string ⟨#[]⟩] 38)).heap[w3.heap.size]? = some (.cells #[.slice none 0 0, .slice none 0 0, .slice none 0 0, .slice none 0 0, .int .i64 0, .string ⟨#[]⟩, .string ⟨#[]⟩, .int .i64 0, .int .i64 0, .string ⟨#[]⟩, .int .i64 0, .string ⟨#[]⟩, .slice none 0 0, .int .i64 0, .int .i64 0, .bool false, .bool false, .int .i64 0, .slice none 0 0, .slice none 0 0, .string ⟨#[]⟩] 38 (0, 0))) := ⟨blk_new w3 _⟩
        go_simp
        (try go_wp2)
        refine hK.out _ _ (HSS.out _ D4.out) (fun hHeld => ?_)
        clear hK K hHeld
        have hS0 := HSS.out _ D4.out
        refine wpAnyH_ready (rs := [10]) (by kernel_rfl) (by simp) ?_
        refine AllReadyH.cons rfl (fun K hK => ?_) AllReadyH.nil
        clear hS0
        have hle : wr.heap.size ≤ w3.heap.size := D3.out.size
        refine store_step (g := w3.heap.size) (vs := [.slice none 0 0, .slice none 0 0, .slice none 0 0, .slice A4 1 c4, .int .i64 0, .string ⟨#[]⟩, .string ⟨#[]⟩, .int .i64 0, .int .i64 1, .string ⟨#[102]⟩, .int .i64 ((cur ++ x).size : Int), .string ⟨#[]⟩, .slice none 0 0, .int .i64 0, .int .i64 0, .bool false, .bool false, .int .i64 0, .slice none 0 0, .slice none 0 0, .string ⟨#[]⟩]) rfl rfl rfl ?hp ?hv HE4.out ?hz ?ht ?h1 ?_
        case hp => first | rfl | (go_simp; done)
        case hv => first | rfl | (go_simp; done)
        case hz => rfl
        case ht => kernel_rfl
        case h1 => rfl
        intro v8 hW
        have HN8 : Aside0 (v8.heap[w3.heap.size]? = some (.cells #[.slice none 0 0, .slice none 0 0, .slice none 0 0, .slice A4 1 c4, .int .i64 0, .string ⟨#[]⟩, .string ⟨#[]⟩, .int .i64 0, .int .i64 1, .string ⟨#[102]⟩, .int .i64 ((cur ++ x).size : Int), .string ⟨#[]⟩, .slice none 0 0, .int .i64 0, .int .i64 0, .bool false, .bool false, .int .i64 0, .slice none 0 0, .slice none 0 0, .string ⟨#[]⟩] 38 (0, 0))) := ⟨by rw [hW]; exact setCells_all HE4.out rfl⟩
        have D8 : Aside0 (Below wr.heap.size wr v8) := ⟨by rw [hW]; exact D4.out.trans (Go.Proofs.Ytikninibkljnnaa.Hnd.below_setCells hle _ _ _)⟩
        have HR8 : Aside0 (Kd.R k55 55 v8 w.heap.size (fun _ => True) (.slice A4 1 c4) [⟨⟨#[102]⟩, (cur ++ x)⟩]) := ⟨by rw [hW]; exact R_setCells (by decide) _ _ _ _ HE4.out (Kd.R_below HR4.out DA4.out)⟩
        clear hW hle
        refine hK.out _ _ (HSS.out _ D8.out) (fun hHeld => ?_)
        clear hK K hHeld
        have hS0 := HSS.out _ D8.out
        refine rg_take (i := 11) (dst := some 12) (v := ?_) (by kernel_rfl) (by kernel_rfl) (by kernel_rfl) (by kernel_rfl) (fun _ _ _ h => h) (by rfl) ?_ (by assumption) ?_
        rotate_left
        · intro o ho w' hSw
          cases ho
          have hSc := hSw.2
          clear hSw
          go_simp
          first | done | with_reducible rfl
        simp only [Act.put, List.setIfInBounds_toArray, List.set_cons_zero, List.set_cons_succ]
        refine wpAnyH_done (by kernel_rfl) ?_ _
        clear hS0
        obtain ⟨q8, hq8⟩ : ∃ q8, w3.heap.size = q8 := ⟨_, rfl⟩
        rw [hq8] at HN8 ⊢
        clear hq8
        have x0 := (HSS.out _ D8.out).2
        have H5 := Aside0.mk (HSS.out _ D8.out).1
        have ysz : cur.size + x.size ≤ 9223372036854775807 := by have := HPX.out; omega
        have ysz2 : ¬ (9223372036854775807 < cur.size + x.size) := by omega
        go_wp2_with (first | ((with_reducible refine gate_store (t := 38) (p := 7) rfl ?_); refine store_all (g := q5) (vs := [.slice none 0 0, .slice none 0 0, .slice none 0 0, .slice A4 1 c4, .int .i64 0, .string ⟨#[]⟩, .string ⟨#[]⟩, .int .i64 0, .int .i64 1, .string ⟨#[102]⟩, .int .i64 ((cur ++ x).size : Int), .string ⟨#[]⟩, .slice none 0 0, .int .i64 0, .int .i64 0, .bool false, .bool false, .int .i64 0, .slice none 0 0, .slice none 0 0, .string ⟨#[]⟩]) rfl rfl rfl ?hp ?hv H5.out ?hz ?ht ?h1 ?_; (case hp => first | rfl | (go_simp; done)); (case hv => first | rfl | (go_simp; done)); (case hz => rfl); (case ht => kernel_rfl); (case h1 => rfl); intro v9 hW; have HN9 : Aside0 (v9.heap[q5]? = some (.cells #[.slice none 0 0, .slice none 0 0, .slice none 0 0, .slice A4 1 c4, .int .i64 0, .string ⟨#[]⟩, .string ⟨#[]⟩, .int .i64 0, .int .i64 1, .string ⟨#[102]⟩, .int .i64 ((cur ++ x).size : Int), .string ⟨#[]⟩, .slice none 0 0, .int .i64 0, .int .i64 0, .bool false, .bool false, .int .i64 0, .slice none 0 0, .slice none 0 0, .string ⟨#[]⟩] 38 (0, 0))) := ⟨by rw [hW]; exact setCells_all H5.out rfl⟩; have HB9 : Aside0 (Below b0.heap.size b0 v9) := ⟨by rw [hW]; exact (HB.out.trans (D8.out.mono HB.out.size)).trans (Go.Proofs.Ytikninibkljnnaa.Hnd.below_setCells HQ5.out _ _ _)⟩; have HR9 : Aside0 (Kd.R k55 55 v9 w.heap.size (fun _ => True) (.slice A4 1 c4) [⟨⟨#[102]⟩, (cur ++ x)⟩]) := ⟨by rw [hW]; exact R_setCells (by decide) _ _ _ _ H5.out HR8.out⟩; have x9 := HX.out _ HB9.out; clear hW) | ((with_reducible refine gate_dst (N := 62) rfl ?_); refine load_event (p := 11) (ty := 38) rfl rfl rfl ?hp HN8.out Try.underlying38 rfl (by kernel_rfl) ?_; (case hp => first | rfl | (go_simp; done))))
        exact ⟨⟨k + 1, _, A4, c4, rfl, by go_num, ⟨HLT.out⟩, ⟨by have := HP.out; have := HXS.out; rw [ByteArray.size_append]; omega⟩, HN9, HR9, HB9⟩, by have := HLT.out; simp [intOf]; omega⟩
      · skip
        clear hS0
        have DA4 := Aside0.mk (below_alloc (Below.refl wr.drew.heap.size wr.drew) (.cells #[.slice none 0 0, .slice none 0 0, .slice none 0 0, .slice none 0 0, .int .i64 0, .string ⟨#[]⟩, .string ⟨#[]⟩, .int .i64 0, .int .i64 0, .string ⟨#[]⟩, .int .i64 0, .string ⟨#[]⟩, .slice none 0 0, .int .i64 0, .int .i64 0, .bool false, .bool false, .int .i64 0, .slice none 0 0, .slice none 0 0, .string ⟨#[]⟩] 38))
        have D4 := Aside0.mk (HD.out.trans ((below_alloc (Below.refl wr.drew.heap.size wr.drew) (.cells #[.slice none 0 0, .slice none 0 0, .slice none 0 0, .slice none 0 0, .int .i64 0, .string ⟨#[]⟩, .string ⟨#[]⟩, .int .i64 0, .int .i64 0, .string ⟨#[]⟩, .int .i64 0, .string ⟨#[]⟩, .slice none 0 0, .int .i64 0, .int .i64 0, .bool false, .bool false, .int .i64 0, .slice none 0 0, .slice none 0 0, .string ⟨#[]⟩] 38)).mono HD.out.size))
        have HE4 : Aside0 ((wr.drew.alloc (.cells #[.slice none 0 0, .slice none 0 0, .slice none 0 0, .slice none 0 0, .int .i64 0, .string ⟨#[]⟩, .string ⟨#[]⟩, .int .i64 0, .int .i64 0, .string ⟨#[]⟩, .int .i64 0, .string ⟨#[]⟩, .slice none 0 0, .int .i64 0, .int .i64 0, .bool false, .bool false, .int .i64 0, .slice none 0 0, .slice none 0 0, .string ⟨#[]⟩] 38)).heap[wr.heap.size]? = some (.cells #[.slice none 0 0, .slice none 0 0, .slice none 0 0, .slice none 0 0, .int .i64 0, .string ⟨#[]⟩, .string ⟨#[]⟩, .int .i64 0, .int .i64 0, .string ⟨#[]⟩, .int .i64 0, .string ⟨#[]⟩, .slice none 0 0, .int .i64 0, .int .i64 0, .bool false, .bool false, .int .i64 0, .slice none 0 0, .slice none 0 0, .string ⟨#[]⟩] 38 (0, 0))) := ⟨blk_new wr.drew _⟩
        go_simp
        (try go_wp2)
        refine hK.out _ _ (HSS.out _ D4.out) (fun hHeld => ?_)
        clear hK K hHeld
        have hS0 := HSS.out _ D4.out
        refine wpAnyH_ready (rs := [5]) (by kernel_rfl) (by simp) ?_
        refine AllReadyH.cons rfl (fun K hK => ?_) AllReadyH.nil
        have hle0 := Aside0.mk HD.out.size
        clear hS0
        go_simp
        go_wp2_with (go_at_call 8; refine (wfile_c (nm := ⟨#[102]⟩) (rc (Kd.R_below HRW.out D4.out) rfl) (get_one _ _) (app_w _ _ x nameF HPX.out) (Int.natCast_nonneg _) (app_len cur x).symm (by have := HPX.out; rw [ByteArray.size_append]; omega)).mono ?_; rintro e w3 ⟨A4, c4, rfl, hR, hB⟩; have D3b := Aside0.mk hB; have D3 := Aside0.mk (D4.out.trans (hB.mono D4.out.size)); have HR4 := Aside0.mk (Kd.R_lower hR (Nat.le_trans HW0.out.size (Nat.le_trans HB.out.size D4.out.size))); clear hR hB)
        refine hK.out _ _ (HSS.out _ D3.out) (fun hHeld => ?_)
        clear hK K hHeld
        have hS0 := HSS.out _ D3.out
        have HE5 : Aside0 (w3.heap[wr.heap.size]? = some (.cells #[.slice none 0 0, .slice none 0 0, .slice none 0 0, .slice none 0 0, .int .i64 0, .string ⟨#[]⟩, .string ⟨#[]⟩, .int .i64 0, .int .i64 0, .string ⟨#[]⟩, .int .i64 0, .string ⟨#[]⟩, .slice none 0 0, .int .i64 0, .int .i64 0, .bool false, .bool false, .int .i64 0, .slice none 0 0, .slice none 0 0, .string ⟨#[]⟩] 38 (0, 0))) := ⟨blk_below HE4.out D3b.out⟩
        refine rg_take (i := 6) (dst := some 51) (v := ?_) (by kernel_rfl) (by kernel_rfl) (by kernel_rfl) (by kernel_rfl) (fun _ _ _ h => h) (by rfl) ?_ (by assumption) ?_
        rotate_left
        · intro o ho w' hSw
          cases ho
          have hSc := hSw.2
          clear hSw
          go_simp
          first | done | with_reducible rfl
        simp only [Act.put, List.setIfInBounds_toArray, List.set_cons_zero, List.set_cons_succ]
        refine rg_take (i := 7) (dst := some 58) (v := ?_) (by kernel_rfl) (by kernel_rfl) (by kernel_rfl) (by kernel_rfl) (fun _ _ _ h => h) (by rfl) ?_ (by assumption) ?_
        rotate_left
        · intro o ho w' hSw
          cases ho
          have hSc := hSw.2
          clear hSw
          go_simp
          first | done | with_reducible rfl
        simp only [Act.put, List.setIfInBounds_toArray, List.set_cons_zero, List.set_cons_succ]
        refine rg_take (i := 8) (dst := some 59) (v := ?_) (by kernel_rfl) (by kernel_rfl) (by kernel_rfl) (by kernel_rfl) (fun _ _ _ h => h) (by rfl) ?_ (by assumption) ?_
        rotate_left
        · intro o ho w' hSw
          cases ho
          have hSc := hSw.2
          clear hSw
          go_simp
          first | done | with_reducible rfl
        simp only [Act.put, List.setIfInBounds_toArray, List.set_cons_zero, List.set_cons_succ]
        refine wpAnyH_ready (rs := [10]) (by kernel_rfl) (by simp) ?_
        refine AllReadyH.cons rfl (fun K hK => ?_) AllReadyH.nil
        clear hS0
        have hle : wr.heap.size ≤ wr.heap.size := hle0.out
        refine store_step (g := wr.heap.size) (vs := [.slice none 0 0, .slice none 0 0, .slice none 0 0, .slice A4 1 c4, .int .i64 0, .string ⟨#[]⟩, .string ⟨#[]⟩, .int .i64 0, .int .i64 1, .string ⟨#[102]⟩, .int .i64 ((cur ++ x).size : Int), .string ⟨#[]⟩, .slice none 0 0, .int .i64 0, .int .i64 0, .bool false, .bool false, .int .i64 0, .slice none 0 0, .slice none 0 0, .string ⟨#[]⟩]) rfl rfl rfl ?hp ?hv HE5.out ?hz ?ht ?h1 ?_
        case hp => first | rfl | (go_simp; done)
        case hv => first | rfl | (go_simp; done)
        case hz => rfl
        case ht => kernel_rfl
        case h1 => rfl
        intro v8 hW
        have HN8 : Aside0 (v8.heap[wr.heap.size]? = some (.cells #[.slice none 0 0, .slice none 0 0, .slice none 0 0, .slice A4 1 c4, .int .i64 0, .string ⟨#[]⟩, .string ⟨#[]⟩, .int .i64 0, .int .i64 1, .string ⟨#[102]⟩, .int .i64 ((cur ++ x).size : Int), .string ⟨#[]⟩, .slice none 0 0, .int .i64 0, .int .i64 0, .bool false, .bool false, .int .i64 0, .slice none 0 0, .slice none 0 0, .string ⟨#[]⟩] 38 (0, 0))) := ⟨by rw [hW]; exact setCells_all HE5.out rfl⟩
        have D8 : Aside0 (Below wr.heap.size wr v8) := ⟨by rw [hW]; exact D3.out.trans (Go.Proofs.Ytikninibkljnnaa.Hnd.below_setCells hle _ _ _)⟩
        have HR8 : Aside0 (Kd.R k55 55 v8 w.heap.size (fun _ => True) (.slice A4 1 c4) [⟨⟨#[102]⟩, (cur ++ x)⟩]) := ⟨by rw [hW]; exact R_setCells (by decide) _ _ _ _ HE5.out HR4.out⟩
        clear hW hle
        refine hK.out _ _ (HSS.out _ D8.out) (fun hHeld => ?_)
        clear hK K hHeld
        have hS0 := HSS.out _ D8.out
        refine rg_take (i := 11) (dst := some 12) (v := ?_) (by kernel_rfl) (by kernel_rfl) (by kernel_rfl) (by kernel_rfl) (fun _ _ _ h => h) (by rfl) ?_ (by assumption) ?_
        rotate_left
        · intro o ho w' hSw
          cases ho
          have hSc := hSw.2
          clear hSw
          go_simp
          first | done | with_reducible rfl
        simp only [Act.put, List.setIfInBounds_toArray, List.set_cons_zero, List.set_cons_succ]
        refine wpAnyH_done (by kernel_rfl) ?_ _
        clear hS0
        obtain ⟨q8, hq8⟩ : ∃ q8, wr.heap.size = q8 := ⟨_, rfl⟩
        rw [hq8] at HN8 ⊢
        clear hq8
        have x0 := (HSS.out _ D8.out).2
        have H5 := Aside0.mk (HSS.out _ D8.out).1
        have ysz : cur.size + x.size ≤ 9223372036854775807 := by have := HPX.out; omega
        have ysz2 : ¬ (9223372036854775807 < cur.size + x.size) := by omega
        go_wp2_with (first | ((with_reducible refine gate_store (t := 38) (p := 7) rfl ?_); refine store_all (g := q5) (vs := [.slice none 0 0, .slice none 0 0, .slice none 0 0, .slice A4 1 c4, .int .i64 0, .string ⟨#[]⟩, .string ⟨#[]⟩, .int .i64 0, .int .i64 1, .string ⟨#[102]⟩, .int .i64 ((cur ++ x).size : Int), .string ⟨#[]⟩, .slice none 0 0, .int .i64 0, .int .i64 0, .bool false, .bool false, .int .i64 0, .slice none 0 0, .slice none 0 0, .string ⟨#[]⟩]) rfl rfl rfl ?hp ?hv H5.out ?hz ?ht ?h1 ?_; (case hp => first | rfl | (go_simp; done)); (case hv => first | rfl | (go_simp; done)); (case hz => rfl); (case ht => kernel_rfl); (case h1 => rfl); intro v9 hW; have HN9 : Aside0 (v9.heap[q5]? = some (.cells #[.slice none 0 0, .slice none 0 0, .slice none 0 0, .slice A4 1 c4, .int .i64 0, .string ⟨#[]⟩, .string ⟨#[]⟩, .int .i64 0, .int .i64 1, .string ⟨#[102]⟩, .int .i64 ((cur ++ x).size : Int), .string ⟨#[]⟩, .slice none 0 0, .int .i64 0, .int .i64 0, .bool false, .bool false, .int .i64 0, .slice none 0 0, .slice none 0 0, .string ⟨#[]⟩] 38 (0, 0))) := ⟨by rw [hW]; exact setCells_all H5.out rfl⟩; have HB9 : Aside0 (Below b0.heap.size b0 v9) := ⟨by rw [hW]; exact (HB.out.trans (D8.out.mono HB.out.size)).trans (Go.Proofs.Ytikninibkljnnaa.Hnd.below_setCells HQ5.out _ _ _)⟩; have HR9 : Aside0 (Kd.R k55 55 v9 w.heap.size (fun _ => True) (.slice A4 1 c4) [⟨⟨#[102]⟩, (cur ++ x)⟩]) := ⟨by rw [hW]; exact R_setCells (by decide) _ _ _ _ H5.out HR8.out⟩; have x9 := HX.out _ HB9.out; clear hW) | ((with_reducible refine gate_dst (N := 62) rfl ?_); refine load_event (p := 11) (ty := 38) rfl rfl rfl ?hp HN8.out Try.underlying38 rfl (by kernel_rfl) ?_; (case hp => first | rfl | (go_simp; done))))
        exact ⟨⟨k + 1, _, A4, c4, rfl, by go_num, ⟨HLT.out⟩, ⟨by have := HP.out; have := HXS.out; rw [ByteArray.size_append]; omega⟩, HN9, HR9, HB9⟩, by have := HLT.out; simp [intOf]; omega⟩
    · obtain rfl : k = l1.length := by omega
      have dl : decide ((l1.length : Int) < (l1.length : Int)) = false := decide_eq_false (by omega)
      have dl' : decide (l1.length < l1.length) = false := decide_eq_false (by omega)
      have z3 : wr.cell? ⟨q5, 3, none⟩ = some (.slice A2 1 c2) := (blk_cell HN.out 3).trans rfl
      have y1 : (cur.toList == cur.toList) = true := by simp
      have y2 : (a0.toList == a0.toList) = true := by simp
      clear hlt hk h20
      go_wp2_with (first | (go_at_call 10; refine (known18_c _).mono ?_; rintro e w9 ⟨rfl, hB⟩; have T9 := Aside0.mk (T8.out.trans (hB.mono T8.out.size)); clear hB) | (go_at_call 9; refine (rget_c (cc (rc HF.out rfl) T7.out)).mono ?_; rintro e w8 ⟨rfl, hB⟩; have T8 := Aside0.mk (T7.out.trans (hB.mono T7.out.size)); clear hB) | (go_at_call 9; refine (rget_c (rc HRW.out rfl)).mono ?_; rintro e w7 ⟨rfl, hB⟩; have T7 := Aside0.mk (HB.out.trans (hB.mono HB.out.size)); clear hB))
      go_ret
      exact ⟨rfl, HW0.out.trans (T9.out.mono HW0.out.size)⟩
theorem lazaruslaw18_PortAppends.calls (a0 : ByteArray) (A1 : Option Addr) (c1 : Nat) (l1 : List ByteArray) (r : Bool) (w : World) (hr1 : Kd.C Kd.string w A1 l1.length l1) (hc1 : l1.length ≤ c1) (h : lazaruslaw18_PortAppends.f a0 l1 = some r) :
    Calls Try.prog 3 #[.string a0, .slice A1 l1.length c1] w fun e w' => e = .returned (.bool r) ∧ Below w.heap.size w w' := by
  obtain rfl : true = r := Option.some.inj h
  exact app_core a0 A1 c1 l1 w hr1 hc1
end Go.Proofs.Ytikninibkljnnaa.LPortAppends
