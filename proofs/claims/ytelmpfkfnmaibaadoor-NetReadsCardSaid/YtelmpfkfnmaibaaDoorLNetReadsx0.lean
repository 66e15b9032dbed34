/- The contract of the law NetReads, by hand. -/
import Derived.Test.YtelmpfkfnmaibaaDoorNet9
import Derived.RangeFuncNested
import Derived.RangeFuncBound
import Derived.RangeFuncCalls
import Derived.RangeFuncLeaves
import Derived.RangeFuncBox
import Derived.Shelf.Abstract
import Derived.Shelf.RegionOpen
import Derived.OwnWalkIn
import Derived.TacticsInMore
import Derived.LoopNIn
import Derived.LoopIn
namespace Go.Proofs.YtelmpfkfnmaibaaDoor.LNetReads
open Go.RowKit Go.Proofs.YtelmpfkfnmaibaaDoor.QNetReads Go.Proofs.YtelmpfkfnmaibaaDoor.Hnd Go.Proofs.YtelmpfkfnmaibaaDoorW.PrintWords Go.Proofs.YtelmpfkfnmaibaaDoorW.PrintLast  Go.Shelf
set_option linter.unusedVariables false
set_option linter.unusedSimpArgs false
attribute [local go_sem] Oper.semAt_some
structure S42 where
  f0 : Bool
def k42 : Kd S42 := Kd.iso Kd.bool (fun x : S42 => x.f0)
def actAt (xs : List S42) (k : Nat) : Bool := (xs.getD k ⟨false⟩).f0
theorem act_at {w : World} {A : Option Addr} {n : Nat} {xs : List S42} (h : Kd.C k42 w A n xs) (k : Nat) (hk : k < n) : ∃ ad, A = some ad ∧ ad.block < w.heap.size ∧ w.cell? (ad.add k) = some (.bool (actAt xs k)) := by
  have hlt : ∀ ad, A = some ad → ad.block < w.heap.size := fun ad e => by subst e; exact Kd.C_lt h (by omega) (by decide)
  obtain ⟨ad, e, hc⟩ := h.2.2 (by omega)
  have hl : k < xs.length := by rw [h.1]; exact hk
  obtain ⟨cs, h1, h2, h3⟩ := hc k _ (List.getElem?_eq_getElem hl)
  have h4 := h3 0 (.bool xs[k].f0) (by rw [show cs = [.bool xs[k].f0] from h2]; rfl)
  rw [Nat.add_zero, show (k42).sz = 1 from rfl, Nat.mul_one] at h4
  refine ⟨ad, e, hlt ad e, ?_⟩
  rw [h4]
  unfold actAt
  rw [List.getD_eq_getElem?_getD, List.getElem?_eq_getElem hl]
  rfl
def isB (l : List Int) : Bool := l.all fun x => decide (0 ≤ x ∧ x < 256)
theorem isB_bytes {l : List Int} (h : isB l = true) : NBytes l := fun x hx => of_decide_eq_true (List.all_eq_true.1 h x hx)
theorem isB_of {l : List Int} (h : ∀ x ∈ l, (Lit.int .u8 x).wf = true) : isB l = true := List.all_eq_true.2 fun x hx => by
  have h1 := h x hx
  simp [Lit.wf, IntKind.min, IntKind.max, IntKind.signed, IntKind.bits] at h1
  exact decide_eq_true (by omega)
def lazaruslaw1_NetReads.f (l0 : List Int) (l1 : List S42) : Option Bool := if isB l0 = true then some true else none
set_option maxHeartbeats 8000000 in
set_option maxRecDepth 100000 in
theorem reads_core (A0 : Option Addr) (c0 : Nat) (l0 : List Int) (A1 : Option Addr) (c1 : Nat) (l1 : List S42) (w : World) (hr0 : (Kd.int .u8).C w A0 l0.length l0) (hc0 : l0.length ≤ c0) (hr1 : Kd.C k42 w A1 l1.length l1) (hb : NBytes l0) (h0 : l0.length ≤ 200) (h1 : l1.length ≤ 50) (hT : NTabs w) :
    Calls Tryd.prog 6 #[.slice A0 l0.length c0, .slice A1 l1.length c1] w fun e w' => e = .returned (.bool true) ∧ Below w.heap.size w w' := by
  have d0 : decide ((l0.length : Int) > 200) = false := decide_eq_false (by omega)
  have d0' : decide ((200 : Int) < (l0.length : Int)) = false := decide_eq_false (by omega)
  have d0'' : decide (200 < l0.length) = false := decide_eq_false (by omega)
  have d1 : decide ((l1.length : Int) > 50) = false := decide_eq_false (by omega)
  have d1' : decide ((50 : Int) < (l1.length : Int)) = false := decide_eq_false (by omega)
  have d1'' : decide (50 < l1.length) = false := decide_eq_false (by omega)
  have HR0 := Aside0.mk hr0
  have HC0 := Aside0.mk hc0
  have HR1 := Aside0.mk hr1
  have HBY := Aside0.mk hb
  have HL0 := Aside0.mk h0
  have HL1 := Aside0.mk h1
  have HT := Aside0.mk hT
  have HB := Aside0.mk (Below.refl w.heap.size w)
  clear hr0 hc0 hr1 hb h0 h1 hT
  go_enter Tryd.func6, Tryd.ntmps6
  go_upto_region 3 with (fail)
  go_wp2_with (first
    | (go_at_call 9; refine (new_c C5.out L5.out HBY.out (by have := HL0.out; omega)).mono ?_; rintro e w6 ⟨g, rfl, hg, hN, hB6⟩; have N6 := Aside0.mk hN; have G6 := Aside0.mk (Nat.le_trans B5.out.size hg); have B6 := Aside0.mk (B5.out.trans (hB6.mono B5.out.size)); clear hg hN hB6)
    | ((with_reducible refine gate_dst (N := 24) rfl ?_); refine Kd.R_lit (Kd.int .u8) _ 5 ?hg (N := 24) ?hd (xs := ([] : List Int)) (inner := []) (ok := fun _ => True) (okp := fun _ => True) ?hr ?hp (fun _ hk => hk) trivial (Below.refl _ _) (Nat.le_refl _) (by simp) ?_; (case hd => rfl); (case hg => rfl); (case hr => first | (go_simp; done) | (go_simp; rfl)); (case hp => exact (Reps.none _ _)); intro v3 w3 ho4 hb hg_ hnew_; clear hg_ hnew_; have R3 := Aside0.mk (Kd.R_lower ho4 HB.out.size); have B3 := Aside0.mk (HB.out.trans hb); clear hb ho4)
    | ((with_reducible refine gate_builtin (b := .append) (xs := #[.tmp 24, .tmp 25]) rfl ?_); at_builtin; refine Kd.R_append_rows (Kd.int .u8) (w0 := w) w.heap.size rfl (.tmp 24) (.tmp 25) 23 5 (.int .u8 0) 1 rfl Tryd.underlying23 info5 rfl (by decide) (by omega) v3 ([] : List Int) l0 _ _ _ (fun _ => True) (fun _ => False) rfl rfl ?aO ?aR (fun _ _ h => h) (fun _ h => h.elim) (fun _ _ => trivial) B3.out B3.out.size ?aL ?_; (case aR => exact (Kd.C_below HR0.out B3.out)); (case aO => exact R3.out); (case aL => have := HL0.out; simp; omega); intro v5 w5 ho hb hg hat; (obtain ⟨A5, c5, rfl, hl5, hC5, hp5, hm5⟩ := R_plain ho); have C5 : Aside0 ((Kd.int .u8).C w5 A5 l0.length l0) := ⟨hC5⟩; have L5 : Aside0 (l0.length ≤ c5) := ⟨hl5⟩; have B5 := Aside0.mk hb; clear ho hb hg hat hl5 hC5 hp5 hm5))
  have hxb := below_alloc (Below.refl w6.heap.size w6) (.cells #[.slice A0 l0.length c0] 40)
  have HN0 : Aside0 (NR 47 True (w6.alloc (.cells #[.slice A0 l0.length c0] 40)) [w6.heap.size, g] g l0) := ⟨N6.out.more (ys := [w6.heap.size]) hxb (fun y hy => by rw [List.mem_singleton.1 hy]; exact Nat.le_refl _)⟩
  have HX0 : Aside0 (NR 40 False (w6.alloc (.cells #[.slice A0 l0.length c0] 40)) [w6.heap.size, g] w6.heap.size l0) := ⟨A0, c0, blk_new w6 _, List.mem_cons_self, HC0.out, Kd.C_below HR0.out (B6.out.trans (hxb.mono B6.out.size)), HBY.out, fun h => h.elim, fun ad e hp => by
    subst e
    have h1 := Kd.C_lt HR0.out hp (by decide)
    refine ⟨fun hm => ?_, Nat.lt_of_lt_of_le h1 (B6.out.trans (hxb.mono B6.out.size)).size⟩
    rcases List.mem_cons.1 hm with e | e
    · have := B6.out.size
      omega
    · have h2 := List.mem_singleton.1 e
      have := G6.out
      omega⟩
  have HB0 : Aside0 (Below w.heap.size w (w6.alloc (.cells #[.slice A0 l0.length c0] 40))) := ⟨B6.out.trans (hxb.mono B6.out.size)⟩
  have NE : Aside0 (g ≠ w6.heap.size) := ⟨fun e => by have := N6.out.lt; omega⟩
  have GX : Aside0 (w.heap.size ≤ w6.heap.size) := ⟨B6.out.size⟩
  have GG := G6
  clear hxb R3 B3 C5 L5 B5 N6
  go_loopw [7] (fun u7 wr => ∃ (k : Nat) (b : List Int), u7 = .int .i64 (k : Int) ∧ Aside0 (k ≤ l1.length) ∧ Aside0 (NR 47 True wr [w6.heap.size, g] g b) ∧ Aside0 (NR 40 False wr [w6.heap.size, g] w6.heap.size b) ∧ Aside0 (b.length ≤ 200) ∧ Aside0 (Below w.heap.size w wr)) (fun u7 _ => l1.length + 1 - (intOf u7).toNat)
  case atStart => exact ⟨0, l0, rfl, ⟨Nat.zero_le _⟩, HN0, HX0, HL0, HB0⟩
  case round =>
    obtain ⟨k, b, rfl, HK, HM, HX, HLB, HB'⟩ := hrel
    by_cases hlt : k < l1.length
    · have hd : decide ((k : Int) < (l1.length : Int)) = true := decide_eq_true (by omega)
      have hd2 : decide (k < l1.length) = true := decide_eq_true hlt
      obtain ⟨ad, e1, hlb, y0⟩ := act_at HR1.out k hlt
      subst e1
      have x0 := (HB'.out.cell (p := ad.add k) (by rw [add_block]; exact hlb)).trans y0
      have hp0 : (0 : Int) ≤ (k : Int) := by omega
      have hp1 : (k : Int) < (l1.length : Int) := by omega
      have HKK : Aside0 ((k : Int) + 1 ≤ 9223372036854775807) := ⟨by have := HL1.out; omega⟩
      have HLT := Aside0.mk hlt
      obtain ⟨t, ht⟩ : ∃ t, actAt l1 k = t := ⟨_, rfl⟩
      rw [ht] at x0
      clear hlt hlb y0 ht
      cases t with
      | true =>
        obtain ⟨ss, kk, ok, hq⟩ : ∃ ss kk ok, tT b = (ss, kk, ok) := ⟨_, _, _, rfl⟩
        obtain ⟨str, hstr⟩ : ∃ str, strOfNums ss = str := ⟨_, rfl⟩
        have HSTR := Aside0.mk hstr
        clear hstr
        have HQ := Aside0.mk hq
        clear hq
        go_upto_region 16 with (first
          | (go_at_call 17; refine (refrtext_c X2.out (by have := HLB.out; omega)).mono ?_; rw [HQ.out]; unfold RTPost; dsimp only; rw [HSTR.out]; rintro e w3 ⟨rfl, hN, hK⟩; have X3 := Aside0.mk hN; have K3 := Aside0.mk hK; (have M3 := Aside0.mk (M2.out.other hK (List.mem_cons_self) NE.out)); have B3 := Aside0.mk (hK.below B2.out B2.out.size (fun j hj => by rw [hj]; exact GX.out)); clear hN hK)
          | (go_at_call 10; refine (rtext_c HM.out (HT.out.on HB'.out) (by have := HLB.out; omega)).mono ?_; rw [HQ.out]; unfold TextPost; dsimp only; rw [HSTR.out]; rintro e w2 ⟨rfl, hN, hK⟩; have M2 := Aside0.mk hN; (have X2 := Aside0.mk (HX.out.other hK (List.mem_cons_of_mem _ List.mem_cons_self) NE.out.symm)); have B2 := Aside0.mk (hK.below HB'.out HB'.out.size (fun j hj => by rw [hj]; exact GG.out)); clear hN hK))
        have hlen : (b.drop kk).length ≤ 200 := by rw [List.length_drop]; have := HLB.out; omega
        have HLN := Aside0.mk hlen
        obtain ⟨A9, c9, h9, -⟩ := X3.out
        have z9 : w3.cell? ⟨w6.heap.size, 0, none⟩ = some (.slice A9 (b.drop kk).length c9) := (blk_cell h9 0).trans rfl
        have Z9 := Aside0.mk z9
        clear hlen h9 z9
        go_region_held (fun w' => w'.cell? ⟨w6.heap.size, 0, none⟩ = some (.slice A9 (b.drop kk).length c9)) (exact Z9.out) (first | (go_at_call 11; refine (left_c (M3.out.after (below_drew1 (Below.refl _ _)))).mono ?_; rintro e w8 ⟨rfl, rfl⟩))
        have hkk := HKK.out
        go_wp2
        all_goals exact ⟨⟨k + 1, b.drop kk, by go_num, ⟨by have := HLT.out; omega⟩, ⟨M3.out.after (below_drew1 (Below.refl _ _))⟩, ⟨X3.out.after (below_drew1 (Below.refl _ _))⟩, HLN, ⟨B3.out.trans ((below_drew1 (Below.refl _ _)).mono B3.out.size)⟩⟩, by have := HLT.out; simp [intOf]; omega⟩
      | false =>
        obtain ⟨nn, kk, ok, hq⟩ : ∃ nn kk ok, tk b = (nn, kk, ok) := ⟨_, _, _, rfl⟩
        have HQ := Aside0.mk hq
        clear hq
        go_upto_region 16 with (first
          | (go_at_call 18; refine (refrnum_c X2.out).mono ?_; rw [HQ.out]; unfold RNPost; dsimp only; rintro e w3 ⟨rfl, hN, hK⟩; have X3 := Aside0.mk hN; have K3 := Aside0.mk hK; (have M3 := Aside0.mk (M2.out.other hK (List.mem_cons_self) NE.out)); have B3 := Aside0.mk (hK.below B2.out B2.out.size (fun j hj => by rw [hj]; exact GX.out)); clear hN hK)
          | (go_at_call 15; refine (rnum_c HM.out (HT.out.on HB'.out) (by have := HLB.out; omega)).mono ?_; rw [HQ.out]; dsimp only; rintro e w2 ⟨rfl, hN, hK⟩; have M2 := Aside0.mk hN; (have X2 := Aside0.mk (HX.out.other hK (List.mem_cons_of_mem _ List.mem_cons_self) NE.out.symm)); have B2 := Aside0.mk (hK.below HB'.out HB'.out.size (fun j hj => by rw [hj]; exact GG.out)); clear hN hK))
        have hlen : (b.drop kk).length ≤ 200 := by rw [List.length_drop]; have := HLB.out; omega
        have HLN := Aside0.mk hlen
        obtain ⟨A9, c9, h9, -⟩ := X3.out
        have z9 : w3.cell? ⟨w6.heap.size, 0, none⟩ = some (.slice A9 (b.drop kk).length c9) := (blk_cell h9 0).trans rfl
        have Z9 := Aside0.mk z9
        clear hlen h9 z9
        go_region_held (fun w' => w'.cell? ⟨w6.heap.size, 0, none⟩ = some (.slice A9 (b.drop kk).length c9)) (exact Z9.out) (first | (go_at_call 11; refine (left_c (M3.out.after (below_drew1 (Below.refl _ _)))).mono ?_; rintro e w8 ⟨rfl, rfl⟩))
        have hkk := HKK.out
        go_wp2
        all_goals exact ⟨⟨k + 1, b.drop kk, by go_num, ⟨by have := HLT.out; omega⟩, ⟨M3.out.after (below_drew1 (Below.refl _ _))⟩, ⟨X3.out.after (below_drew1 (Below.refl _ _))⟩, HLN, ⟨B3.out.trans ((below_drew1 (Below.refl _ _)).mono B3.out.size)⟩⟩, by have := HLT.out; simp [intOf]; omega⟩
    · obtain rfl : k = l1.length := by have := HK.out; omega
      have hd : decide ((l1.length : Int) < (l1.length : Int)) = false := decide_eq_false (by omega)
      have hd2 : decide (l1.length < l1.length) = false := decide_eq_false (by omega)
      clear hlt
      go_wp2_with (go_at_call 12; refine (known1_any _ (HT.out.on HB'.out)).mono ?_; rintro e w9 ⟨rfl, hB⟩; have B9 := Aside0.mk (HB'.out.trans (hB.mono HB'.out.size)); clear hB)
      go_ret
      exact ⟨rfl, B9.out⟩
theorem lazaruslaw1_NetReads.calls (A0 : Option Addr) (c0 : Nat) (l0 : List Int) (A1 : Option Addr) (c1 : Nat) (l1 : List S42) (r : Bool) (w : World) (hr0 : (Kd.int .u8).C w A0 l0.length l0) (hc0 : l0.length ≤ c0) (hr1 : Kd.C k42 w A1 l1.length l1) (hc1 : l1.length ≤ c1) (h : lazaruslaw1_NetReads.f l0 l1 = some r) (hT : NTabs w) :
    Calls Tryd.prog 6 #[.slice A0 l0.length c0, .slice A1 l1.length c1] w fun e w' => e = .returned (.bool r) ∧ Below w.heap.size w w' := by
  unfold lazaruslaw1_NetReads.f at h
  by_cases hB : isB l0 = true
  · rw [if_pos hB] at h
    obtain rfl : true = r := Option.some.inj h
    clear h
    by_cases h0 : l0.length ≤ 200
    · by_cases h1 : l1.length ≤ 50
      · exact reads_core A0 c0 l0 A1 c1 l1 w hr0 hc0 hr1 (isB_bytes hB) h0 h1 hT
      · have d0 : decide ((l0.length : Int) > 200) = false := decide_eq_false (by omega)
        have d0' : decide ((200 : Int) < (l0.length : Int)) = false := decide_eq_false (by omega)
        have d0'' : decide (200 < l0.length) = false := decide_eq_false (by omega)
        have d1 : decide ((l1.length : Int) > 50) = true := decide_eq_true (by omega)
        have d1' : decide ((50 : Int) < (l1.length : Int)) = true := decide_eq_true (by omega)
        have d1'' : decide (50 < l1.length) = true := decide_eq_true (by omega)
        clear hB h0 h1 hr0 hc0 hr1 hc1 hT
        go_enter Tryd.func6, Tryd.ntmps6
        go_wp2
        go_ret
        exact ⟨rfl, Below.refl _ _⟩
    · have d0 : decide ((l0.length : Int) > 200) = true := decide_eq_true (by omega)
      have d0' : decide ((200 : Int) < (l0.length : Int)) = true := decide_eq_true (by omega)
      have d0'' : decide (200 < l0.length) = true := decide_eq_true (by omega)
      clear hB h0 hr0 hc0 hr1 hc1 hT
      go_enter Tryd.func6, Tryd.ntmps6
      go_wp2
      go_ret
      exact ⟨rfl, Below.refl _ _⟩
  · rw [if_neg hB] at h
    cases h
end Go.Proofs.YtelmpfkfnmaibaaDoor.LNetReads
