/- The contract of the law MarkGens, by hand. -/
import Derived.Test.YtkicekddkgehoaaDoorMkD
import Derived.RangeFuncNested
import Derived.RangeFuncBound
import Derived.RangeFuncCalls
import Derived.RangeFuncLeaves
import Derived.RangeFuncBox
import Derived.Shelf.Abstract
import Derived.Shelf.RegionOpen
import Derived.OwnWalkIn
import Derived.TacticsInMore
import Derived.LoopNIn
import Derived.LoopIn
import Derived.Shelf.Strconv.AppendIntPublic10
import Derived.Shelf.Strconv.ErrVarParseInt
import Derived.Shelf.Bytes.IndexByte
import Derived.Lib.ItoaLen
import Derived.Lib.ParseIntBTie
import Derived.Lib.AtoiBound
import Derived.Deep.Upon
import Derived.Deep.Upon
namespace Go.Proofs.YtkicekddkgehoaaDoor.LMarkGens
open Go.RowKit Go.Proofs.YtkicekddkgehoaaDoor.QMarkRow Go.Proofs.YtkicekddkgehoaaDoor.Hnd Go.Proofs.YtkicekddkgehoaaDoorW.PrintWords Go.Proofs.YtkicekddkgehoaaDoorW.PrintLast Go.Proofs.YtkicekddkgehoaaDoorW.Dk Go.Shelf
set_option linter.unusedVariables false
set_option linter.unusedSimpArgs false
open Go.Proofs.YtkicekddkgehoaaDoor.Dsk hiding R_plain conv_str cell_of_heap C_blk
open Go.Proofs.YtkicekddkgehoaaDoor.Mrk
attribute [local go_sem] Oper.semAt_some
def ansB (st : Int) : Bool := decide (-9223372036854775808 ≤ st ∧ st < 9223372036854775808)
theorem ansB_of {x : Int} (h : (Lit.int .i64 x).wf = true) : ansB x = true := by
  simp [Lit.wf, IntKind.min, IntKind.max, IntKind.signed, IntKind.bits] at h
  exact decide_eq_true (by omega)
theorem ansB_rng {x : Int} (h : ansB x = true) : NT.Rng x := by
  have h1 : -9223372036854775808 ≤ x ∧ x < 9223372036854775808 := of_decide_eq_true h
  exact ⟨by omega, by omega⟩
def ansL (l : List S23) : Bool := l.all fun x => ansB x.f0
theorem ansL_of {l : List S23} (h : ∀ x ∈ l, (Lit.int .i64 x.f0).wf = true ∧ x.f1.size ≤ 140737488351232) : ansL l = true := List.all_eq_true.2 fun x hx => ansB_of (h x hx).1
theorem rngZ : NT.Rng 0 := ⟨by omega, by omega⟩
theorem ansL_rng {l : List S23} (h : ansL l = true) (k : Nat) : NT.Rng (l.getD k z23).f0 := by
  by_cases hk : k < l.length
  · rw [List.getD_eq_getElem?_getD, List.getElem?_eq_getElem hk]
    exact ansB_rng (List.all_eq_true.1 h _ (List.getElem_mem hk))
  · rw [List.getD_eq_getElem?_getD, List.getElem?_eq_none (by omega)]
    exact rngZ
def mkL (gen : Int) : Nat → List S23 → List S25
  | _, [] => []
  | i, x :: l => mkA gen i x :: mkL gen (i + 1) l
theorem mkL_snoc (gen : Int) : ∀ (l : List S23) (i : Nat) (x : S23), mkL gen i (l ++ [x]) = mkL gen i l ++ [mkA gen (i + l.length) x]
  | [], i, x => rfl
  | y :: l, i, x => by
    rw [List.cons_append, mkL, mkL, mkL_snoc gen l, List.cons_append, List.length_cons, show i + 1 + l.length = i + (l.length + 1) by omega]
theorem mkL_len (gen : Int) : ∀ (l : List S23) (i : Nat), (mkL gen i l).length = l.length
  | [], i => rfl
  | y :: l, i => by rw [mkL, List.length_cons, List.length_cons, mkL_len gen l]
theorem take_snoc (l : List S23) (k : Nat) (hk : k < l.length) : l.take (k + 1) = l.take k ++ [l.getD k z23] := by
  rw [List.take_add_one, List.getElem?_eq_getElem hk, List.getD_eq_getElem?_getD, List.getElem?_eq_getElem hk]
  rfl
theorem mkL_take (gen : Int) (l : List S23) (i k : Nat) (hk : k < l.length) : mkL gen i (l.take (k + 1)) = mkL gen i (l.take k) ++ [mkA gen (i + k) (l.getD k z23)] := by
  rw [take_snoc l k hk, mkL_snoc, List.length_take, Nat.min_eq_left (by omega)]
theorem mkL_mem (gen : Int) : ∀ (l : List S23) (i : Nat) (m : S25), m ∈ mkL gen i l → ∃ (j : Nat) (x : S23), x ∈ l ∧ m = mkA gen j x ∧ j < i + l.length
  | [], i, m, h => by cases h
  | y :: l, i, m, h => by
    rcases List.mem_cons.1 h with h | h
    · exact ⟨i, y, by simp, h, by rw [List.length_cons]; omega⟩
    · obtain ⟨j, x, hx, e, hj⟩ := mkL_mem gen l (i + 1) m h
      exact ⟨j, x, List.mem_cons_of_mem _ hx, e, by rw [List.length_cons]; omega⟩
theorem getD_mem {l : List S23} {x : S23} (h : x ∈ l) : ∃ k, k < l.length ∧ l.getD k z23 = x := by
  obtain ⟨k, hk, e⟩ := List.getElem_of_mem h
  exact ⟨k, hk, by rw [List.getD_eq_getElem?_getD, List.getElem?_eq_getElem hk]; exact e⟩
structure GI (l0 l1 : List S23) (k : Nat) (d : DS) (q : Nat) : Prop where
  b : RB 400 300 d
  s0 : ∀ j, j < k → j < l0.length → (l0.getD j z23).f1.size ≤ 60
  s1 : ∀ j, l0.length + j < k → (l1.getD j z23).f1.size ≤ 60
  j0 : k ≤ l0.length → J crcO d 300 (mkL 0 0 (l0.take k)) q ∧ q ≤ 300 + 7 * k
  j1 : l0.length < k → J crcO d 300 (mkL 1 l0.length (l1.take (k - l0.length))) q ∧ q ≤ 300 + 7 * (k - l0.length) ∧ (d.S.getD q [] = DS.zeros16 ∨ d.S.length ≤ q)
theorem gi_0 (l0 l1 : List S23) : GI l0 l1 0 (DS.new 400) 300 := ⟨rb_new 400, fun j h => by omega, fun j h => by omega, fun _ => ⟨rfl, by omega⟩, fun h => by omega⟩
theorem gi_a {l0 l1 : List S23} {k : Nat} {d : DS} {q : Nat} (h : GI l0 l1 k d q) (h0 : ansL l0 = true) (hl0 : l0.length ≤ 8) (hk : k < l0.length) (ho : (l0.getD k z23).f1.size ≤ 60) :
    ∃ (e : DS) (q2 : Nat), appendM crcO d (q : Int) 0 (k : Int) true (l0.getD k z23).f0 (l0.getD k z23).f1 = (e, (q2 : Int), 0) ∧ GI l0 l1 (k + 1) e q2 := by
  obtain ⟨hj, hq⟩ := h.j0 (by omega)
  have hn := mkA_need (gen := 0) ⟨by omega, by omega⟩ (i := k) (by omega) (ansL_rng h0 k) ho
  obtain ⟨e, q2, e1, e2, e3, e4, e5⟩ := rb_step h.b hj (mkA_ok (gen := 0) ⟨by omega, by omega⟩ (i := k) (by omega) (ansL_rng h0 k) ho) (by omega)
  refine ⟨e, q2, e1, e3, fun j hj hj2 => ?_, fun j hj => by omega, fun _ => ⟨?_, by omega⟩, fun hc => by omega⟩
  · by_cases ej : j = k
    · rw [ej]; exact ho
    · exact h.s0 j (by omega) hj2
  · rw [mkL_take 0 l0 0 k hk, Nat.zero_add]
    exact e4
theorem gi_b {l0 l1 : List S23} {k : Nat} {d : DS} {q p : Nat} (h : GI l0 l1 k d q) (h1 : ansL l1 = true) (hl0 : l0.length ≤ 8) (hl1 : l1.length ≤ 8) (hk : l0.length ≤ k) (hk2 : k - l0.length < l1.length) (hp : p = if k = l0.length then 300 else q) (ho : (l1.getD (k - l0.length) z23).f1.size ≤ 60) :
    ∃ (e : DS) (q2 : Nat), appendM crcO d (p : Int) 1 (k : Int) true (l1.getD (k - l0.length) z23).f0 (l1.getD (k - l0.length) z23).f1 = (e, (q2 : Int), 0) ∧ GI l0 l1 (k + 1) e q2 := by
  have hj : J crcO d 300 (mkL 1 l0.length (l1.take (k - l0.length))) p ∧ p ≤ 300 + 7 * (k - l0.length) := by
    by_cases hc : k = l0.length
    · rw [if_pos hc] at hp
      rw [hp, show k - l0.length = 0 by omega]
      exact ⟨rfl, by omega⟩
    · rw [if_neg hc] at hp
      rw [hp]
      exact ⟨(h.j1 (by omega)).1, (h.j1 (by omega)).2.1⟩
  have hn := mkA_need (gen := 1) ⟨by omega, by omega⟩ (i := k) (by omega) (ansL_rng h1 (k - l0.length)) ho
  obtain ⟨e, q2, e1, e2, e3, e4, e5⟩ := rb_step h.b hj.1 (mkA_ok (gen := 1) ⟨by omega, by omega⟩ (i := k) (by omega) (ansL_rng h1 (k - l0.length)) ho) (by omega)
  refine ⟨e, q2, e1, e3, fun j hj hj2 => h.s0 j (by omega) hj2, fun j hj => ?_, fun hc => by omega, fun _ => ⟨?_, by omega, e5⟩⟩
  · by_cases ej : j = k - l0.length
    · rw [ej]; exact ho
    · exact h.s1 j (by omega)
  · rw [show k + 1 - l0.length = k - l0.length + 1 by omega, mkL_take 1 l1 l0.length (k - l0.length) hk2, show l0.length + (k - l0.length) = k by omega]
    exact e4
theorem gi_end {l0 l1 : List S23} {d : DS} {q : Nat} (h : GI l0 l1 (l0.length + l1.length) d q) (h1 : ansL l1 = true) (hl0 : l0.length ≤ 8) (hl1 : l1.length ≤ 8) (hp : 1 ≤ l1.length) :
    scanM crcO d 1 = (mkL 1 l0.length l1, q) ∧ scanM crcO d 0 = ([], 300) := by
  obtain ⟨hj, hq, hz⟩ := h.j1 (by omega)
  rw [Nat.add_sub_cancel_left, List.take_length] at hj
  have hm : ∀ m ∈ mkL 1 l0.length l1, okM m ∧ m.f0 = 1 := fun m hm => by
    obtain ⟨j, x, hx, e, hj⟩ := mkL_mem 1 l1 l0.length m hm
    obtain ⟨k, hk, ek⟩ := getD_mem hx
    have hr := ansL_rng h1 k
    have hs := h.s1 k (by omega)
    rw [ek] at hr hs
    rw [e]
    exact ⟨mkA_ok ⟨by omega, by omega⟩ (by omega) hr hs, rfl⟩
  refine ⟨rb_scan h.b ⟨by omega, by omega⟩ hj hm (by omega) hz, ?_⟩
  cases l1 with
  | nil => simp at hp
  | cons x l =>
    rw [mkL] at hj hm
    exact rb_other h.b hj (hm _ (by simp)).1 (by simp only [List.length_cons] at hq; simp only [List.length_cons] at hl1; omega) (by show (1 : Int) ≠ 0; omega)
def lazaruslaw6_MarkGens.f (l0 l1 : List S23) : Option Bool := if ansL l0 = true ∧ ansL l1 = true then some true else none
theorem infoMk2 : (Tryd.prog.info? 25).map (fun i => (i.zero, i.size, i.bytes)) = some (some (.agg #[.int .i64 0, .int .i64 0, .bool false, .int .i64 0, .string ⟨#[]⟩]), 5, 48) := infoMk
/-- An answer of a row that came in, wherever it is read. -/
theorem ans_at {w : World} {A : Option Addr} {l : List S23} (h : Kd.C k23 w A l.length l) (k : Nat) (hk : k < l.length) : ∃ ad, A = some ad ∧ ∀ W, Below w.heap.size w W → W.cell? (ad.add (k * 2)) = some (.int .i64 (l.getD k z23).f0) ∧ W.cell? ⟨(ad.add (k * 2)).block, (ad.add (k * 2)).off + 1, none⟩ = some (.string (l.getD k z23).f1) := by
  obtain ⟨ad, e, h0, h1⟩ := at_T23 h (k : Int) (by omega) (by omega)
  rw [Int.toNat_natCast] at h0 h1
  exact ⟨ad, e, fun W hB => ⟨(hB.cell (World.block_lt_of_cell? w _ h0)).trans h0, (hB.cell (p := ⟨(ad.add (k * 2)).block, (ad.add (k * 2)).off + 1, none⟩) (show (ad.add (k * 2)).block < w.heap.size from World.block_lt_of_cell? w _ h0)).trans h1⟩⟩
set_option maxHeartbeats 8000000 in
set_option maxRecDepth 100000 in
theorem gens_core (A0 : Option Addr) (c0 : Nat) (l0 : List S23) (A1 : Option Addr) (c1 : Nat) (l1 : List S23) (w : World) (hr0 : Kd.C k23 w A0 l0.length l0) (hc0 : l0.length ≤ c0) (hr1 : Kd.C k23 w A1 l1.length l1) (hc1 : l1.length ≤ c1)
    (h0 : ansL l0 = true) (h1 : ansL l1 = true) (hl0 : l0.length ≤ 8) (hl1 : l1.length ≤ 8) (hp : 1 ≤ l1.length) (hT : NTabs w) :
    Calls Tryd.prog 6 #[.slice A0 l0.length c0, .slice A1 l1.length c1] w fun e w' => e = .returned (.bool true) ∧ Below w.heap.size w w' := by
  have a1 : decide ((l0.length : Int) > 8) = false := decide_eq_false (by omega)
  have a2 : decide ((8 : Int) < (l0.length : Int)) = false := decide_eq_false (by omega)
  have a3 : decide (8 < l0.length) = false := decide_eq_false (by omega)
  have b1 : decide ((l1.length : Int) > 8) = false := decide_eq_false (by omega)
  have b2 : decide ((8 : Int) < (l1.length : Int)) = false := decide_eq_false (by omega)
  have b3 : decide (8 < l1.length) = false := decide_eq_false (by omega)
  have b4 : decide ((l1.length : Int) < 1) = false := decide_eq_false (by omega)
  have b5 : decide (l1.length < 1) = false := decide_eq_false (by omega)
  have b6 : decide (l1.length = 0) = false := decide_eq_false (by omega)
  have b7 : ¬ l1 = [] := fun h => by rw [h] at hp; simp at hp
  have HR0 := Aside0.mk hr0
  have HR1 := Aside0.mk hr1
  have HC0 := Aside0.mk hc0
  have HC1 := Aside0.mk hc1
  have H0 := Aside0.mk h0
  have H1 := Aside0.mk h1
  have HL0 := Aside0.mk hl0
  have HL1 := Aside0.mk hl1
  have HP := Aside0.mk hp
  have HT := Aside0.mk hT
  clear hr0 hr1 hc0 hc1 h0 h1 hl0 hl1 hp hT
  go_enter Tryd.func6, Tryd.ntmps6
  go_upto_region 5 with (go_at_call 14; refine (st_new 400 (by omega) w w (Below.refl _ _) [] (fun x hx => by cases hx)).mono ?_; rintro e w1 ⟨rfl, hS, -⟩; have S1 := Aside0.mk hS; clear hS)
  clear a1 a2 a3 b1 b2 b3 b4 b5 b6 b7
  go_wp2
  go_loopw [6, 7] (fun u6 u7 wr => ∃ (k q : Nat) (d : DS), u7 = .int .i64 (k : Int) ∧ u6 = .int .i64 (q : Int) ∧ Aside0 (k ≤ l0.length + l1.length) ∧ Aside0 (GI l0 l1 k d q) ∧ Aside0 (St w [] wr w.heap.size d)) (fun _ u7 _ => l0.length + l1.length + 1 - (intOf u7).toNat)
  case atStart => exact ⟨0, 300, DS.new 400, rfl, rfl, ⟨Nat.zero_le _⟩, ⟨gi_0 l0 l1⟩, S1⟩
  case round =>
    obtain ⟨k, q, d, rfl, rfl, HK, HG, HS⟩ := hrel
    have hl0 := HL0.out
    have hl1 := HL1.out
    have hk := HK.out
    have hp0 : (0 : Int) ≤ (l0.length : Int) := by omega
    have hp1 : (l0.length : Int) ≤ 8 := by omega
    have hp2 : (0 : Int) ≤ (l1.length : Int) := by omega
    have hp3 : (l1.length : Int) ≤ 8 := by omega
    have hp4 : (0 : Int) ≤ (k : Int) := by omega
    have hp5 : (k : Int) ≤ 16 := by omega
    by_cases hlt : k < l0.length + l1.length
    · have dl : decide ((k : Int) < (l0.length : Int) + (l1.length : Int)) = true := decide_eq_true (by omega)
      have dl' : decide (k < l0.length + l1.length) = true := decide_eq_true hlt
      by_cases hA : k < l0.length
      · obtain ⟨ad, e1, hcell⟩ := ans_at HR0.out k hA
        subst e1
        have HCE := Aside0.mk hcell
        obtain ⟨hx0, hx1⟩ := hcell _ (below_alloc HS.out.2.1 (.cells #[.int .i64 0, .int .i64 (k : Int), .bool true, .int .i64 0, .string ⟨#[]⟩] 25))
        have dA : decide ((k : Int) < (l0.length : Int)) = true := decide_eq_true (by omega)
        have dA' : decide (k < l0.length) = true := decide_eq_true hA
        have hp6 : (k : Int) < (l0.length : Int) := by omega
        have hga := gi_a HG.out H0.out hl0 hA
        have hrg := ansL_rng H0.out k
        obtain ⟨x, hxq⟩ : ∃ x, l0.getD k z23 = x := ⟨_, rfl⟩
        rw [hxq] at hx0 hx1 hga hrg
        have HRG := Aside0.mk hrg
        have HXQ := Aside0.mk hxq
        have HLT := Aside0.mk hlt
        have HLA := Aside0.mk hA
        clear hcell hl0 hl1 hk hlt hA hrg hxq
        go_upto_region 12 with (fail)
        have hb8 := below_alloc (Below.refl wr.heap.size wr) (.cells #[.int .i64 0, .int .i64 (k : Int), .bool true, .int .i64 x.f0, .string x.f1] 25)
        have hn8 := blk_new wr (.cells #[.int .i64 0, .int .i64 (k : Int), .bool true, .int .i64 x.f0, .string x.f1] 25)
        obtain ⟨W8, hW8⟩ : ∃ W8, W8 = wr.alloc (.cells #[.int .i64 0, .int .i64 (k : Int), .bool true, .int .i64 x.f0, .string x.f1] 25) := ⟨_, rfl⟩
        rw [← hW8] at hb8 hn8 ⊢
        have S8 := Aside0.mk (HS.out.after hb8)
        obtain ⟨q8, hq8⟩ : ∃ q8, wr.heap.size = q8 := ⟨_, rfl⟩
        rw [hq8] at hn8 ⊢
        have y0 := (blk_cell hn8 0).trans rfl
        have y1 := (blk_cell hn8 1).trans rfl
        have y2 := (blk_cell hn8 2).trans rfl
        have y3 := (blk_cell hn8 3).trans rfl
        have y4 := (blk_cell hn8 4).trans rfl
        have HB := Aside0.mk HG.out.b
        clear hb8 hn8 hW8 hq8 hx0 hx1
        by_cases h60 : x.f1.size ≤ 60
        · have d6 : decide ((x.f1.size : Int) > 60) = false := decide_eq_false (by omega)
          have d6' : decide ((60 : Int) < (x.f1.size : Int)) = false := decide_eq_false (by omega)
          have d6'' : decide (60 < x.f1.size) = false := decide_eq_false (by omega)
          have HX60 := Aside0.mk h60
          obtain ⟨e, q2, hap, hg2⟩ := hga h60
          have HAP := Aside0.mk hap
          have HG2 := Aside0.mk hg2
          clear hap hg2 h60 hga
          have dk1 : decide ((k : Int) = (l0.length : Int)) = false := decide_eq_false (by have := HLA.out; omega)
          have dk2 : decide (k = l0.length) = false := decide_eq_false (by have := HLA.out; omega)
          have dk3 : ((k : Int) == (l0.length : Int)) = false := by simpa using dk1
          go_wp2_with (go_at_call 15; refine (append_c S8.out (q : Int) 0 (k : Int) true x.f0 x.f1 HRG.out (by have := HX60.out; omega) (by rw [HB.out.len]; omega) (by rw [HB.out.calm.1]; decide) (HT.out.on S8.out.2.1)).mono ?_; unfold AppPost; rw [HAP.out]; rintro e w2 ⟨rfl, hS, -⟩; have S2 := Aside0.mk hS; clear hS)
          exact ⟨⟨k + 1, q2, e, by go_num, rfl, ⟨HLT.out⟩, HG2, S2⟩, by have := HLT.out; simp [intOf]; omega⟩
        · have d6 : decide ((x.f1.size : Int) > 60) = true := decide_eq_true (by omega)
          have d6' : decide ((60 : Int) < (x.f1.size : Int)) = true := decide_eq_true (by omega)
          have d6'' : decide (60 < x.f1.size) = true := decide_eq_true (by omega)
          clear h60 hga
          go_wp2
          go_ret
          exact ⟨rfl, S8.out.2.1⟩
      · have hj : k - l0.length < l1.length := by omega
        have hga := gi_b HG.out H1.out hl0 hl1 (by omega) hj rfl
        have hrg := ansL_rng H1.out (k - l0.length)
        obtain ⟨ad, e1, hcell⟩ := ans_at HR1.out (k - l0.length) hj
        subst e1
        obtain ⟨j, hjq⟩ : ∃ j, k - l0.length = j := ⟨_, rfl⟩
        rw [hjq] at hga hrg hcell hj
        have hsub : (k : Int) - (l0.length : Int) = (j : Int) := by omega
        have hwa : IntKind.i64.wrap ((k : Int) - (l0.length : Int)) = (j : Int) := by rw [hsub, IntKind.wrap_i64]; omega
        have hwb : wrap64 ((k : Int) - (l0.length : Int)) = (j : Int) := by rw [hsub]; unfold wrap64; omega
        have hp6 : (j : Int) < (l1.length : Int) := by omega
        have hp7 : (0 : Int) ≤ (j : Int) := by omega
        have dA : decide ((k : Int) < (l0.length : Int)) = false := decide_eq_false (by omega)
        have dA' : decide (k < l0.length) = false := decide_eq_false hA
        obtain ⟨x, hxq⟩ : ∃ x, l1.getD j z23 = x := ⟨_, rfl⟩
        rw [hxq] at hga hrg hcell
        have HRG := Aside0.mk hrg
        have HLT := Aside0.mk hlt
        have HLA := Aside0.mk hA
        have HCE := Aside0.mk hcell
        clear hl0 hl1 hk hlt hA hrg hxq hj hjq hcell hsub
        go_upto_region 11 with (fail)
        have hb7 := below_alloc (Below.refl wr.heap.size wr) (.cells #[.int .i64 0, .int .i64 (k : Int), .bool true, .int .i64 0, .string ⟨#[]⟩] 25)
        have hn7 := blk_new wr (.cells #[.int .i64 0, .int .i64 (k : Int), .bool true, .int .i64 0, .string ⟨#[]⟩] 25)
        obtain ⟨W7, hW7⟩ : ∃ W7, W7 = wr.alloc (.cells #[.int .i64 0, .int .i64 (k : Int), .bool true, .int .i64 0, .string ⟨#[]⟩] 25) := ⟨_, rfl⟩
        rw [← hW7] at hb7 hn7 ⊢
        obtain ⟨q7, hq7⟩ : ∃ q7, wr.heap.size = q7 := ⟨_, rfl⟩
        have hge : w.heap.size ≤ q7 := by rw [← hq7]; exact HS.out.2.1.size
        rw [hq7] at hn7 ⊢
        have N7 : Aside0 (W7.drew.heap[q7]? = some (.cells #[.int .i64 0, .int .i64 (k : Int), .bool true, .int .i64 0, .string ⟨#[]⟩] 25 (0, 0))) := ⟨hn7⟩
        have N7e := Aside0.mk (blk_put N7.out 0 (.int .i64 1) rfl)
        have hbd := below_drew1 (HS.out.2.1.trans (hb7.mono HS.out.2.1.size))
        have HXD := Aside0.mk (HCE.out _ hbd)
        have HXE := Aside0.mk (HCE.out _ (hbd.setCell (p := ⟨q7, 0, none⟩) hge (.int .i64 1)))
        have g0 := (blk_cell hn7 0).trans rfl
        have f0 := blk_frozen hn7 0
        have g1 := (blk_cell hn7 1).trans rfl
        have f1 := blk_frozen hn7 1
        have g2 := (blk_cell hn7 2).trans rfl
        have f2 := blk_frozen hn7 2
        have g3 := (blk_cell hn7 3).trans rfl
        have f3 := blk_frozen hn7 3
        have g4 := (blk_cell hn7 4).trans rfl
        have f4 := blk_frozen hn7 4
        have hbe := ((hbd.setCell (p := ⟨q7, 0, none⟩) hge (.int .i64 1)).setCell (p := ⟨q7, 3, none⟩) hge (.int .i64 x.f0)).setCell (p := ⟨q7, 4, none⟩) hge (.string x.f1)
        have HXF := Aside0.mk (HCE.out _ hbe)
        have hn8 := blk_put (blk_put N7e.out 3 (.int .i64 x.f0) rfl) 4 (.string x.f1) rfl
        have S7 : St w [q7] W7 w.heap.size d := by rw [← hq7]; exact HS.out.more hb7 _ (Nat.le_refl _) (by rw [hq7]; exact (Array.getElem?_eq_some_iff.1 hn7).1)
        clear hn7 hW7
        go_region_held (fun w' => w'.cell? (ad.add (j * 2)) = some (.int .i64 x.f0) ∧ w'.cell? ⟨(ad.add (j * 2)).block, (ad.add (j * 2)).off + 1, none⟩ = some (.string x.f1)) (first | exact HXF.out | exact HXE.out | exact HXD.out) (fail)
        rename_i hHeld
        have hs8 : St w [] (((W7.setCell ⟨q7, 0, none⟩ (.int .i64 1)).setCell ⟨q7, 3, none⟩ (.int .i64 x.f0)).setCell ⟨q7, 4, none⟩ (.string x.f1)).drew w.heap.size d :=
          ((((S7.put (B := q7) (by simp) hge 0 (.int .i64 1)).put (B := q7) (by simp) hge 3 (.int .i64 x.f0)).put (B := q7) (by simp) hge 4 (.string x.f1)).drew).less (fun x hx => by cases hx)
        have hn9 : (((W7.setCell ⟨q7, 0, none⟩ (.int .i64 1)).setCell ⟨q7, 3, none⟩ (.int .i64 x.f0)).setCell ⟨q7, 4, none⟩ (.string x.f1)).drew.heap[q7]? = some (.cells #[.int .i64 1, .int .i64 (k : Int), .bool true, .int .i64 x.f0, .string x.f1] 25 (0, 0)) := hn8
        obtain ⟨W8, hW8⟩ : ∃ W8, W8 = (((W7.setCell ⟨q7, 0, none⟩ (.int .i64 1)).setCell ⟨q7, 3, none⟩ (.int .i64 x.f0)).setCell ⟨q7, 4, none⟩ (.string x.f1)).drew := ⟨_, rfl⟩
        rw [← hW8] at hs8 hn9 ⊢
        have S8 := Aside0.mk hs8
        have y0 := (blk_cell hn9 0).trans rfl
        have y1 := (blk_cell hn9 1).trans rfl
        have y2 := (blk_cell hn9 2).trans rfl
        have y3 := (blk_cell hn9 3).trans rfl
        have y4 := (blk_cell hn9 4).trans rfl
        have HB := Aside0.mk HG.out.b
        clear hb7 hq7 hge N7 N7e hbd HXD HXE hbe HXF hn8 hs8 hn9 hW8 S7 g0 g1 g2 g3 g4 f0 f1 f2 f3 f4 hHeld hwa hwb dA dA'
        by_cases h60 : x.f1.size ≤ 60
        · have d6 : decide ((x.f1.size : Int) > 60) = false := decide_eq_false (by omega)
          have d6' : decide ((60 : Int) < (x.f1.size : Int)) = false := decide_eq_false (by omega)
          have d6'' : decide (60 < x.f1.size) = false := decide_eq_false (by omega)
          have HX60 := Aside0.mk h60
          obtain ⟨e, q2, hap, hg2⟩ := hga h60
          have HG2 := Aside0.mk hg2
          by_cases hkl : k = l0.length
          · rw [if_pos hkl] at hap
            have hap2 : appendM crcO d (300 : Int) 1 (k : Int) true x.f0 x.f1 = (e, (q2 : Int), 0) := hap
            have HAP := Aside0.mk hap2
            have dk1 : decide ((k : Int) = (l0.length : Int)) = true := decide_eq_true (by omega)
            have dk2 : decide (k = l0.length) = true := decide_eq_true hkl
            have dk3 : ((k : Int) == (l0.length : Int)) = true := by simpa using dk1
            clear hap hap2 hg2 h60 hga hkl
            go_wp2_with (go_at_call 15; refine (append_c S8.out 300 1 (k : Int) true x.f0 x.f1 HRG.out (by have := HX60.out; omega) (by rw [HB.out.len]; omega) (by rw [HB.out.calm.1]; decide) (HT.out.on S8.out.2.1)).mono ?_; unfold AppPost; rw [HAP.out]; rintro e w2 ⟨rfl, hS, -⟩; have S2 := Aside0.mk hS; clear hS)
            exact ⟨⟨k + 1, q2, e, by go_num, rfl, ⟨HLT.out⟩, HG2, S2⟩, by have := HLT.out; simp [intOf]; omega⟩
          · rw [if_neg hkl] at hap
            have HAP := Aside0.mk hap
            have dk1 : decide ((k : Int) = (l0.length : Int)) = false := decide_eq_false (by omega)
            have dk2 : decide (k = l0.length) = false := decide_eq_false hkl
            have dk3 : ((k : Int) == (l0.length : Int)) = false := by simpa using dk1
            clear hap hg2 h60 hga hkl
            go_wp2_with (go_at_call 15; refine (append_c S8.out (q : Int) 1 (k : Int) true x.f0 x.f1 HRG.out (by have := HX60.out; omega) (by rw [HB.out.len]; omega) (by rw [HB.out.calm.1]; decide) (HT.out.on S8.out.2.1)).mono ?_; unfold AppPost; rw [HAP.out]; rintro e w2 ⟨rfl, hS, -⟩; have S2 := Aside0.mk hS; clear hS)
            exact ⟨⟨k + 1, q2, e, by go_num, rfl, ⟨HLT.out⟩, HG2, S2⟩, by have := HLT.out; simp [intOf]; omega⟩
        · have d6 : decide ((x.f1.size : Int) > 60) = true := decide_eq_true (by omega)
          have d6' : decide ((60 : Int) < (x.f1.size : Int)) = true := decide_eq_true (by omega)
          have d6'' : decide (60 < x.f1.size) = true := decide_eq_true (by omega)
          clear h60 hga
          go_wp2
          go_ret
          exact ⟨rfl, S8.out.2.1⟩
    · obtain rfl : k = l0.length + l1.length := by omega
      have dl : decide (((l0.length + l1.length : Nat) : Int) < (l0.length : Int) + (l1.length : Int)) = false := decide_eq_false (by omega)
      have dl' : decide (l0.length + l1.length < l0.length + l1.length) = false := decide_eq_false (by omega)
      obtain ⟨hs1, hs0⟩ := gi_end HG.out H1.out hl0 hl1 HP.out
      have HS1 := Aside0.mk hs1
      have HS0 := Aside0.mk hs0
      have HB := Aside0.mk HG.out.b
      have hml := mkL_len 1 l1 l0.length
      have HML := Aside0.mk hml
      clear hl0 hl1 hk hs1 hs0 hlt hml
      go_upto_region 23 with (first
        | (go_at_call 16; refine (scan_c S3.out 0 HB.out.all (by rw [HB.out.len]; omega) (HT.out.on S3.out.2.1)).mono ?_; unfold ScanPost; rw [HS0.out]; rintro e w4 ⟨v4, rfl, hR, hS, hB⟩; (obtain ⟨A4, c4, hv, -, -⟩ := Kd.R_reads hR); (replace hv : v4 = .slice A4 0 c4 := hv); subst hv; have S4 := Aside0.mk hS; have R4 := Aside0.mk (Kd.R_below R3.out hB); clear hR hS hB)
        | (go_at_call 16; refine (scan_c HS.out 1 HB.out.all (by rw [HB.out.len]; omega) (HT.out.on HS.out.2.1)).mono ?_; unfold ScanPost; rw [HS1.out]; rintro e w3 ⟨v3, rfl, hR, hS, hB⟩; have S3 := Aside0.mk hS; have R3 := Aside0.mk hR; clear hR hS hB))
      clear HS0 HS1 HB HG HK
      go_wp2
      go_loopw [15, 16] (fun u15 u16 wq => ∃ k : Nat, u16 = .int .i64 (k : Int) ∧ Aside0 (k ≤ l1.length) ∧ Aside0 (Kd.R k25 25 wq w4.heap.size (fun _ => True) u15 (mkL 1 l0.length (l1.take k))) ∧ Aside0 (Below w4.heap.size w4 wq)) (fun _ u16 _ => l1.length + 1 - (intOf u16).toNat)
      case atStart => exact ⟨0, rfl, ⟨Nat.zero_le _⟩, ⟨Kd.R_nil _ _ _ _ _⟩, ⟨Below.refl _ _⟩⟩
      case round =>
        obtain ⟨k, rfl, HK, HW, HBQ⟩ := hrel
        have hl0 := HL0.out
        have hl1 := HL1.out
        have hk := HK.out
        have hp4 : (0 : Int) ≤ (k : Int) := by omega
        have hp5 : (k : Int) ≤ 16 := by omega
        by_cases hlt : k < l1.length
        · have dl : decide ((k : Int) < (l1.length : Int)) = true := decide_eq_true (by omega)
          have dl' : decide (k < l1.length) = true := decide_eq_true hlt
          have hp6 : (k : Int) < (l1.length : Int) := by omega
          obtain ⟨ad, e1, hcell⟩ := ans_at HR1.out k hlt
          obtain ⟨hx0, hx1⟩ := hcell wr (S4.out.2.1.trans (HBQ.out.mono S4.out.2.1.size))
          subst e1
          have hmt := mkL_take 1 l1 l0.length k hlt
          obtain ⟨x, hxq⟩ : ∃ x, l1.getD k z23 = x := ⟨_, rfl⟩
          obtain ⟨m, hm⟩ : ∃ m, l0.length + k = m := ⟨_, rfl⟩
          obtain ⟨pl, hpl⟩ : ∃ pl, mkL 1 l0.length (l1.take k) = pl := ⟨_, rfl⟩
          have hll : pl.length ≤ 8 := by rw [← hpl, mkL_len, List.length_take]; omega
          rw [hxq] at hx0 hx1 hmt
          rw [hm] at hmt
          rw [hpl] at HW hmt
          have HMT := Aside0.mk hmt
          have HLT := Aside0.mk hlt
          have HLL := Aside0.mk hll
          have hsm : (l0.length : Int) + (k : Int) = (m : Int) := by omega
          have hwa : IntKind.i64.wrap ((l0.length : Int) + (k : Int)) = (m : Int) := by rw [hsm, IntKind.wrap_i64]; omega
          have hwb : wrap64 ((l0.length : Int) + (k : Int)) = (m : Int) := by rw [hsm]; unfold wrap64; omega
          clear hcell hmt hlt hll hl0 hl1 hk hxq hm hpl
          go_wp2_with ((with_reducible refine gate_builtin (b := .append) (xs := #[.tmp 95, .tmp 105]) rfl ?_); at_builtin; refine Kd.R_append k25 (w0 := w4) w4.heap.size rfl (.tmp 95) (.tmp 105) 38 25 (.agg #[.int .i64 0, .int .i64 0, .bool false, .int .i64 0, .string ⟨#[]⟩]) 48 rfl Tryd.underlying38 infoMk rfl (by decide) (by omega) u15 pl (mkA 1 m x) [.int .i64 1, .int .i64 (m : Int), .bool true, .int .i64 x.f0, .string x.f1] (fun _ => True) (fun _ => False) rfl rfl (k25_mkM _ _ _ (mkA 1 m x)) (fun _ hk => hk.elim) (fun _ _ => trivial) HW.out HBQ.out HBQ.out.size (by have := HLL.out; omega) ?_; intro v1 w6 ho hb hg hat; have O6 := Aside0.mk ho; have B6 := Aside0.mk hb; clear ho hb hg hat)
          exact ⟨⟨k + 1, by go_num, ⟨HLT.out⟩, ⟨by rw [HMT.out]; exact O6.out⟩, B6⟩, by have := HLT.out; simp [intOf]; omega⟩
        · obtain rfl : k = l1.length := by omega
          have dl : decide ((l1.length : Int) < (l1.length : Int)) = false := decide_eq_false (by omega)
          have dl' : decide (l1.length < l1.length) = false := decide_eq_false (by omega)
          obtain ⟨A3, c3, hv3, hl3, hC3⟩ := Kd.R_reads (Kd.R_below R4.out HBQ.out)
          obtain ⟨A5, c5, hv5, hl5, hC5⟩ := Kd.R_reads HW.out
          rw [List.take_length] at hv5 hl5 hC5
          obtain ⟨ms, hms⟩ : ∃ ms, mkL 1 l0.length l1 = ms := ⟨_, rfl⟩
          have hmz : ms.length ≤ 1000 := by rw [← hms, HML.out]; omega
          rw [hms] at hv3 hl3 hC3 hv5 hl5 hC5
          subst hv3
          subst hv5
          have SM : Aside0 (Calls Tryd.prog 17 #[.slice A3 ms.length c3, .slice A5 ms.length c5] wr fun e w' => e = .returned (.bool true) ∧ Drawn0 wr w') := ⟨lazarusref6_Same.calls (ms.length + 1) A3 c3 ms A5 c5 ms true wr hC3 hl3 hC5 hl5 (same_one ms hmz)⟩
          have BQ : Aside0 (Below w.heap.size w wr) := ⟨S4.out.2.1.trans (HBQ.out.mono S4.out.2.1.size)⟩
          clear hl3 hC3 hl5 hC5 hms hmz hlt hl0 hl1 hk
          go_wp2_with (first
            | (go_at_call 12; refine (known6_any w7 (HT.out.on B7.out)).mono ?_; rintro e w8 ⟨rfl, hB⟩; have B8 := Aside0.mk (B7.out.trans (hB.mono B7.out.size)); clear hB)
            | (go_at_call 17; refine SM.out.mono ?_; rintro e w7 ⟨rfl, hD⟩; have B7 := Aside0.mk (BQ.out.trans (hD.below.mono BQ.out.size)); clear hD))
          go_ret
          exact ⟨rfl, B8.out⟩
theorem lazaruslaw6_MarkGens.calls (A0 : Option Addr) (c0 : Nat) (l0 : List S23) (A1 : Option Addr) (c1 : Nat) (l1 : List S23) (r : Bool) (w : World) (hr0 : Kd.C k23 w A0 l0.length l0) (hc0 : l0.length ≤ c0) (hr1 : Kd.C k23 w A1 l1.length l1) (hc1 : l1.length ≤ c1) (h : lazaruslaw6_MarkGens.f l0 l1 = some r) (hT : NTabs w) :
    Calls Tryd.prog 6 #[.slice A0 l0.length c0, .slice A1 l1.length c1] w fun e w' => e = .returned (.bool r) ∧ Below w.heap.size w w' := by
  unfold lazaruslaw6_MarkGens.f at h
  by_cases hL : ansL l0 = true ∧ ansL l1 = true
  · rw [if_pos hL] at h
    obtain rfl : true = r := Option.some.inj h
    clear h
    by_cases h1 : l0.length ≤ 8
    · by_cases h2 : 1 ≤ l1.length
      · by_cases h3 : l1.length ≤ 8
        · exact gens_core A0 c0 l0 A1 c1 l1 w hr0 hc0 hr1 hc1 hL.1 hL.2 h1 h3 h2 hT
        · have a1 : decide ((l0.length : Int) > 8) = false := decide_eq_false (by omega)
          have a2 : decide ((8 : Int) < (l0.length : Int)) = false := decide_eq_false (by omega)
          have a3 : decide (8 < l0.length) = false := decide_eq_false (by omega)
          have b1 : decide ((l1.length : Int) > 8) = true := decide_eq_true (by omega)
          have b2 : decide ((8 : Int) < (l1.length : Int)) = true := decide_eq_true (by omega)
          have b3 : decide (8 < l1.length) = true := decide_eq_true (by omega)
          have b4 : decide ((l1.length : Int) < 1) = false := decide_eq_false (by omega)
          have b5 : decide (l1.length < 1) = false := decide_eq_false (by omega)
          have b6 : decide (l1.length = 0) = false := decide_eq_false (by omega)
          have b7 : ¬ l1 = [] := fun h => by rw [h] at h2; simp at h2
          clear hr0 hc0 hr1 hc1 hL h1 h2 h3 hT
          go_enter Tryd.func6, Tryd.ntmps6
          go_wp2
          go_ret
          exact ⟨rfl, Below.refl _ _⟩
      · have a1 : decide ((l0.length : Int) > 8) = false := decide_eq_false (by omega)
        have a2 : decide ((8 : Int) < (l0.length : Int)) = false := decide_eq_false (by omega)
        have a3 : decide (8 < l0.length) = false := decide_eq_false (by omega)
        obtain rfl : l1 = [] := List.eq_nil_of_length_eq_zero (by omega)
        clear hr0 hc0 hr1 hc1 hL h1 h2 hT
        go_enter Tryd.func6, Tryd.ntmps6
        go_wp2
        go_ret
        exact ⟨rfl, Below.refl _ _⟩
    · have a1 : decide ((l0.length : Int) > 8) = true := decide_eq_true (by omega)
      have a2 : decide ((8 : Int) < (l0.length : Int)) = true := decide_eq_true (by omega)
      have a3 : decide (8 < l0.length) = true := decide_eq_true (by omega)
      clear hr0 hc0 hr1 hc1 hL h1 hT
      go_enter Tryd.func6, Tryd.ntmps6
      go_wp2
      go_ret
      exact ⟨rfl, Below.refl _ _⟩
  · rw [if_neg hL] at h
    cases h
end Go.Proofs.YtkicekddkgehoaaDoor.LMarkGens
