/- The contract of the law MarkRow, by hand. -/
import Derived.Test.YtkicekddkgehoaaDoorMkD
import Derived.RangeFuncNested
import Derived.RangeFuncBound
import Derived.RangeFuncCalls
import Derived.RangeFuncLeaves
import Derived.RangeFuncBox
import Derived.Shelf.Abstract
import Derived.Shelf.RegionOpen
import Derived.OwnWalkIn
import Derived.TacticsInMore
import Derived.LoopNIn
import Derived.LoopIn
import Derived.Shelf.Strconv.AppendIntPublic10
import Derived.Shelf.Strconv.ErrVarParseInt
import Derived.Shelf.Bytes.IndexByte
import Derived.Lib.ItoaLen
import Derived.Lib.ParseIntBTie
import Derived.Lib.AtoiBound
import Derived.Deep.Upon
import Derived.Deep.Upon
namespace Go.Proofs.YtkicekddkgehoaaDoor.LMarkRow
open Go.RowKit Go.Proofs.YtkicekddkgehoaaDoor.QMarkRow Go.Proofs.YtkicekddkgehoaaDoor.Hnd Go.Proofs.YtkicekddkgehoaaDoorW.PrintWords Go.Proofs.YtkicekddkgehoaaDoorW.PrintLast Go.Proofs.YtkicekddkgehoaaDoorW.Dk Go.Shelf
set_option linter.unusedVariables false
set_option linter.unusedSimpArgs false
open Go.Proofs.YtkicekddkgehoaaDoor.Dsk hiding R_plain conv_str cell_of_heap C_blk
open Go.Proofs.YtkicekddkgehoaaDoor.Mrk
attribute [local go_sem] Oper.semAt_some
def ansB (st : Int) : Bool := decide (-9223372036854775808 ≤ st ∧ st < 9223372036854775808)
theorem ansB_of {x : Int} (h : (Lit.int .i64 x).wf = true) : ansB x = true := by
  simp [Lit.wf, IntKind.min, IntKind.max, IntKind.signed, IntKind.bits] at h
  exact decide_eq_true (by omega)
theorem ansB_rng {x : Int} (h : ansB x = true) : NT.Rng x := by
  have h1 : -9223372036854775808 ≤ x ∧ x < 9223372036854775808 := of_decide_eq_true h
  exact ⟨by omega, by omega⟩
def ansL (l : List S23) : Bool := l.all fun x => ansB x.f0
theorem ansL_of {l : List S23} (h : ∀ x ∈ l, (Lit.int .i64 x.f0).wf = true ∧ x.f1.size ≤ 140737488351232) : ansL l = true := List.all_eq_true.2 fun x hx => ansB_of (h x hx).1
theorem rngZ : NT.Rng 0 := ⟨by omega, by omega⟩
theorem ansL_rng {l : List S23} (h : ansL l = true) (k : Nat) : NT.Rng (l.getD k z23).f0 := by
  by_cases hk : k < l.length
  · rw [List.getD_eq_getElem?_getD, List.getElem?_eq_getElem hk]
    exact ansB_rng (List.all_eq_true.1 h _ (List.getElem_mem hk))
  · rw [List.getD_eq_getElem?_getD, List.getElem?_eq_none (by omega)]
    exact rngZ
def mkL (gen : Int) : Nat → List S23 → List S25
  | _, [] => []
  | i, x :: l => mkA gen i x :: mkL gen (i + 1) l
theorem mkL_snoc (gen : Int) : ∀ (l : List S23) (i : Nat) (x : S23), mkL gen i (l ++ [x]) = mkL gen i l ++ [mkA gen (i + l.length) x]
  | [], i, x => rfl
  | y :: l, i, x => by
    rw [List.cons_append, mkL, mkL, mkL_snoc gen l, List.cons_append, List.length_cons, show i + 1 + l.length = i + (l.length + 1) by omega]
theorem mkL_len (gen : Int) : ∀ (l : List S23) (i : Nat), (mkL gen i l).length = l.length
  | [], i => rfl
  | y :: l, i => by rw [mkL, List.length_cons, List.length_cons, mkL_len gen l]
theorem take_snoc (l : List S23) (k : Nat) (hk : k < l.length) : l.take (k + 1) = l.take k ++ [l.getD k z23] := by
  rw [List.take_add_one, List.getElem?_eq_getElem hk, List.getD_eq_getElem?_getD, List.getElem?_eq_getElem hk]
  rfl
theorem mkL_take (gen : Int) (l : List S23) (i k : Nat) (hk : k < l.length) : mkL gen i (l.take (k + 1)) = mkL gen i (l.take k) ++ [mkA gen (i + k) (l.getD k z23)] := by
  rw [take_snoc l k hk, mkL_snoc, List.length_take, Nat.min_eq_left (by omega)]
theorem mkL_mem (gen : Int) : ∀ (l : List S23) (i : Nat) (m : S25), m ∈ mkL gen i l → ∃ (j : Nat) (x : S23), x ∈ l ∧ m = mkA gen j x ∧ j < i + l.length
  | [], i, m, h => by cases h
  | y :: l, i, m, h => by
    rcases List.mem_cons.1 h with h | h
    · exact ⟨i, y, by simp, h, by rw [List.length_cons]; omega⟩
    · obtain ⟨j, x, hx, e, hj⟩ := mkL_mem gen l (i + 1) m h
      exact ⟨j, x, List.mem_cons_of_mem _ hx, e, by rw [List.length_cons]; omega⟩
theorem getD_mem {l : List S23} {x : S23} (h : x ∈ l) : ∃ k, k < l.length ∧ l.getD k z23 = x := by
  obtain ⟨k, hk, e⟩ := List.getElem_of_mem h
  exact ⟨k, hk, by rw [List.getD_eq_getElem?_getD, List.getElem?_eq_getElem hk]; exact e⟩
/-- An answer of a row that came in, wherever it is read. -/
theorem ans_at {w : World} {A : Option Addr} {l : List S23} (h : Kd.C k23 w A l.length l) (k : Nat) (hk : k < l.length) : ∃ ad, A = some ad ∧ ∀ W, Below w.heap.size w W → W.cell? (ad.add (k * 2)) = some (.int .i64 (l.getD k z23).f0) ∧ W.cell? ⟨(ad.add (k * 2)).block, (ad.add (k * 2)).off + 1, none⟩ = some (.string (l.getD k z23).f1) := by
  obtain ⟨ad, e, h0, h1⟩ := at_T23 h (k : Int) (by omega) (by omega)
  rw [Int.toNat_natCast] at h0 h1
  exact ⟨ad, e, fun W hB => ⟨(hB.cell (World.block_lt_of_cell? w _ h0)).trans h0, (hB.cell (p := ⟨(ad.add (k * 2)).block, (ad.add (k * 2)).off + 1, none⟩) (show (ad.add (k * 2)).block < w.heap.size from World.block_lt_of_cell? w _ h0)).trans h1⟩⟩
structure S47 where
  f0 : Int
  f1 : (List S78)
def k47 : Kd S47 := Kd.iso (Kd.pair (Kd.int .i64) (Kd.slice 78 k78)) (fun x : S47 => (x.f0, x.f1))
theorem crashK {w : World} {a : S47} {cs : Array Value} (h : k47.K w a cs.toList) : ∃ A c, cs = #[.int .i64 a.f0, .slice A a.f1.length c] ∧ a.f1.length ≤ c ∧ Kd.C k78 w A a.f1.length a.f1 := by
  obtain ⟨c0, r0, e0, h0, A, c, h1, hl, hC⟩ := h
  refine ⟨A, c, ?_, hl, hC⟩
  apply Array.toList_inj.1
  rw [e0, h0, h1]
  rfl
structure RowI (gen : Int) (l1 : List S23) (k : Nat) (d : DS) (q : Nat) : Prop where
  b : RB 400 300 d
  s : ∀ j, j < k → (l1.getD j z23).f1.size ≤ 60
  j : J crcO d 300 (mkL gen 0 (l1.take k)) q
  hi : q ≤ 300 + 7 * k
  z : d.S.getD q [] = DS.zeros16
theorem row_0 (gen : Int) (l1 : List S23) : RowI gen l1 0 (DS.new 400) 300 := ⟨rb_new 400, fun j h => by omega, rfl, by omega, by
  have h := DS.new_rd 400 300 (by omega)
  rw [DS.rd_nil rfl] at h
  exact h⟩
theorem row_ms {gen : Int} {l1 : List S23} {k : Nat} (hg : 0 ≤ gen ∧ gen ≤ 1000) (h1 : ansL l1 = true) (hl : l1.length ≤ 10) (hk : k ≤ l1.length) (hs : ∀ j, j < k → (l1.getD j z23).f1.size ≤ 60) : ∀ m ∈ mkL gen 0 (l1.take k), okM m ∧ m.f0 = gen := fun m hm => by
  obtain ⟨j, x, hx, e, hj⟩ := mkL_mem gen (l1.take k) 0 m hm
  obtain ⟨i, hi, ei⟩ := getD_mem hx
  rw [List.length_take] at hi hj
  have hi2 : (l1.take k).getD i z23 = l1.getD i z23 := by rw [List.getD_eq_getElem?_getD, List.getD_eq_getElem?_getD, List.getElem?_take, if_pos (by omega)]
  have hr := ansL_rng h1 i
  have hs2 := hs i (by omega)
  rw [← hi2, ei] at hr hs2
  rw [e]
  exact ⟨mkA_ok ⟨hg.1, by omega⟩ (by omega) hr hs2, rfl⟩
theorem row_step {gen : Int} {l1 : List S23} {k : Nat} {d : DS} {q : Nat} (h : RowI gen l1 k d q) (hg : 0 ≤ gen ∧ gen ≤ 1000) (h1 : ansL l1 = true) (hl : l1.length ≤ 10) (hk : k < l1.length) (ho : (l1.getD k z23).f1.size ≤ 60) :
    ∃ (e : DS) (q2 : Nat), appendM crcO d (q : Int) gen (k : Int) true (l1.getD k z23).f0 (l1.getD k z23).f1 = (e, (q2 : Int), 0) ∧ RowI gen l1 (k + 1) e q2 := by
  have hi := h.hi
  have hn := mkA_need (gen := gen) ⟨hg.1, by omega⟩ (i := k) (by omega) (ansL_rng h1 k) ho
  obtain ⟨e, q2, e1, e2, e3, e4, e5⟩ := rb_step h.b h.j (mkA_ok (gen := gen) ⟨hg.1, by omega⟩ (i := k) (by omega) (ansL_rng h1 k) ho) (by omega)
  refine ⟨e, q2, e1, e3, fun j hj => ?_, ?_, by omega, ?_⟩
  · by_cases ej : j = k
    · rw [ej]; exact ho
    · exact h.s j (by omega)
  · rw [mkL_take gen l1 0 k hk, Nat.zero_add]
    exact e4
  · rcases e5 with e5 | e5
    · exact e5
    · have := e3.len
      omega
/-- Behind the last one. -/
structure RowE (gen : Int) (l1 : List S23) (d : DS) : Prop where
  b : RB 400 300 d.restart
  here : (∃ q2, scanM crcO d.restart gen = (mkL gen 0 l1, q2)) ∨ (d.down = true ∧ ∃ q2, scanM crcO d.restart gen = (mkL gen 0 (l1.take (l1.length - 1)), q2))
  other : scanM crcO d.restart (gen + 1) = ([], 300)
theorem row_last {gen : Int} {l1 : List S23} {k : Nat} {d : DS} {q : Nat} (h : RowI gen l1 k d q) (hg : 0 ≤ gen ∧ gen ≤ 1000) (h1 : ansL l1 = true) (hl : l1.length ≤ 10) (hk : k + 1 = l1.length) (ho : (l1.getD k z23).f1.size ≤ 60) (at_ : Int) (left : List Int) :
    ∃ r : DS × Int × Int, appendM crcO (d.restart.arm at_ left) (q : Int) gen (k : Int) true (l1.getD k z23).f0 (l1.getD k z23).f1 = r ∧ RowE gen l1 r.1 := by
  have hi := h.hi
  have hn := mkA_need (gen := gen) ⟨hg.1, by omega⟩ (i := k) (by omega) (ansL_rng h1 k) ho
  obtain ⟨r, e1, e2, e3, e4⟩ := row_end h.b h.j hg (row_ms hg h1 hl (by omega) h.s) h.z (mkA_ok (gen := gen) ⟨hg.1, by omega⟩ (i := k) (by omega) (ansL_rng h1 k) ho) rfl (by omega) at_ left
  have hm := mkL_take gen l1 0 k (by omega)
  rw [Nat.zero_add, hk, List.take_length] at hm
  refine ⟨r, e1, e2, ?_, e4⟩
  rw [hm, show l1.length - 1 = k by omega]
  exact e3
theorem same_less {l m : List S25} (h : l.length ≠ m.length) : lazarusref6_Same.f 1 l m = some false := by
  unfold lazarusref6_Same.f
  rw [if_neg (by omega)]
def lazaruslaw6_MarkRow.f (_ : Int) (l1 : List S23) (_ : S47) : Option Bool := if ansL l1 = true then some true else none
set_option maxHeartbeats 8000000 in
set_option maxRecDepth 100000 in
theorem row_core (gen : Int) (A1 : Option Addr) (c1 : Nat) (l1 : List S23) (at_ : Int) (A2 : Option Addr) (c2 : Nat) (lf : List S78) (w : World) (hr1 : Kd.C k23 w A1 l1.length l1) (hc1 : l1.length ≤ c1) (hr2 : Kd.C k78 w A2 lf.length lf) (hc2 : lf.length ≤ c2)
    (h1 : ansL l1 = true) (hg : 0 ≤ gen ∧ gen ≤ 1000) (hp : 1 ≤ l1.length) (hl : l1.length ≤ 10) (hlf : lf.length ≤ 50) (hat : 0 ≤ at_) (hT : NTabs w) :
    Calls Tryd.prog 7 #[.int .i64 gen, .slice A1 l1.length c1, .agg #[.int .i64 at_, .slice A2 lf.length c2]] w fun e w' => e = .returned (.bool true) ∧ Below w.heap.size w w' := by
  have a1 : decide (gen < 0) = false := decide_eq_false (by omega)
  have a2 : decide (gen > 1000) = false := decide_eq_false (by omega)
  have a3 : decide (1000 < gen) = false := decide_eq_false (by omega)
  have b1 : decide ((l1.length : Int) < 1) = false := decide_eq_false (by omega)
  have b2 : decide (l1.length < 1) = false := decide_eq_false (by omega)
  have b3 : decide (l1.length = 0) = false := decide_eq_false (by omega)
  have b4 : ¬ l1 = [] := fun h => by rw [h] at hp; simp at hp
  have b5 : decide ((l1.length : Int) > 10) = false := decide_eq_false (by omega)
  have b6 : decide ((10 : Int) < (l1.length : Int)) = false := decide_eq_false (by omega)
  have b7 : decide (10 < l1.length) = false := decide_eq_false (by omega)
  have c3 : decide ((lf.length : Int) > 50) = false := decide_eq_false (by omega)
  have c4 : decide ((50 : Int) < (lf.length : Int)) = false := decide_eq_false (by omega)
  have c5 : decide (50 < lf.length) = false := decide_eq_false (by omega)
  have c6 : decide (at_ < 0) = false := decide_eq_false (by omega)
  have hb0 := below_alloc (Below.refl w.heap.size w) (.cells #[.int .i64 at_, .slice A2 lf.length c2] 47)
  have hn0 := blk_new w (.cells #[.int .i64 at_, .slice A2 lf.length c2] 47)
  obtain ⟨W0, hW0⟩ : ∃ W0, W0 = w.alloc (.cells #[.int .i64 at_, .slice A2 lf.length c2] 47) := ⟨_, rfl⟩
  have HW0 := Aside0.mk hW0
  rw [← hW0] at hb0 hn0
  obtain ⟨q0, hq0⟩ : ∃ q0, w.heap.size = q0 := ⟨_, rfl⟩
  rw [hq0] at hn0
  have HQ0 := Aside0.mk hq0
  have N0 := Aside0.mk hn0
  have B0 := Aside0.mk hb0
  have HR1 := Aside0.mk (Kd.C_below hr1 hb0)
  have HR2 := Aside0.mk (Kd.C_below hr2 hb0)
  have HC1 := Aside0.mk hc1
  have HC2 := Aside0.mk hc2
  have H1 := Aside0.mk h1
  have HG := Aside0.mk hg
  have HP := Aside0.mk hp
  have HL := Aside0.mk hl
  have HLF := Aside0.mk hlf
  have HT := Aside0.mk (hT.on hb0)
  have HTW := Aside0.mk hT
  have x0 := (blk_cell hn0 0).trans rfl
  have x1 := (blk_cell hn0 1).trans rfl
  clear hr1 hc1 hr2 hc2 h1 hg hp hl hlf hat hT hb0 hn0 hW0 hq0
  go_enter Tryd.func7, Tryd.ntmps7
  go_upto_region 1 with (fail)
  rw [← HW0.out, HQ0.out]
  go_upto_region 8 with (go_at_call 14; refine (st_new 400 (by omega) W0 W0 (Below.refl _ _) [] (fun x hx => by cases hx)).mono ?_; rintro e w1 ⟨rfl, hS, -⟩; have S1 := Aside0.mk hS; clear hS)
  obtain ⟨g, hgq⟩ : ∃ g, W0.heap.size = g := ⟨_, rfl⟩
  rw [hgq] at S1 ⊢
  have HGQ := Aside0.mk hgq
  clear hgq a1 a2 a3 b1 b2 b3 b4 b5 b6 b7 c3 c4 c5 c6 x0 x1 HW0 HQ0
  go_wp2
  go_loopw [8, 9, 10] (fun u8 u9 u10 wr => ∃ (k : Nat) (qi : Int) (d : DS) (ys : List Nat), u10 = .int .i64 (k : Int) ∧ u8 = .int .i64 qi ∧ Aside0 (k ≤ l1.length) ∧ Aside0 ((k < l1.length ∧ ∃ q : Nat, qi = (q : Int) ∧ RowI gen l1 k d q) ∨ (k = l1.length ∧ RowE gen l1 d)) ∧ Aside0 (St W0 ys wr g d) ∧ Aside0 (Kd.R k25 25 wr W0.heap.size (fun r => r ∈ ys) u9 (mkL gen 0 (l1.take k)))) (fun _ _ u10 _ => l1.length + 1 - (intOf u10).toNat)
  case atStart => exact ⟨0, 300, DS.new 400, [], rfl, rfl, ⟨Nat.zero_le _⟩, ⟨.inl ⟨HP.out, 300, rfl, row_0 gen l1⟩⟩, S1, ⟨Kd.R_nil _ _ _ _ _⟩⟩
  case round =>
    obtain ⟨k, qi, d, ys, rfl, rfl, HK, HI, HS, HW⟩ := hrel
    have hl := HL.out
    have hk := HK.out
    have hpp := HP.out
    have hp0 : (0 : Int) ≤ (l1.length : Int) := by omega
    have hp1 : (l1.length : Int) ≤ 10 := by omega
    have hp2 : (1 : Int) ≤ (l1.length : Int) := by omega
    have hp4 : (0 : Int) ≤ (k : Int) := by omega
    have hp5 : (k : Int) ≤ 10 := by omega
    by_cases hlt : k < l1.length
    · obtain ⟨q, rfl, hI⟩ : ∃ q : Nat, qi = (q : Int) ∧ RowI gen l1 k d q := by
        rcases HI.out with ⟨_, h⟩ | ⟨h, _⟩
        · exact h
        · omega
      have dl : decide ((k : Int) < (l1.length : Int)) = true := decide_eq_true (by omega)
      have dl' : decide (k < l1.length) = true := decide_eq_true hlt
      have hp6 : (k : Int) < (l1.length : Int) := by omega
      obtain ⟨ad, e1, hcell⟩ := ans_at HR1.out k hlt
      obtain ⟨hx0, hx1⟩ := hcell wr HS.out.2.1
      subst e1
      have hrg := ansL_rng H1.out k
      have hst := row_step hI HG.out H1.out hl hlt
      have hlast : k + 1 = l1.length → _ := fun he => row_last hI HG.out H1.out hl he
      have hmt := mkL_take gen l1 0 k hlt
      rw [Nat.zero_add] at hmt
      have HB := Aside0.mk hI.b
      obtain ⟨x, hxq⟩ : ∃ x, l1.getD k z23 = x := ⟨_, rfl⟩
      rw [hxq] at hx0 hx1 hmt hrg hst hlast
      have HRG := Aside0.mk hrg
      obtain ⟨pl, hpl⟩ : ∃ pl, mkL gen 0 (l1.take k) = pl := ⟨_, rfl⟩
      have hll : pl.length ≤ 10 := by rw [← hpl, mkL_len, List.length_take]; omega
      rw [hpl] at hmt HW
      have HMT := Aside0.mk hmt
      have HLL := Aside0.mk hll
      have HLT := Aside0.mk hlt
      clear HI hI hcell hmt hll hpl hxq hrg
      by_cases h60 : x.f1.size ≤ 60
      · have d6 : decide ((x.f1.size : Int) > 60) = false := decide_eq_false (by omega)
        have d6' : decide ((60 : Int) < (x.f1.size : Int)) = false := decide_eq_false (by omega)
        have d6'' : decide (60 < x.f1.size) = false := decide_eq_false (by omega)
        have HX60 := Aside0.mk h60
        replace hst := hst h60
        replace hlast := fun he => hlast he h60 at_ (lf.map fun x => x.f0)
        have HLS := Aside0.mk hlast
        have HSTP := Aside0.mk hst
        clear h60 hlt hl hk hst hlast
        go_upto_region 14 with (fail)
        have hb8 := below_alloc (Below.refl wr.heap.size wr) (.cells #[.int .i64 gen, .int .i64 (k : Int), .bool true, .int .i64 x.f0, .string x.f1] 25)
        have hn8 := blk_new wr (.cells #[.int .i64 gen, .int .i64 (k : Int), .bool true, .int .i64 x.f0, .string x.f1] 25)
        obtain ⟨W8, hW8⟩ : ∃ W8, W8 = wr.alloc (.cells #[.int .i64 gen, .int .i64 (k : Int), .bool true, .int .i64 x.f0, .string x.f1] 25) := ⟨_, rfl⟩
        rw [← hW8] at hb8 hn8 ⊢
        obtain ⟨q8, hq8⟩ : ∃ q8, wr.heap.size = q8 := ⟨_, rfl⟩
        have S8 : Aside0 (St W0 (q8 :: ys) W8 g d) := ⟨by rw [← hq8]; exact HS.out.more hb8 _ (Nat.le_refl _) (Array.getElem?_eq_some_iff.1 hn8).1⟩
        have O8 : Aside0 (Kd.R k25 25 W8 W0.heap.size (fun r => r ∈ ys) u9 pl) := ⟨Kd.R_below HW.out hb8⟩
        rw [hq8] at hn8 ⊢
        have N8 := Aside0.mk hn8
        have y0 := (blk_cell hn8 0).trans rfl
        have y1 := (blk_cell hn8 1).trans rfl
        have y2 := (blk_cell hn8 2).trans rfl
        have y3 := (blk_cell hn8 3).trans rfl
        have y4 := (blk_cell hn8 4).trans rfl
        clear hb8 hn8 hW8 hq8 hx0 hx1 d6 d6' d6'' dl dl'
        by_cases hlk : k + 1 = l1.length
        · obtain ⟨r, hr, hE⟩ := HLS.out hlk
          have HAP := Aside0.mk hr
          have HE := Aside0.mk hE
          have HLK := Aside0.mk hlk
          have dk1 : decide ((k : Int) = (l1.length : Int) - 1) = true := decide_eq_true (by omega)
          have dk2 : ((k : Int) == (l1.length : Int) - 1) = true := by simpa using dk1
          have dk3 : decide ((k : Int) < (l1.length : Int) - 1) = false := decide_eq_false (by omega)
          have x0 := (blk_cell N8.out 0).trans rfl
          clear hr hE hlk x0
          go_wp2_with (first
            | ((with_reducible refine gate_builtin (b := .append) (xs := #[.tmp 96, .tmp 98]) rfl ?_); at_builtin; refine Kd.R_append k25 (w0 := W0) W0.heap.size rfl (.tmp 96) (.tmp 98) 38 25 (.agg #[.int .i64 0, .int .i64 0, .bool false, .int .i64 0, .string ⟨#[]⟩]) 48 rfl Tryd.underlying38 infoMk rfl (by decide) (by omega) u9 pl (mkA gen k x) [.int .i64 gen, .int .i64 (k : Int), .bool true, .int .i64 x.f0, .string x.f1] (fun _ => True) (fun _ => False) rfl rfl (k25_mkM _ _ _ (mkA gen k x)) (fun _ hk => hk.elim) (fun _ _ => trivial) (Kd.R_mono O11.out (fun _ _ => trivial)) S11.out.2.1 S11.out.2.1.size (by have := HLL.out; omega) ?_; intro v1 w12 ho hb hg hat; obtain ⟨ys2, hs12, hy12⟩ := St.append S11.out (fun r hr => ⟨List.mem_cons_of_mem _ (HW.out.1 r hr), Kd.R_base HW.out r hr⟩) hg hb hat (fun r hr => Kd.R_lt ho r hr); have S12 := Aside0.mk hs12; have O12 : Aside0 (Kd.R k25 25 w12 W0.heap.size (fun r => r ∈ ys2 ++ q8 :: ys) v1 (pl ++ [mkA gen k x])) := ⟨Kd.R_mono (Kd.R_tight rfl ho) (fun r hr => hy12 r hr.symm)⟩; clear ho hb hg hat hs12 hy12)
            | (go_at_call 15; refine (append_c S10.out (q : Int) gen (k : Int) true x.f0 x.f1 HRG.out (by have := HX60.out; omega) (by show d.S.length ≤ 4000; rw [HB.out.len]; omega) (by show (0 : Nat) < 1073741824; decide) (HT.out.on S10.out.2.1)).mono ?_; unfold AppPost; rw [HAP.out]; rintro e w11 ⟨rfl, hS, hM⟩; have S11 := Aside0.mk hS; have M11 := Aside0.mk hM; have N11 := Aside0.mk ((hM q8 (by simp)).trans N10.out); have z0 := (blk_cell N11.out 0).trans rfl; have z1 := (blk_cell N11.out 1).trans rfl; have z2 := (blk_cell N11.out 2).trans rfl; have z3 := (blk_cell N11.out 3).trans rfl; have z4 := (blk_cell N11.out 4).trans rfl; have O11 : Aside0 (Kd.R k25 25 w11 W0.heap.size (fun r => r ∈ ys) u9 pl) := ⟨Kd.R_step O10.out (fun r hr _ => hM r (List.mem_cons_of_mem _ hr))⟩; clear hS hM y0 y1 y2 y3 y4)
            | (go_at_call 19; refine (st_arm S9.out at_ A2 c2 lf (Kd.C_below HR2.out S9.out.2.1) HC2.out (by have := HLF.out; omega)).mono ?_; rintro e w10 ⟨rfl, hS, hM⟩; have S10 := Aside0.mk hS; have N10 := Aside0.mk ((hM q8 (by simp)).trans N9.out); have O10 : Aside0 (Kd.R k25 25 w10 W0.heap.size (fun r => r ∈ ys) u9 pl) := ⟨Kd.R_step O9.out (fun r hr _ => hM r (List.mem_cons_of_mem _ hr))⟩; have y0 := (blk_cell N10.out 0).trans rfl; have y1 := (blk_cell N10.out 1).trans rfl; have y2 := (blk_cell N10.out 2).trans rfl; have y3 := (blk_cell N10.out 3).trans rfl; have y4 := (blk_cell N10.out 4).trans rfl; clear hS hM x0 x1)
            | (go_at_call 18; refine (st_restart S8.out).mono ?_; rintro e w9 ⟨rfl, hS, hM⟩; have S9 := Aside0.mk hS; have M9 := Aside0.mk hM; have N9 := Aside0.mk ((hM q8 (by simp)).trans N8.out); have O9 : Aside0 (Kd.R k25 25 w9 W0.heap.size (fun r => r ∈ ys) u9 pl) := ⟨Kd.R_step O8.out (fun r hr _ => hM r (List.mem_cons_of_mem _ hr))⟩; have b9 := (hS.2.1.block q0 (Array.getElem?_eq_some_iff.1 N0.out).1).trans N0.out; have x0 := (blk_cell b9 0).trans rfl; have x1 := (blk_cell b9 1).trans rfl; clear hS hM b9 y0 y1 y2 y3 y4))
          exact ⟨⟨k + 1, r.2.1, r.1, ys2 ++ q8 :: ys, by go_num, rfl, ⟨by have := HLK.out; omega⟩, ⟨.inr ⟨HLK.out, HE.out⟩⟩, S12, ⟨by rw [HMT.out]; exact O12.out⟩⟩, by have := HLT.out; simp [intOf]; omega⟩
        · obtain ⟨e, q2, hap, hI2⟩ := HSTP.out
          have HAP := Aside0.mk hap
          have HI2 := Aside0.mk hI2
          have HLK := Aside0.mk hlk
          have dk1 : decide ((k : Int) = (l1.length : Int) - 1) = false := decide_eq_false (by omega)
          have dk2 : ((k : Int) == (l1.length : Int) - 1) = false := by simpa using dk1
          have dk3 : decide ((k : Int) < (l1.length : Int) - 1) = true := decide_eq_true (by have := HLT.out; omega)
          clear hap hI2 hlk
          go_wp2_with (first
            | ((with_reducible refine gate_builtin (b := .append) (xs := #[.tmp 96, .tmp 98]) rfl ?_); at_builtin; refine Kd.R_append k25 (w0 := W0) W0.heap.size rfl (.tmp 96) (.tmp 98) 38 25 (.agg #[.int .i64 0, .int .i64 0, .bool false, .int .i64 0, .string ⟨#[]⟩]) 48 rfl Tryd.underlying38 infoMk rfl (by decide) (by omega) u9 pl (mkA gen k x) [.int .i64 gen, .int .i64 (k : Int), .bool true, .int .i64 x.f0, .string x.f1] (fun _ => True) (fun _ => False) rfl rfl (k25_mkM _ _ _ (mkA gen k x)) (fun _ hk => hk.elim) (fun _ _ => trivial) (Kd.R_mono O11.out (fun _ _ => trivial)) S11.out.2.1 S11.out.2.1.size (by have := HLL.out; omega) ?_; intro v1 w12 ho hb hg hat; obtain ⟨ys2, hs12, hy12⟩ := St.append S11.out (fun r hr => ⟨List.mem_cons_of_mem _ (HW.out.1 r hr), Kd.R_base HW.out r hr⟩) hg hb hat (fun r hr => Kd.R_lt ho r hr); have S12 := Aside0.mk hs12; have O12 : Aside0 (Kd.R k25 25 w12 W0.heap.size (fun r => r ∈ ys2 ++ q8 :: ys) v1 (pl ++ [mkA gen k x])) := ⟨Kd.R_mono (Kd.R_tight rfl ho) (fun r hr => hy12 r hr.symm)⟩; clear ho hb hg hat hs12 hy12)
            | (go_at_call 15; refine (append_c S8.out (q : Int) gen (k : Int) true x.f0 x.f1 HRG.out (by have := HX60.out; omega) (by show d.S.length ≤ 4000; rw [HB.out.len]; omega) (by rw [HB.out.calm.1]; decide) (HT.out.on S8.out.2.1)).mono ?_; unfold AppPost; rw [HAP.out]; rintro e w11 ⟨rfl, hS, hM⟩; have S11 := Aside0.mk hS; have M11 := Aside0.mk hM; have N11 := Aside0.mk ((hM q8 (by simp)).trans N8.out); have z0 := (blk_cell N11.out 0).trans rfl; have z1 := (blk_cell N11.out 1).trans rfl; have z2 := (blk_cell N11.out 2).trans rfl; have z3 := (blk_cell N11.out 3).trans rfl; have z4 := (blk_cell N11.out 4).trans rfl; have O11 : Aside0 (Kd.R k25 25 w11 W0.heap.size (fun r => r ∈ ys) u9 pl) := ⟨Kd.R_step O8.out (fun r hr _ => hM r (List.mem_cons_of_mem _ hr))⟩; clear hS hM y0 y1 y2 y3 y4))
          exact ⟨⟨k + 1, q2, e, ys2 ++ q8 :: ys, by go_num, rfl, ⟨by have := HLT.out; omega⟩, ⟨.inl ⟨by have := HLT.out; have := HLK.out; omega, q2, rfl, HI2.out⟩⟩, S12, ⟨by rw [HMT.out]; exact O12.out⟩⟩, by have := HLT.out; simp [intOf]; omega⟩
      · have d6 : decide ((x.f1.size : Int) > 60) = true := decide_eq_true (by omega)
        have d6' : decide ((60 : Int) < (x.f1.size : Int)) = true := decide_eq_true (by omega)
        have d6'' : decide (60 < x.f1.size) = true := decide_eq_true (by omega)
        clear h60 hst hlast hlt hl hk
        go_wp2
        go_ret
        exact ⟨rfl, B0.out.trans (HS.out.2.1.mono B0.out.size)⟩
    · obtain rfl : k = l1.length := by omega
      have hE : RowE gen l1 d := by
        rcases HI.out with ⟨h, _⟩ | ⟨_, h⟩
        · omega
        · exact h
      have dl : decide ((l1.length : Int) < (l1.length : Int)) = false := decide_eq_false (by omega)
      have dl' : decide (l1.length < l1.length) = false := decide_eq_false (by omega)
      rw [List.take_length] at HW
      have hml : (mkL gen 0 l1).length = l1.length := mkL_len gen l1 0
      obtain ⟨n, hn⟩ : ∃ n, l1.length = n + 1 := ⟨l1.length - 1, by omega⟩
      have hmt := mkL_take gen l1 0 n (by omega)
      rw [← hn, List.take_length] at hmt
      have hpl : (mkL gen 0 (l1.take n)).length = n := by rw [mkL_len, List.length_take]; omega
      have hE2 := hE.here
      rw [show l1.length - 1 = n by omega] at hE2
      obtain ⟨ms, hms⟩ : ∃ ms, mkL gen 0 l1 = ms := ⟨_, rfl⟩
      obtain ⟨pr, hpr⟩ : ∃ pr, mkL gen 0 (l1.take n) = pr := ⟨_, rfl⟩
      rw [hms] at hml hmt HW hE2
      rw [hpr] at hmt hpl hE2
      have hmz : ms.length ≤ 1000 := by omega
      obtain ⟨g5, c5, hv5, -, -, -⟩ := Kd.R_form HW.out (by omega)
      obtain ⟨-, hl5, -⟩ := Kd.R_reads' (hv5 ▸ HW.out)
      rw [hml] at hv5 hl5
      subst hv5
      obtain ⟨dn, hdn⟩ : ∃ dn, d.down = dn := ⟨_, rfl⟩
      rw [hdn] at hE2
      have HDN := Aside0.mk hdn
      have HS0 := Aside0.mk hE.other
      have HB := Aside0.mk hE.b
      have hg := HG.out
      have hwa : IntKind.i64.wrap (gen + 1) = gen + 1 := by rw [IntKind.wrap_i64]; omega
      have hwb : wrap64 (gen + 1) = gen + 1 := by unfold wrap64; omega
      have hwc : IntKind.i64.wrap ((l1.length : Int) - 1) = (n : Int) := by rw [IntKind.wrap_i64]; omega
      have hwd : wrap64 ((l1.length : Int) - 1) = (n : Int) := by unfold wrap64; omega
      have hq1 : (0 : Int) ≤ (n : Int) := by omega
      have hq2 : (n : Int) ≤ (c5 : Int) := by omega
      have hq3 : n ≤ c5 := by omega
      have HML := Aside0.mk hml
      have HPL := Aside0.mk hpl
      have HMT := Aside0.mk hmt
      have HMZ := Aside0.mk hmz
      have HN := Aside0.mk hn
      have HL5 := Aside0.mk hl5
      rcases hE2 with ⟨q2, hsc⟩ | ⟨rfl, q2, hsc⟩
      · have HSC := Aside0.mk hsc
        clear hE hmt hpl hml hsc hdn hms hpr hmz hg hl hk hpp hlt HI hl5 hn
        go_upto_region 26 with (first
          | (go_at_call 16; refine (scan_c S4.out (gen + 1) HB.out.all (by rw [HB.out.len]; omega) (HT.out.on S4.out.2.1)).mono ?_; unfold ScanPost; rw [HS0.out]; rintro e w5 ⟨v5, rfl, hR, hS, hB⟩; (obtain ⟨A6, c6, hv, -, -⟩ := Kd.R_reads hR); (replace hv : v5 = .slice A6 0 c6 := hv); subst hv; have S5 := Aside0.mk hS; have R5 := Aside0.mk (Kd.R_below R4.out hB); have O5 := Aside0.mk (Kd.R_below O4.out hB); have B5 := Aside0.mk (B0.out.trans (hS.2.1.mono B0.out.size)); clear hR hS hB)
          | (go_at_call 16; refine (scan_c S3.out gen HB.out.all (by rw [HB.out.len]; omega) (HT.out.on S3.out.2.1)).mono ?_; unfold ScanPost; rw [HSC.out]; rintro e w4 ⟨v4, rfl, hR, hS, hB⟩; have S4 := Aside0.mk hS; have R4 := Aside0.mk hR; have O4 := Aside0.mk (Kd.R_below O3.out hB); clear hR hS hB)
          | (go_at_call 18; refine (st_restart HS.out).mono ?_; rintro e w3 ⟨rfl, hS, hM⟩; have S3 := Aside0.mk hS; have O3 : Aside0 (Kd.R k25 25 w3 W0.heap.size (fun r => r ∈ ys) (.slice (some ⟨g5, 0, none⟩) l1.length c5) ms) := ⟨Kd.R_step HW.out (fun r hr _ => hM r hr)⟩; clear hS hM)
          | (go_at_call 20; refine (st_down HS.out).mono ?_; rw [HDN.out]; rintro e w8 ⟨rfl, rfl⟩))
        obtain ⟨A4, c4, hv4, hl4, hC4⟩ := Kd.R_reads R5.out
        obtain ⟨-, -, hC5⟩ := Kd.R_reads' O5.out
        have hs4 := lazarusref6_Same.calls (ms.length + 1) A4 c4 ms (some ⟨g5, 0, none⟩) c5 ms true w5 hC4 hl4 hC5 (by rw [HML.out]; exact HL5.out) (same_one ms HMZ.out)
        rw [HML.out] at hs4 hv4
        subst hv4
        have SM := Aside0.mk hs4
        clear hl4 hC4 hC5 hs4
        go_wp2_with (first
          | (go_at_call 12; refine (known6_any w7 (HTW.out.on B7.out)).mono ?_; rintro e w8 ⟨rfl, hB⟩; have B8 := Aside0.mk (B7.out.trans (hB.mono B7.out.size)); clear hB)
          | (go_at_call 17; refine SM.out.mono ?_; rintro e w7 ⟨rfl, hD⟩; have B7 := Aside0.mk (B5.out.trans (hD.below.mono B5.out.size)); clear hD))
        go_ret
        exact ⟨rfl, B8.out⟩
      · have HSC := Aside0.mk hsc
        clear hE hmt hpl hml hsc hdn hms hpr hmz hg hl hk hpp hlt HI hl5 hn
        go_upto_region 26 with (first
          | (go_at_call 16; refine (scan_c S4.out (gen + 1) HB.out.all (by rw [HB.out.len]; omega) (HT.out.on S4.out.2.1)).mono ?_; unfold ScanPost; rw [HS0.out]; rintro e w5 ⟨v5, rfl, hR, hS, hB⟩; (obtain ⟨A6, c6, hv, -, -⟩ := Kd.R_reads hR); (replace hv : v5 = .slice A6 0 c6 := hv); subst hv; have S5 := Aside0.mk hS; have R5 := Aside0.mk (Kd.R_below R4.out hB); have O5 := Aside0.mk (Kd.R_below O4.out hB); have B5 := Aside0.mk (B0.out.trans (hS.2.1.mono B0.out.size)); clear hR hS hB)
          | (go_at_call 16; refine (scan_c S3.out gen HB.out.all (by rw [HB.out.len]; omega) (HT.out.on S3.out.2.1)).mono ?_; unfold ScanPost; rw [HSC.out]; rintro e w4 ⟨v4, rfl, hR, hS, hB⟩; have S4 := Aside0.mk hS; have R4 := Aside0.mk hR; have O4 := Aside0.mk (Kd.R_below O3.out hB); clear hR hS hB)
          | (go_at_call 18; refine (st_restart HS.out).mono ?_; rintro e w3 ⟨rfl, hS, hM⟩; have S3 := Aside0.mk hS; have O3 : Aside0 (Kd.R k25 25 w3 W0.heap.size (fun r => r ∈ ys) (.slice (some ⟨g5, 0, none⟩) l1.length c5) ms) := ⟨Kd.R_step HW.out (fun r hr _ => hM r hr)⟩; clear hS hM)
          | (go_at_call 20; refine (st_down HS.out).mono ?_; rw [HDN.out]; rintro e w8 ⟨rfl, rfl⟩))
        obtain ⟨A4, c4, hv4, hl4, hC4⟩ := Kd.R_reads R5.out
        obtain ⟨-, -, hC5⟩ := Kd.R_reads' O5.out
        have hs4 := lazarusref6_Same.calls 1 A4 c4 pr (some ⟨g5, 0, none⟩) c5 ms false w5 hC4 hl4 hC5 (by rw [HML.out]; exact HL5.out) (same_less (by rw [HML.out, HPL.out, HN.out]; omega))
        have hpz : pr.length ≤ 1000 := by have := HMZ.out; have := HML.out; have := HPL.out; have := HN.out; omega
        have hC6 : ∀ w', Below w5.heap.size w5 w' → Kd.C k25 w' (some ⟨g5, 0, none⟩) pr.length pr := fun w' hB => by
          obtain ⟨-, -, hC⟩ := Kd.R_reads' (Kd.R_take (m := pr.length) (Kd.R_below O5.out hB) (by rw [HML.out, HPL.out, HN.out]; omega))
          rw [HMT.out, List.take_left] at hC
          exact hC
        have hs5 : ∀ w', Below w5.heap.size w5 w' → Calls Tryd.prog 17 #[.slice A4 pr.length c4, .slice (some ⟨g5, 0, none⟩) pr.length c5] w' fun e w'' => e = .returned (.bool true) ∧ Drawn0 w' w'' := fun w' hB => lazarusref6_Same.calls (pr.length + 1) A4 c4 pr (some ⟨g5, 0, none⟩) c5 pr true w' (Kd.C_below hC4 hB) hl4 (hC6 w' hB) (by have := HPL.out; have := HL5.out; have := HN.out; omega) (same_one pr hpz)
        rw [HML.out] at hs4
        rw [HPL.out] at hs4 hs5 hv4
        subst hv4
        have SM := Aside0.mk hs4
        have SM2 := Aside0.mk hs5
        clear hl4 hC4 hC5 hs4 hs5 hC6 hpz
        go_wp2_with (first
          | (go_at_call 12; refine (known6_any w7 (HTW.out.on B7.out)).mono ?_; rintro e w8 ⟨rfl, hB⟩; have B8 := Aside0.mk (B7.out.trans (hB.mono B7.out.size)); clear hB)
          | (go_at_call 17; refine (SM2.out w6 D6.out).mono ?_; rintro e w7 ⟨rfl, hD⟩; have B7 := Aside0.mk (B6.out.trans (hD.below.mono B6.out.size)); clear hD)
          | (go_at_call 17; refine SM.out.mono ?_; rintro e w6 ⟨rfl, hD⟩; have D6 := Aside0.mk hD.below; have B6 := Aside0.mk (B5.out.trans (hD.below.mono B5.out.size)); clear hD))
        go_ret
        exact ⟨rfl, B8.out⟩
theorem lazaruslaw6_MarkRow.calls (a0 : Int) (A1 : Option Addr) (c1 : Nat) (l1 : List S23) (a2 : S47) (cs2 : Array Value) (r : Bool) (w : World) (hr1 : Kd.C k23 w A1 l1.length l1) (hc1 : l1.length ≤ c1) (hK2 : k47.K w a2 cs2.toList) (h : lazaruslaw6_MarkRow.f a0 l1 a2 = some r) (hT : NTabs w) :
    Calls Tryd.prog 7 #[.int .i64 a0, .slice A1 l1.length c1, .agg cs2] w fun e w' => e = .returned (.bool r) ∧ Below w.heap.size w w' := by
  obtain ⟨A2, c2, rfl, hc2, hr2⟩ := crashK hK2
  unfold lazaruslaw6_MarkRow.f at h
  by_cases hL : ansL l1 = true
  · rw [if_pos hL] at h
    obtain rfl : true = r := Option.some.inj h
    clear h hK2
    obtain ⟨at_, lf⟩ := a2
    dsimp only at hc2 hr2 ⊢
    have hb0 := below_alloc (Below.refl w.heap.size w) (.cells #[.int .i64 at_, .slice A2 lf.length c2] 47)
    have hn0 := blk_new w (.cells #[.int .i64 at_, .slice A2 lf.length c2] 47)
    obtain ⟨W0, hW0⟩ : ∃ W0, W0 = w.alloc (.cells #[.int .i64 at_, .slice A2 lf.length c2] 47) := ⟨_, rfl⟩
    have HW0 := Aside0.mk hW0
    rw [← hW0] at hb0 hn0
    have B0 := Aside0.mk hb0
    have x0 := (blk_cell hn0 0).trans rfl
    have x1 := (blk_cell hn0 1).trans rfl
    clear hb0 hn0 hW0
    by_cases hg : a0 < 0
    · have fg0 : decide (a0 < 0) = true := decide_eq_true (by omega)
      clear hr1 hc1 hr2 hc2 hL hT hg
      go_enter Tryd.func7, Tryd.ntmps7
      go_upto_region 1 with (fail)
      rw [← HW0.out]
      go_wp2
      go_ret
      exact ⟨rfl, B0.out⟩
    have fg0 : decide (a0 < 0) = false := decide_eq_false (by omega)
    by_cases hh : 1000 < a0
    · have fh0 : decide (a0 > 1000) = true := decide_eq_true (by omega)
      have fh1 : decide ((1000 : Int) < a0) = true := decide_eq_true (by omega)
      clear hr1 hc1 hr2 hc2 hL hT hg hh
      go_enter Tryd.func7, Tryd.ntmps7
      go_upto_region 1 with (fail)
      rw [← HW0.out]
      go_wp2
      go_ret
      exact ⟨rfl, B0.out⟩
    have fh0 : decide (a0 > 1000) = false := decide_eq_false (by omega)
    have fh1 : decide ((1000 : Int) < a0) = false := decide_eq_false (by omega)
    by_cases hl : l1.length < 1
    · have fl0 : decide ((l1.length : Int) < 1) = true := decide_eq_true (by omega)
      have fl1 : decide (l1.length < 1) = true := decide_eq_true (by omega)
      have fl9 : l1.length = 0 := by omega
      obtain rfl : l1 = [] := List.eq_nil_of_length_eq_zero fl9
      clear fl0 fl1 fl9
      clear hr1 hc1 hr2 hc2 hL hT hg hh hl
      go_enter Tryd.func7, Tryd.ntmps7
      go_upto_region 1 with (fail)
      rw [← HW0.out]
      go_wp2
      go_ret
      exact ⟨rfl, B0.out⟩
    have fl0 : decide ((l1.length : Int) < 1) = false := decide_eq_false (by omega)
    have fl1 : decide (l1.length < 1) = false := decide_eq_false (by omega)
    have fl8 : ¬ l1 = [] := fun h => by rw [h] at hl; simp at hl
    have fl7 : decide (l1.length = 0) = false := decide_eq_false (by omega)
    by_cases hm : 10 < l1.length
    · have fm0 : decide ((l1.length : Int) > 10) = true := decide_eq_true (by omega)
      have fm1 : decide ((10 : Int) < (l1.length : Int)) = true := decide_eq_true (by omega)
      have fm2 : decide (10 < l1.length) = true := decide_eq_true (by omega)
      clear hr1 hc1 hr2 hc2 hL hT hg hh hl hm
      go_enter Tryd.func7, Tryd.ntmps7
      go_upto_region 1 with (fail)
      rw [← HW0.out]
      go_wp2
      go_ret
      exact ⟨rfl, B0.out⟩
    have fm0 : decide ((l1.length : Int) > 10) = false := decide_eq_false (by omega)
    have fm1 : decide ((10 : Int) < (l1.length : Int)) = false := decide_eq_false (by omega)
    have fm2 : decide (10 < l1.length) = false := decide_eq_false (by omega)
    by_cases hn : 50 < lf.length
    · have fn0 : decide ((lf.length : Int) > 50) = true := decide_eq_true (by omega)
      have fn1 : decide ((50 : Int) < (lf.length : Int)) = true := decide_eq_true (by omega)
      have fn2 : decide (50 < lf.length) = true := decide_eq_true (by omega)
      clear hr1 hc1 hr2 hc2 hL hT hg hh hl hm hn
      go_enter Tryd.func7, Tryd.ntmps7
      go_upto_region 1 with (fail)
      rw [← HW0.out]
      go_wp2
      go_ret
      exact ⟨rfl, B0.out⟩
    have fn0 : decide ((lf.length : Int) > 50) = false := decide_eq_false (by omega)
    have fn1 : decide ((50 : Int) < (lf.length : Int)) = false := decide_eq_false (by omega)
    have fn2 : decide (50 < lf.length) = false := decide_eq_false (by omega)
    by_cases ho : at_ < 0
    · have fo0 : decide (at_ < 0) = true := decide_eq_true (by omega)
      clear hr1 hc1 hr2 hc2 hL hT hg hh hl hm hn ho
      go_enter Tryd.func7, Tryd.ntmps7
      go_upto_region 1 with (fail)
      rw [← HW0.out]
      go_wp2
      go_ret
      exact ⟨rfl, B0.out⟩
    have fo0 : decide (at_ < 0) = false := decide_eq_false (by omega)
    exact row_core a0 A1 c1 l1 at_ A2 c2 lf w hr1 hc1 hr2 hc2 hL ⟨by omega, by omega⟩ (by omega) (by omega) (by omega) (by omega) hT
  · rw [if_neg hL] at h
    cases h
end Go.Proofs.YtkicekddkgehoaaDoor.LMarkRow
