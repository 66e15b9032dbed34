/- The contract of the law MarkPlays, by hand. -/
import Derived.Test.YtkicekddkgehoaaGreatDoorMkR
import Derived.RangeFuncNested
import Derived.RangeFuncBound
import Derived.RangeFuncCalls
import Derived.RangeFuncLeaves
import Derived.RangeFuncBox
import Derived.Shelf.Abstract
import Derived.Shelf.RegionOpen
import Derived.OwnWalkIn
import Derived.TacticsInMore
import Derived.LoopNIn
import Derived.LoopIn
import Derived.Shelf.Strconv.AppendIntPublic10
import Derived.Shelf.Strconv.ErrVarParseInt
import Derived.Shelf.Bytes.IndexByte
import Derived.Lib.ItoaLen
import Derived.Lib.ParseIntBTie
import Derived.Lib.AtoiBound
import Derived.Deep.Upon
import Derived.Deep.Upon
namespace Go.Proofs.YtkicekddkgehoaaGreatDoor.LMarkPlays
open Go.RowKit Go.Proofs.YtkicekddkgehoaaGreatDoor.QMarkPlays Go.Proofs.YtkicekddkgehoaaGreatDoor.Hnd Go.Proofs.YtkicekddkgehoaaGreatDoorW.PrintWords Go.Proofs.YtkicekddkgehoaaGreatDoorW.PrintLast Go.Proofs.YtkicekddkgehoaaGreatDoorW.Dk Go.Shelf
set_option linter.unusedVariables false
set_option linter.unusedSimpArgs false
open Go.Proofs.YtkicekddkgehoaaGreatDoor.Dsk hiding R_plain conv_str cell_of_heap C_blk
open Go.Proofs.YtkicekddkgehoaaGreatDoor.Mrk
attribute [local go_sem] Oper.semAt_some
def ansB (st : Int) : Bool := decide (-9223372036854775808 ≤ st ∧ st < 9223372036854775808)
theorem ansB_of {x : Int} (h : (Lit.int .i64 x).wf = true) : ansB x = true := by
  simp [Lit.wf, IntKind.min, IntKind.max, IntKind.signed, IntKind.bits] at h
  exact decide_eq_true (by omega)
theorem ansB_rng {x : Int} (h : ansB x = true) : NT.Rng x := by
  have h1 : -9223372036854775808 ≤ x ∧ x < 9223372036854775808 := of_decide_eq_true h
  exact ⟨by omega, by omega⟩
theorem rngZ : NT.Rng 0 := ⟨by omega, by omega⟩
def ansM (l : List S35) : Bool := l.all fun x => ansB x.f3.f0
theorem ansM_of {l : List S35} (h : ∀ x ∈ l, (Lit.int .i64 x.f3.f0).wf = true) : ansM l = true := List.all_eq_true.2 fun x hx => ansB_of (h x hx)
theorem ansM_rng {l : List S35} (h : ansM l = true) (k : Nat) : NT.Rng (l.getD k z35).f3.f0 := by
  by_cases hk : k < l.length
  · rw [List.getD_eq_getElem?_getD, List.getElem?_eq_getElem hk]
    exact ansB_rng (List.all_eq_true.1 h _ (List.getElem_mem hk))
  · rw [List.getD_eq_getElem?_getD, List.getElem?_eq_none (by omega)]
    exact rngZ
structure S26 where
  f0 : Int
  f1 : (List S58)
def k26 : Kd S26 := Kd.iso (Kd.pair (Kd.int .i64) (Kd.slice 58 k58)) (fun x : S26 => (x.f0, x.f1))
theorem crashK {w : World} {a : S26} {cs : Array Value} (h : k26.K w a cs.toList) : ∃ A c, cs = #[.int .i64 a.f0, .slice A a.f1.length c] ∧ a.f1.length ≤ c ∧ Kd.C k58 w A a.f1.length a.f1 := by
  obtain ⟨c0, r0, e0, h0, A, c, h1, hl, hC⟩ := h
  refine ⟨A, c, ?_, hl, hC⟩
  apply Array.toList_inj.1
  rw [e0, h0, h1]
  rfl
/-- A mark of a row that came in, wherever it is read. -/
theorem mark_at {w : World} {A : Option Addr} {l : List S35} (h : Kd.C k35 w A l.length l) (k : Nat) (hk : k < l.length) : ∃ ad, A = some ad ∧ ∀ W, Below w.heap.size w W → W.cell? (ad.add (k * 5)) = some (.int .i64 (l.getD k z35).f0) ∧ W.cell? ⟨(ad.add (k * 5)).block, (ad.add (k * 5)).off + 1, none⟩ = some (.int .i64 (l.getD k z35).f1) ∧ W.cell? ⟨(ad.add (k * 5)).block, (ad.add (k * 5)).off + 2, none⟩ = some (.bool (l.getD k z35).f2) ∧
    W.cell? ⟨(ad.add (k * 5)).block, (ad.add (k * 5)).off + 3, none⟩ = some (.int .i64 (l.getD k z35).f3.f0) ∧ W.cell? ⟨(ad.add (k * 5)).block, (ad.add (k * 5)).off + 4, none⟩ = some (.string (l.getD k z35).f3.f1) := by
  obtain ⟨ad, e, h0, h1, h2, h3, h4⟩ := at_T35 h (k : Int) (by omega) (by omega)
  rw [Int.toNat_natCast] at h0 h1 h2 h3 h4
  have hlt : (ad.add (k * 5)).block < w.heap.size := World.block_lt_of_cell? w _ h0
  exact ⟨ad, e, fun W hB => ⟨(hB.cell hlt).trans h0, (hB.cell (p := ⟨(ad.add (k * 5)).block, (ad.add (k * 5)).off + 1, none⟩) hlt).trans h1, (hB.cell (p := ⟨(ad.add (k * 5)).block, (ad.add (k * 5)).off + 2, none⟩) hlt).trans h2, (hB.cell (p := ⟨(ad.add (k * 5)).block, (ad.add (k * 5)).off + 3, none⟩) hlt).trans h3, (hB.cell (p := ⟨(ad.add (k * 5)).block, (ad.add (k * 5)).off + 4, none⟩) hlt).trans h4⟩⟩
theorem place_at {w : World} {A : Option Addr} {l : List Int} (h : (Kd.int .i64).C w A l.length l) (k : Nat) (hk : k < l.length) : ∃ ad, A = some ad ∧ ∀ W, Below w.heap.size w W → W.cell? (ad.add k) = some (.int .i64 (l.getD k 0)) := by
  obtain ⟨ad, c, e, hl, hK, hc0⟩ := Kd.C_get h 0 (k : Int) (by omega) (by omega)
  rw [Int.toNat_natCast] at hK hc0
  have hK' : c = [.int .i64 (l.getD k 0)] := hK
  subst hK'
  have h0 : w.cell? (ad.add (k * 1 + 0)) = some (.int .i64 (l.getD k 0)) := hc0 0 _ rfl
  rw [Nat.mul_one, Nat.add_zero] at h0
  exact ⟨ad, e, fun W hB => (hB.cell (World.block_lt_of_cell? w _ h0)).trans h0⟩
def lazaruslaw6_MarkPlays.f (_ : Int) (l1 : List S35) (_ : List Int) (_ : Int) (_ : S26) : Option Bool := if ansM l1 = true then some true else none
structure PI (n : Nat) (d : DS) : Prop where
  p : d.P = []
  len : d.S.length = n
  all : d.AllB
set_option maxHeartbeats 16000000 in
set_option maxRecDepth 100000 in
theorem plays_core (n : Nat) (A1 : Option Addr) (c1 : Nat) (l1 : List S35) (A2 : Option Addr) (c2 : Nat) (l2 : List Int) (a3 at_ : Int) (A4 : Option Addr) (c4 : Nat) (lf : List S58) (w : World) (hr1 : Kd.C k35 w A1 l1.length l1) (hc1 : l1.length ≤ c1) (hr2 : (Kd.int .i64).C w A2 l2.length l2) (hc2 : l2.length ≤ c2)
    (hr4 : Kd.C k58 w A4 lf.length lf) (hc4 : lf.length ≤ c4) (h1 : ansM l1 = true) (hn : n ≤ 80) (hl : l1.length ≤ 15) (hlf : lf.length ≤ 50) (hT : NTabs w) :
    Calls Tryz.prog 3 #[.int .i64 (n : Int), .slice A1 l1.length c1, .slice A2 l2.length c2, .int .i64 a3, .agg #[.int .i64 at_, .slice A4 lf.length c4]] w fun e w' => e = .returned (.bool true) ∧ Below w.heap.size w w' := by
  have a1 : decide ((n : Int) < 0) = false := decide_eq_false (by omega)
  have a2 : decide ((n : Int) > 80) = false := decide_eq_false (by omega)
  have a3' : decide ((80 : Int) < (n : Int)) = false := decide_eq_false (by omega)
  have a4 : decide (80 < n) = false := decide_eq_false (by omega)
  have b5 : decide ((l1.length : Int) > 15) = false := decide_eq_false (by omega)
  have b6 : decide ((15 : Int) < (l1.length : Int)) = false := decide_eq_false (by omega)
  have b7 : decide (15 < l1.length) = false := decide_eq_false (by omega)
  have c3 : decide ((lf.length : Int) > 50) = false := decide_eq_false (by omega)
  have c4' : decide ((50 : Int) < (lf.length : Int)) = false := decide_eq_false (by omega)
  have c5 : decide (50 < lf.length) = false := decide_eq_false (by omega)
  have hb0 := below_alloc (Below.refl w.heap.size w) (.cells #[.int .i64 at_, .slice A4 lf.length c4] 26)
  have hn0 := blk_new w (.cells #[.int .i64 at_, .slice A4 lf.length c4] 26)
  obtain ⟨W0, hW0⟩ : ∃ W0, W0 = w.alloc (.cells #[.int .i64 at_, .slice A4 lf.length c4] 26) := ⟨_, rfl⟩
  have HW0 := Aside0.mk hW0
  rw [← hW0] at hb0 hn0
  obtain ⟨q0, hq0⟩ : ∃ q0, w.heap.size = q0 := ⟨_, rfl⟩
  rw [hq0] at hn0
  have HQ0 := Aside0.mk hq0
  have N0 := Aside0.mk hn0
  have B0 := Aside0.mk hb0
  have HR1 := Aside0.mk (Kd.C_below hr1 hb0)
  have HR2 := Aside0.mk (Kd.C_below hr2 hb0)
  have HR4 := Aside0.mk (Kd.C_below hr4 hb0)
  have HC1 := Aside0.mk hc1
  have HC2 := Aside0.mk hc2
  have HC4 := Aside0.mk hc4
  have H1 := Aside0.mk h1
  have HN := Aside0.mk hn
  have HL := Aside0.mk hl
  have HLF := Aside0.mk hlf
  have HT := Aside0.mk (hT.on hb0)
  have HTW := Aside0.mk hT
  have hl2 : l2.length ≤ 9223372036854775807 := hr2.2.1
  have HL2 := Aside0.mk hl2
  have x0 := (blk_cell hn0 0).trans rfl
  have x1 := (blk_cell hn0 1).trans rfl
  clear hr1 hc1 hr2 hc2 hr4 hc4 h1 hn hl hlf hT hb0 hn0 hW0 hq0 hl2
  go_enter Tryz.func3, Tryz.ntmps3
  go_upto_region 1 with (fail)
  rw [← HW0.out, HQ0.out]
  go_upto_region 7 with (first
    | (go_at_call 6; refine (two_from T2.out (by rw [DS.new_len]; have := HN.out; omega)).mono ?_; rintro e w8 ⟨rfl, rfl⟩)
    | (go_at_call 5; refine (two_new S1.out (by have := HN.out; omega)).mono ?_; rintro e w2 ⟨rfl, hS⟩; have T2 := Aside0.mk hS; clear hS)
    | (go_at_call 4; refine (st_new n (by have := HN.out; omega) W0 W0 (Below.refl _ _) [] (fun x hx => by cases hx)).mono ?_; rintro e w1 ⟨rfl, hS, -⟩; have S1 := Aside0.mk hS; clear hS))
  obtain ⟨g, hgq⟩ : ∃ g, W0.heap.size = g := ⟨_, rfl⟩
  obtain ⟨xg, hxq⟩ : ∃ xg, w1.heap.size = xg := ⟨_, rfl⟩
  rw [hgq, hxq] at T2
  rw [hgq, hxq]
  clear hgq hxq a1 a2 a3' a4 b5 b6 b7 c3 c4' c5 x0 x1 HW0 HQ0 S1
  go_wp2
  go_loopw [13, 14] (fun u13 u14 wr => ∃ (k : Nat) (nx : Int) (d : DS), u14 = .int .i64 (k : Int) ∧ u13 = .int .i64 nx ∧ Aside0 (k ≤ l1.length) ∧ Aside0 (PI n d) ∧ Aside0 (Two W0 [] wr g xg d d)) (fun _ u14 _ => l1.length + 1 - (intOf u14).toNat)
  case atStart => exact ⟨0, _, DS.new n, rfl, rfl, ⟨Nat.zero_le _⟩, ⟨⟨rfl, DS.new_len n, DS.new_bytes n⟩⟩, T2⟩
  case round =>
    obtain ⟨k, nx, d, rfl, rfl, HK, HPD, HS⟩ := hrel
    have hl := HL.out
    have hk := HK.out
    have hp0 : (0 : Int) ≤ (l1.length : Int) := by omega
    have hp1 : (l1.length : Int) ≤ 15 := by omega
    have hp4 : (0 : Int) ≤ (k : Int) := by omega
    have hp5 : (k : Int) ≤ 15 := by omega
    by_cases hlt : k < l1.length
    · have dl : decide ((k : Int) < (l1.length : Int)) = true := decide_eq_true (by omega)
      have dl' : decide (k < l1.length) = true := decide_eq_true hlt
      have hp6 : (k : Int) < (l1.length : Int) := by omega
      obtain ⟨ad, e1, hcell⟩ := mark_at HR1.out k hlt
      subst e1
      have hrg := ansM_rng H1.out k
      obtain ⟨x, hxq⟩ : ∃ x, l1.getD k z35 = x := ⟨_, rfl⟩
      rw [hxq] at hcell hrg
      obtain ⟨gen, nn, dn, ⟨st, os⟩⟩ := x
      dsimp only at hcell hrg
      have HST := Aside0.mk hrg
      have HCE := Aside0.mk hcell
      obtain ⟨x0, x1, x2, x3, x4⟩ := hcell wr HS.out.below
      have HLT := Aside0.mk hlt
      clear hcell hxq hrg
      by_cases h100 : os.size ≤ 100
      · have d6 : decide ((os.size : Int) > 100) = false := decide_eq_false (by omega)
        have d6' : decide ((100 : Int) < (os.size : Int)) = false := decide_eq_false (by omega)
        have d6'' : decide (100 < os.size) = false := decide_eq_false (by omega)
        have H100 := Aside0.mk h100
        clear h100 hl hk
        go_upto_region 12 with (fail)
        clear d6 d6' d6'' dl dl' x0 x1 x2 x3 x4
        by_cases hat : (k : Int) = a3
        case' pos =>
          have da : decide ((k : Int) = a3) = true := decide_eq_true hat
          have db : ((k : Int) == a3) = true := by simpa using hat
          (have b3 := (HS.out.below.block q0 (Array.getElem?_eq_some_iff.1 N0.out).1).trans N0.out)
          have j0 := (blk_cell b3 0).trans rfl
          have j1 := (blk_cell b3 1).trans rfl
          clear hat b3
          go_upto_region 15 with (first
            | (go_at_call 8; refine (two_arm' T3.out at_ A4 c4 lf HR4.out HC4.out).mono ?_; unfold TwoPost; rintro e w4 ⟨rfl, hS, -⟩; have T4 := Aside0.mk hS; clear hS i0 i1)
            | (go_at_call 7; refine (two_arm HS.out at_ A4 c4 lf HR4.out HC4.out (by have := HLF.out; omega)).mono ?_; unfold TwoPost; rintro e w3 ⟨rfl, hS, -⟩; have T3 := Aside0.mk hS; (have b3 := (hS.below.block q0 (Array.getElem?_eq_some_iff.1 N0.out).1).trans N0.out); have i0 := (blk_cell b3 0).trans rfl; have i1 := (blk_cell b3 1).trans rfl; clear hS b3 j0 j1))
          have HPI : Aside0 (PI n (d.arm at_ (lf.map fun x => x.f0))) := ⟨⟨HPD.out.p, HPD.out.len, DS.arm_bytes HPD.out.all _ _⟩⟩
          generalize d.arm at_ (lf.map fun x => x.f0) = d0 at T4 HPI
          clear da db
        case' neg =>
          have da : decide ((k : Int) = a3) = false := decide_eq_false hat
          have db : ((k : Int) == a3) = false := by simpa using hat
          clear hat
          go_upto_region 15 with (fail)
          have HPI := HPD
          have T4 := HS
          generalize d = d0 at T4 HPI
          clear da db
        all_goals
          obtain ⟨x0, x1, x2, x3, x4⟩ := HCE.out _ T4.out.below
          by_cases hpl : k < l2.length ∧ l2.getD k 0 ≠ 0
          case' pos =>
            obtain ⟨hpl1, hpl2⟩ := hpl
            obtain ⟨ad2, e2, hc2⟩ := place_at HR2.out k hpl1
            subst e2
            have y0 := hc2 _ T4.out.below
            obtain ⟨p, hp⟩ : ∃ p, l2.getD k 0 = p := ⟨_, rfl⟩
            rw [hp] at y0 hpl2
            have hp7 : (k : Int) < (l2.length : Int) := by omega
            have dp : decide ((k : Int) < (l2.length : Int)) = true := decide_eq_true hp7
            have dp' : decide (k < l2.length) = true := decide_eq_true hpl1
            have dq : (p != 0) = true := by simpa using hpl2
            clear hc2 hp hpl1 hpl2
            go_upto_region 18 with (fail)
            clear dp dp' dq y0 hp7
          case' neg =>
            obtain ⟨p, hp⟩ : ∃ p, nx = p := ⟨_, rfl⟩
            rw [hp]
            by_cases hpl1 : k < l2.length
            case' pos =>
              have hpl2 : l2.getD k 0 = 0 := Decidable.byContradiction fun h => hpl ⟨hpl1, h⟩
              obtain ⟨ad2, e2, hc2⟩ := place_at HR2.out k hpl1
              subst e2
              have y0 := hc2 _ T4.out.below
              rw [hpl2] at y0
              have hp7 : (k : Int) < (l2.length : Int) := by omega
              have dp : decide ((k : Int) < (l2.length : Int)) = true := decide_eq_true hp7
              have dp' : decide (k < l2.length) = true := decide_eq_true hpl1
              clear hc2 hp hpl1 hpl2 hpl
              go_upto_region 18 with (fail)
              clear dp dp' y0 hp7
            case' neg =>
              have dp : decide ((k : Int) < (l2.length : Int)) = false := decide_eq_false (by omega)
              have dp' : decide (k < l2.length) = false := decide_eq_false hpl1
              clear hp hpl1 hpl
              go_upto_region 18 with (fail)
              clear dp dp'
          all_goals
            obtain ⟨⟨rd, ra, rE⟩, hr⟩ : ∃ r, appendM crcO d0 p gen nn dn st os = r := ⟨_, rfl⟩
            have hrl := app_len crcO d0 p gen nn dn st os
            have hra := app_bytes (crc := crcO) HPI.out.all p gen nn dn st os
            rw [hr] at hrl hra
            dsimp only at hrl hra
            have HAP := Aside0.mk hr
            have HRL : Aside0 (rd.restart.S.length = n) := ⟨hrl.trans HPI.out.len⟩
            have HRA : Aside0 (rd.restart.AllB) := ⟨DS.restart_bytes hra⟩
            obtain ⟨⟨ms, nq⟩, hsc⟩ : ∃ r, scanM crcO rd.restart gen = r := ⟨_, rfl⟩
            have hsl := scanM_len crcO rd.restart gen
            rw [hsc] at hsl
            dsimp only at hsl
            have HSL : Aside0 (ms.length ≤ 1000) := ⟨by have h1 := HRL.out; have h2 := HN.out; omega⟩
            have HSC := Aside0.mk hsc
            have hE : (rE == 0) = true ∨ (rE == 0) = false := by cases rE == 0 <;> simp
            clear hr hrl hra hsc hsl
            rcases hE with hE | hE
            all_goals
              go_upto_region 28 with (first
                | (go_at_call 14; refine (two_scan' T9.out gen HRA.out (by rw [HRL.out]; have := HN.out; omega)).mono ?_; unfold TwoScan; rw [HSC.out]; dsimp only; rintro e w10 ⟨v10, rfl, hR, hS, hB⟩; have T10 := Aside0.mk hS; have R10 := Aside0.mk hR; have O10 := Aside0.mk (Kd.R_below R9.out hB); clear hR hS hB u0 u1 u2 u3 u4)
                | (go_at_call 13; refine (two_scan T8.out gen HRA.out (by rw [HRL.out]; have := HN.out; omega) (HT.out.on T8.out.below)).mono ?_; unfold TwoScan; rw [HSC.out]; dsimp only; rintro e w9 ⟨v9, rfl, hR, hS, hB⟩; have T9 := Aside0.mk hS; have R9 := Aside0.mk hR; (obtain ⟨u0, u1, u2, u3, u4⟩ := HCE.out _ hS.below); clear hR hS hB t0 t1 t2 t3 t4)
                | (go_at_call 12; refine (two_restart' T7.out).mono ?_; unfold TwoPost; rintro e w8 ⟨rfl, hS, -⟩; have T8 := Aside0.mk hS; (obtain ⟨t0, t1, t2, t3, t4⟩ := HCE.out _ hS.below); clear hS)
                | (go_at_call 11; refine (two_restart T6.out).mono ?_; unfold TwoPost; rintro e w7 ⟨rfl, hS, -⟩; have T7 := Aside0.mk hS; clear hS)
                | (go_at_call 10; refine (two_append' T5.out p gen nn dn st os HST.out (by have := H100.out; omega) (by rw [HPI.out.len]; have := HN.out; omega) (by rw [HPI.out.p]; decide)).mono ?_; unfold TwoPost; rw [HAP.out]; dsimp only; rintro e w6 ⟨rfl, hS, -⟩; have T6 := Aside0.mk hS; clear hS s0 s1 s2 s3 s4)
                | (go_at_call 9; refine (two_append T4.out p gen nn dn st os HST.out (by have := H100.out; omega) (by rw [HPI.out.len]; have := HN.out; omega) (by rw [HPI.out.p]; decide) (HT.out.on T4.out.below)).mono ?_; unfold TwoPost; rw [HAP.out]; dsimp only; rintro e w5 ⟨rfl, hS, -⟩; have T5 := Aside0.mk hS; (obtain ⟨s0, s1, s2, s3, s4⟩ := HCE.out _ hS.below); clear hS x0 x1 x2 x3 x4))
              obtain ⟨A5, c5, hv5, hl5, hC5⟩ := Kd.R_reads O10.out
              obtain ⟨A6, c6, hv6, hl6, hC6⟩ := Kd.R_reads R10.out
              subst hv5
              subst hv6
              have SM : Aside0 (Calls Tryz.prog 15 #[.slice A5 ms.length c5, .slice A6 ms.length c6] w10 fun e w' => e = .returned (.bool true) ∧ Drawn0 w10 w') := ⟨lazarusref6_Same.calls (ms.length + 1) A5 c5 ms A6 c6 ms true w10 hC5 hl5 hC6 hl6 (same_one ms HSL.out)⟩
              clear hl5 hC5 hl6 hC6 hE
              go_wp2_with (go_at_call 15; refine SM.out.mono ?_; rintro e w11 ⟨rfl, hD⟩; have T11 := Aside0.mk (T10.out.after hD.below); clear hD)
              exact ⟨⟨k + 1, _, rd.restart, by go_num, rfl, ⟨HLT.out⟩, ⟨⟨rfl, HRL.out, HRA.out⟩⟩, T11⟩, by have := HLT.out; simp [intOf]; omega⟩
      · have d6 : decide ((os.size : Int) > 100) = true := decide_eq_true (by omega)
        have d6' : decide ((100 : Int) < (os.size : Int)) = true := decide_eq_true (by omega)
        have d6'' : decide (100 < os.size) = true := decide_eq_true (by omega)
        clear h100 hl hk
        go_wp2
        go_ret
        exact ⟨rfl, B0.out.trans (HS.out.below.mono B0.out.size)⟩
    · obtain rfl : k = l1.length := by omega
      have dl : decide ((l1.length : Int) < (l1.length : Int)) = false := decide_eq_false (by omega)
      have dl' : decide (l1.length < l1.length) = false := decide_eq_false (by omega)
      have BW : Aside0 (Below w.heap.size w wr) := ⟨B0.out.trans (HS.out.below.mono B0.out.size)⟩
      clear hlt hl hk
      go_wp2_with (go_at_call 16; refine (known6_any wr (HTW.out.on BW.out)).mono ?_; rintro e w8 ⟨rfl, hB⟩; have B8 := Aside0.mk (BW.out.trans (hB.mono BW.out.size)); clear hB)
      go_ret
      exact ⟨rfl, B8.out⟩
theorem lazaruslaw6_MarkPlays.calls (a0 : Int) (A1 : Option Addr) (c1 : Nat) (l1 : List S35) (A2 : Option Addr) (c2 : Nat) (l2 : List Int) (a3 : Int) (a4 : S26) (cs4 : Array Value) (r : Bool) (w : World) (hr1 : Kd.C k35 w A1 l1.length l1) (hc1 : l1.length ≤ c1) (hr2 : (Kd.int .i64).C w A2 l2.length l2) (hc2 : l2.length ≤ c2) (hK4 : k26.K w a4 cs4.toList) (h : lazaruslaw6_MarkPlays.f a0 l1 l2 a3 a4 = some r) (hT : NTabs w) :
    Calls Tryz.prog 3 #[.int .i64 a0, .slice A1 l1.length c1, .slice A2 l2.length c2, .int .i64 a3, .agg cs4] w fun e w' => e = .returned (.bool r) ∧ Below w.heap.size w w' := by
  obtain ⟨A4, c4, rfl, hc4, hr4⟩ := crashK hK4
  unfold lazaruslaw6_MarkPlays.f at h
  by_cases hL : ansM l1 = true
  · rw [if_pos hL] at h
    obtain rfl : true = r := Option.some.inj h
    clear h hK4
    obtain ⟨at_, lf⟩ := a4
    dsimp only at hc4 hr4 ⊢
    have hb0 := below_alloc (Below.refl w.heap.size w) (.cells #[.int .i64 at_, .slice A4 lf.length c4] 26)
    have hn0 := blk_new w (.cells #[.int .i64 at_, .slice A4 lf.length c4] 26)
    obtain ⟨W0, hW0⟩ : ∃ W0, W0 = w.alloc (.cells #[.int .i64 at_, .slice A4 lf.length c4] 26) := ⟨_, rfl⟩
    have HW0 := Aside0.mk hW0
    rw [← hW0] at hb0 hn0
    have B0 := Aside0.mk hb0
    have x0 := (blk_cell hn0 0).trans rfl
    have x1 := (blk_cell hn0 1).trans rfl
    clear hb0 hn0 hW0
    by_cases hg : a0 < 0
    · have fg0 : decide (a0 < 0) = true := decide_eq_true (by omega)
      clear hr1 hc1 hr2 hc2 hr4 hc4 hL hT hg
      go_enter Tryz.func3, Tryz.ntmps3
      go_upto_region 1 with (fail)
      rw [← HW0.out]
      go_wp2
      go_ret
      exact ⟨rfl, B0.out⟩
    have fg0 : decide (a0 < 0) = false := decide_eq_false (by omega)
    by_cases hh : 80 < a0
    · have fh0 : decide (a0 > 80) = true := decide_eq_true (by omega)
      have fh1 : decide ((80 : Int) < a0) = true := decide_eq_true (by omega)
      clear hr1 hc1 hr2 hc2 hr4 hc4 hL hT hg hh
      go_enter Tryz.func3, Tryz.ntmps3
      go_upto_region 1 with (fail)
      rw [← HW0.out]
      go_wp2
      go_ret
      exact ⟨rfl, B0.out⟩
    have fh0 : decide (a0 > 80) = false := decide_eq_false (by omega)
    have fh1 : decide ((80 : Int) < a0) = false := decide_eq_false (by omega)
    by_cases hm : 15 < l1.length
    · have fm0 : decide ((l1.length : Int) > 15) = true := decide_eq_true (by omega)
      have fm1 : decide ((15 : Int) < (l1.length : Int)) = true := decide_eq_true (by omega)
      have fm2 : decide (15 < l1.length) = true := decide_eq_true (by omega)
      clear hr1 hc1 hr2 hc2 hr4 hc4 hL hT hg hh hm
      go_enter Tryz.func3, Tryz.ntmps3
      go_upto_region 1 with (fail)
      rw [← HW0.out]
      go_wp2
      go_ret
      exact ⟨rfl, B0.out⟩
    have fm0 : decide ((l1.length : Int) > 15) = false := decide_eq_false (by omega)
    have fm1 : decide ((15 : Int) < (l1.length : Int)) = false := decide_eq_false (by omega)
    have fm2 : decide (15 < l1.length) = false := decide_eq_false (by omega)
    by_cases hn : 50 < lf.length
    · have fn0 : decide ((lf.length : Int) > 50) = true := decide_eq_true (by omega)
      have fn1 : decide ((50 : Int) < (lf.length : Int)) = true := decide_eq_true (by omega)
      have fn2 : decide (50 < lf.length) = true := decide_eq_true (by omega)
      clear hr1 hc1 hr2 hc2 hr4 hc4 hL hT hg hh hm hn
      go_enter Tryz.func3, Tryz.ntmps3
      go_upto_region 1 with (fail)
      rw [← HW0.out]
      go_wp2
      go_ret
      exact ⟨rfl, B0.out⟩
    have fn0 : decide ((lf.length : Int) > 50) = false := decide_eq_false (by omega)
    have fn1 : decide ((50 : Int) < (lf.length : Int)) = false := decide_eq_false (by omega)
    have fn2 : decide (50 < lf.length) = false := decide_eq_false (by omega)
    obtain ⟨n, rfl⟩ : ∃ n : Nat, a0 = (n : Int) := ⟨a0.toNat, by omega⟩
    exact plays_core n A1 c1 l1 A2 c2 l2 a3 at_ A4 c4 lf w hr1 hc1 hr2 hc2 hr4 hc4 hL (by omega) (by omega) (by omega) hT
  · rw [if_neg hL] at h
    cases h
end Go.Proofs.YtkicekddkgehoaaGreatDoor.LMarkPlays
