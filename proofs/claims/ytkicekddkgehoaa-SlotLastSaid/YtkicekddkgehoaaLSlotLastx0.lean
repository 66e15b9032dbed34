/- The contract of the law SlotLast, by hand. -/
import Derived.Test.YtkicekddkgehoaaSlot3
import Derived.RangeFuncNested
import Derived.RangeFuncBound
import Derived.RangeFuncCalls
import Derived.RangeFuncLeaves
import Derived.RangeFuncBox
import Derived.Shelf.Abstract
import Derived.Shelf.RegionOpen
import Derived.OwnWalkIn
import Derived.TacticsInMore
import Derived.LoopNIn
import Derived.LoopIn
namespace Go.Proofs.Ytkicekddkgehoaa.LSlotLast
open Go.RowKit Go.Proofs.Ytkicekddkgehoaa.QSlotLast Go.Proofs.Ytkicekddkgehoaa.Hnd Go.Proofs.YtkicekddkgehoaaW.PrintWords Go.Proofs.YtkicekddkgehoaaW.PrintLast Go.Proofs.YtkicekddkgehoaaW.Dk Go.Shelf
set_option linter.unusedVariables false
set_option linter.unusedSimpArgs false
attribute [local go_sem] Oper.semAt_some
structure S38 where
  f0 : Int
  f1 : (List S63)
def k38 : Kd S38 := Kd.iso (Kd.pair (Kd.int .i64) (Kd.slice 63 k63)) (fun x : S38 => (x.f0, x.f1))
structure S40 where
  f0 : (List Int)
  f1 : Bool
  f2 : S38
  f3 : Int
def z40 : S40 := ⟨[], false, ⟨0, []⟩, 0⟩
def k40 : Kd S40 := Kd.iso (Kd.pair (Kd.slice 5 (Kd.int .u8)) (Kd.pair Kd.bool (Kd.pair k38 (Kd.int .i64)))) (fun x : S40 => (x.f0, x.f1, x.f2, x.f3))
def actAt (xs : List S40) (k : Nat) : S40 := xs.getD k z40
theorem act_at {w : World} {A : Option Addr} {n : Nat} {xs : List S40} (h : Kd.C k40 w A n xs) (k : Nat) (hk : k < n) : ∃ ad Ab cb Al cl, A = some ad ∧ ad.block < w.heap.size ∧
    w.cell? (ad.add (k * 5)) = some (.slice Ab (actAt xs k).f0.length cb) ∧ w.cell? ⟨(ad.add (k * 5)).block, (ad.add (k * 5)).off + 1, none⟩ = some (.bool (actAt xs k).f1) ∧ w.cell? ⟨(ad.add (k * 5)).block, (ad.add (k * 5)).off + 2, none⟩ = some (.int .i64 (actAt xs k).f2.f0) ∧
    w.cell? ⟨(ad.add (k * 5)).block, (ad.add (k * 5)).off + 3, none⟩ = some (.slice Al (actAt xs k).f2.f1.length cl) ∧ w.cell? ⟨(ad.add (k * 5)).block, (ad.add (k * 5)).off + 4, none⟩ = some (.int .i64 (actAt xs k).f3) ∧
    (actAt xs k).f0.length ≤ cb ∧ (Kd.int .u8).C w Ab (actAt xs k).f0.length (actAt xs k).f0 ∧ (actAt xs k).f2.f1.length ≤ cl ∧ Kd.C k63 w Al (actAt xs k).f2.f1.length (actAt xs k).f2.f1 := by
  have hlt : ∀ ad, A = some ad → ad.block < w.heap.size := fun ad e => by subst e; exact Kd.C_lt h (by omega) (by decide)
  obtain ⟨ad, c, e, hl, hK, hc0⟩ := Kd.C_get h z40 (k : Int) (by omega) (by omega)
  rw [Int.toNat_natCast] at hK hc0
  have hc : ∀ j u, c[j]? = some u → w.cell? (ad.add (k * 5 + j)) = some u := hc0
  change (k40).K w (actAt xs k) c at hK
  generalize actAt xs k = x at hK ⊢
  obtain ⟨c0, c1, rfl, ⟨Ab, cb, h0, hlb, hCb⟩, c2, c3, rfl, h2, c4, c5, rfl, ⟨c6, c7, rfl, h6, Al, cl, h7, hll, hCl⟩, h5⟩ := hK
  have h2' : c2 = [.bool x.f1] := h2
  have h5' : c5 = [.int .i64 x.f3] := h5
  have h6' : c6 = [.int .i64 x.f2.f0] := h6
  have h0' : c0 = [.slice Ab x.f0.length cb] := h0
  have h7' : c7 = [.slice Al x.f2.f1.length cl] := h7
  subst h0' h2' h5' h6' h7'
  refine ⟨ad, Ab, cb, Al, cl, e, hlt ad e, ?_, ?_, ?_, ?_, ?_, hlb, hCb, hll, hCl⟩
  · have := hc 0 _ rfl
    rwa [Nat.add_zero] at this
  · have := hc 1 _ rfl
    rwa [← Addr.add_add] at this
  · have := hc 2 _ rfl
    rwa [← Addr.add_add] at this
  · have := hc 3 _ rfl
    rwa [← Addr.add_add] at this
  · have := hc 4 _ rfl
    rwa [← Addr.add_add] at this
theorem room_rd (A0 : Option Addr) (l0 : List Int) (w : World) (hr0 : (Kd.int .u8).C w A0 l0.length l0) : Rd w [] w A0 l0 :=
  ⟨hr0, fun ad e hp => by
    subst e
    have := Kd.C_lt hr0 hp (by decide)
    exact ⟨.inl this, this⟩⟩
def okAct (x : S40) : Bool := DS.isB x.f0
def lazaruslaw5_SlotLast.f (l0 : List S40) : Option Bool := if l0.all okAct = true then some true else none
theorem okAct_at {l : List S40} (h : l.all okAct = true) (k : Nat) : DS.Bytes (actAt l k).f0 := by
  unfold actAt
  by_cases hk : k < l.length
  · rw [List.getD_eq_getElem?_getD, List.getElem?_eq_getElem hk]
    exact DS.isB_bytes (List.all_eq_true.1 h _ (List.getElem_mem hk))
  · rw [List.getD_eq_getElem?_getD, List.getElem?_eq_none (by omega)]
    exact DS.bytes_nil
theorem crcO_rng (b : List Int) : 0 ≤ crcO b ∧ crcO b < 4294967296 := ⟨crcO_lo b, crcO_hi b⟩
set_option maxHeartbeats 8000000 in
set_option maxRecDepth 100000 in
theorem lazaruslaw5_SlotLast.calls (A0 : Option Addr) (c0 : Nat) (l0 : List S40) (r : Bool) (w : World) (hr0 : Kd.C k40 w A0 l0.length l0) (hc0 : l0.length ≤ c0) (h : lazaruslaw5_SlotLast.f l0 = some r) :
    Calls Try.prog 6 #[.slice A0 l0.length c0] w fun e w' => e = .returned (.bool r) ∧ Below w.heap.size w w' := by
  unfold lazaruslaw5_SlotLast.f at h
  by_cases hB : l0.all okAct = true
  · rw [if_pos hB] at h
    obtain rfl : true = r := Option.some.inj h
    clear h
    by_cases h20 : l0.length ≤ 20
    · have d0 : decide ((l0.length : Int) > 20) = false := decide_eq_false (by omega)
      have d0' : decide ((20 : Int) < (l0.length : Int)) = false := decide_eq_false (by omega)
      have d0'' : decide (20 < l0.length) = false := decide_eq_false (by omega)
      have HR := Aside0.mk hr0
      have HB := Aside0.mk hB
      have H20 := Aside0.mk h20
      clear hr0 hc0 hB h20
      go_enter Try.func6, Try.ntmps6
      go_wp2_with (go_at_call 7; refine (st_new 100 (by decide) w _ (Below.refl _ _) [] (fun x hx => by cases hx)).mono ?_; rintro e w1 ⟨rfl, hS, hM⟩; have S1 := Aside0.mk hS; clear hS hM)
      go_loopw [4, 5, 6] (fun u4 u5 u6 wr => ∃ (k : Nat) (gen : Int) (last : List Int) (d : DS), u6 = .int .i64 (k : Int) ∧ u4 = .int .i64 gen ∧ u5 = .string (strOfNums last) ∧ Aside0 (k ≤ l0.length) ∧ Aside0 (gen ≤ (k : Int)) ∧ Aside0 (DS.Kept crcO d gen last) ∧ Aside0 (St w [] wr w.heap.size d)) (fun u4 u5 u6 _ => l0.length + 1 - (intOf u6).toNat)
      case atStart => exact ⟨0, 0, [], _, rfl, rfl, rfl, ⟨Nat.zero_le _⟩, ⟨by decide⟩, ⟨DS.kept_new crcO⟩, S1⟩
      case round =>
        obtain ⟨k, gen, last, d, rfl, rfl, rfl, HK, HG, HKP, HS⟩ := hrel
        by_cases hlt : k < l0.length
        · have hd : decide ((k : Int) < (l0.length : Int)) = true := decide_eq_true (by omega)
          have hd2 : decide (k < l0.length) = true := decide_eq_true hlt
          obtain ⟨ad, Ab, cb, Al, cl, e1, hlb, y0, y1, y2, y3, y4, hlc, hCb, hll, hCl⟩ := act_at HR.out k hlt
          subst e1
          have hmv : ∀ j, wr.cell? ⟨(ad.add (k * 5)).block, j, none⟩ = w.cell? ⟨(ad.add (k * 5)).block, j, none⟩ := fun j => HS.out.2.1.cell (p := ⟨(ad.add (k * 5)).block, j, none⟩) (by show (ad.add (k * 5)).block < _; rw [Go.Proofs.Ytkicekddkgehoaa.Hnd.add_block]; exact hlb)
          have x0 := (HS.out.2.1.cell (p := ad.add (k * 5)) (by rw [Go.Proofs.Ytkicekddkgehoaa.Hnd.add_block]; exact hlb)).trans y0
          have x1 := (hmv _).trans y1
          have x2 := (hmv _).trans y2
          have x3 := (hmv _).trans y3
          have x4 := (hmv _).trans y4
          have hby := okAct_at HB.out k
          generalize actAt l0 k = x at *
          obtain ⟨b, arm, ⟨at_, lft⟩, ggen⟩ := x
          dsimp only at *
          have HCB := Aside0.mk hCb
          have HCL := Aside0.mk hCl
          have HLC := Aside0.mk hlc
          have HLL := Aside0.mk hll
          have HBY := Aside0.mk hby
          have HLT := Aside0.mk hlt
          have hp0 : (0 : Int) ≤ (k : Int) := by omega
          have hp1 : (k : Int) < (l0.length : Int) := by omega
          clear hmv y0 y1 y2 y3 y4 hlc hCb hll hCl hby hlt hlb
          go_upto_region 11 with (fail)
          have hq := blk_new wr (.cells #[.slice Ab b.length cb, .bool arm, .int .i64 at_, .slice Al lft.length cl, .int .i64 ggen] 40)
          have S1 := Aside0.mk (HS.out.more (below_alloc (Below.refl _ _) (.cells #[.slice Ab b.length cb, .bool arm, .int .i64 at_, .slice Al lft.length cl, .int .i64 ggen] 40)) wr.heap.size (Nat.le_refl _) (by simp))
          obtain ⟨W1, hW1⟩ : ∃ W1, W1 = wr.alloc (.cells #[.slice Ab b.length cb, .bool arm, .int .i64 at_, .slice Al lft.length cl, .int .i64 ggen] 40) := ⟨_, rfl⟩
          rw [← hW1] at hq S1 ⊢
          have z0 : W1.cell? ⟨wr.heap.size, 0, none⟩ = some (.slice Ab b.length cb) := (blk_cell hq 0).trans rfl
          have z1 : W1.cell? ⟨wr.heap.size, 1, none⟩ = some (.bool arm) := (blk_cell hq 1).trans rfl
          have z2 : W1.cell? ⟨wr.heap.size, 2, none⟩ = some (.int .i64 at_) := (blk_cell hq 2).trans rfl
          have z3 : W1.cell? ⟨wr.heap.size, 3, none⟩ = some (.slice Al lft.length cl) := (blk_cell hq 3).trans rfl
          have HZ0 := Aside0.mk z0
          obtain ⟨q, hqq⟩ : ∃ q, wr.heap.size = q := ⟨_, rfl⟩
          rw [hqq] at z0 z1 z2 z3 HZ0 S1 ⊢
          have HRD := Aside0.mk (room_rd Ab b w HCB.out)
          have HKL := Aside0.mk HKP.out.lo
          have hgl := HKP.out.lo
          have hgk := HG.out
          have hgu : gen + 1 ≤ 9223372036854775807 := by have := H20.out; have := HLT.out; omega
          have hkk : (k : Int) + 1 ≤ 9223372036854775807 := by have := H20.out; have := HLT.out; omega
          have hgd : gen < 20 := by have := H20.out; have := HLT.out; omega
          have HGD := Aside0.mk hgd
          clear hq hW1 hqq x0 x1 x2 x3 x4 hd hd2 hgk hgd
          by_cases hb : b.length ≤ 300
          · have b1 : decide ((b.length : Int) > 300) = false := decide_eq_false (by omega)
            have b1' : decide ((300 : Int) < (b.length : Int)) = false := decide_eq_false (by omega)
            have b1'' : decide (300 < b.length) = false := decide_eq_false (by omega)
            by_cases hf : lft.length ≤ 50
            · have b2 : decide ((lft.length : Int) > 50) = false := decide_eq_false (by omega)
              have b2' : decide ((50 : Int) < (lft.length : Int)) = false := decide_eq_false (by omega)
              have b2'' : decide (50 < lft.length) = false := decide_eq_false (by omega)
              have HBL := Aside0.mk hb
              have HFL := Aside0.mk hf
              clear hb hf
              cases arm with
              | true =>
                go_upto_region 15 with (go_at_call 13; refine (st_arm S1.out at_ Al cl lft (Kd.C_below HCL.out S1.out.2.1) HLL.out (by have := HFL.out; omega)).mono ?_; rintro e w2 ⟨rfl, hS, hM⟩; have S2 := Aside0.mk hS; (have zz0 := (cell_of_heap (p := ⟨q, 0, none⟩) (hM q (by simp))).trans HZ0.out); clear hS hM)
                obtain ⟨d0, hd0⟩ : ∃ d0, d0 = ({ d with armed := true, at_ := at_, left := lft.map fun x => x.f0 } : DS) := ⟨_, rfl⟩
                have S2b : Aside0 (St w [q] w2 w.heap.size d0) := ⟨by rw [hd0]; exact S2.out⟩
                clear S2 z0 z1 z2 z3
                have HZZ := Aside0.mk zz0
                obtain ⟨e, E, hsv, hcase⟩ := DS.kept_save HKP.out HGD.out true at_ (lft.map fun x => x.f0) b HBL.out HBY.out d0 hd0
                have HSV := Aside0.mk hsv
                have HP0 : Aside0 (d0.P.length < 1073741824) := ⟨by rw [hd0]; show d.P.length < _; rw [HKP.out.calm.1]; decide⟩
                have HS0 : Aside0 (d0.S.length ≤ 4000) := ⟨by rw [hd0]; show d.S.length ≤ _; rw [HKP.out.len]; decide⟩
                clear hsv hd0
                rcases hcase with ⟨hE, hkp⟩ | ⟨hE, hkp⟩ | ⟨hE, hkp⟩
                · subst hE
                  have hld := hkp.load crcO_rng
                  have HKP2 := Aside0.mk hkp
                  have HAB := Aside0.mk hkp.all
                  have HLN : Aside0 (e.restart.S.length ≤ 4000) := ⟨by rw [hkp.len]; decide⟩
                  clear hkp
                  rw [show decide (0 < gen + 1) = true from decide_eq_true (by have := HKL.out; omega)] at hld
                  by_cases hg0 : 0 < gen
                  · have g1 : decide (gen > 0) = true := decide_eq_true hg0
                    have g2 : decide (0 < gen) = true := decide_eq_true hg0
                    have n1 : (gen + 1 == gen) = false := beq_eq_false_iff_ne.2 (by omega)
                    have n2 : (gen == gen + 1) = false := beq_eq_false_iff_ne.2 (by omega)
                    have n3 : ¬ gen + 1 = gen := by omega
                    have HLD := Aside0.mk hld
                    clear hld hg0
                    go_wp2_with (first
                      | (go_at_call 9; refine (st_load S4.out HAB.out HLN.out).mono ?_; rw [HLD.out]; rintro e_ w5 ⟨v, rfl, hR, hS, hB⟩; have S5 := Aside0.mk hS; (obtain ⟨A5, c5, hv, -, hC⟩ := Kd.R_reads hR); (replace hv : v = .slice A5 (b).length c5 := hv); subst hv; (have hcv := conv_str (A := A5) (n := (b).length) (c := c5) (show (Kd.int .u8).C w5 A5 (b).length (b) from hC)); (have hcw := conv_str (A := Ab) (n := b.length) (c := cb) (HRD.out.step' (Below.refl _ _) hS.2.1 (fun x hx => by cases hx) (fun x hx => by cases hx)).1); (have zw := (cell_of_heap (p := ⟨q, 0, none⟩) (hB.block q (S4.out.2.2 q (by simp)))).trans ZZ4.out); have HC5 := Aside0.mk hC; clear hR hS hB hC)
                      | (go_at_call 18; refine (st_restart S3.out).mono ?_; rintro e_ w4 ⟨rfl, hS, hM⟩; have S4 := Aside0.mk hS; (have ZZ4 := Aside0.mk ((cell_of_heap (p := ⟨q, 0, none⟩) (hM q (by simp))).trans ZZ3.out)); clear hS hM)
                      | (go_at_call 8; refine (st_save S2b.out (gen + 1) Ab cb b ((HRD.out.step' (Below.refl _ _) S2b.out.2.1 (fun x hx => by cases hx) (fun x hx => by cases hx)).mono (fun x hx => by cases hx)) HLC.out (by have := HBL.out; omega) HP0.out HS0.out).mono ?_; rw [HSV.out]; rintro e_ w3 ⟨rfl, hS, hM⟩; have S3 := Aside0.mk hS; (have ZZ3 := Aside0.mk ((cell_of_heap (p := ⟨q, 0, none⟩) (hM q (by simp))).trans HZZ.out)); clear hS hM))
                    go_region_held (fun w' => (convert 22 9 (.slice A5 b.length c5)).run Try.prog w' = .ok (.string (strOfNums b)) w') (exact conv_str (Kd.C_drew HC5.out)) (fail)
                    go_wp2
                    all_goals exact ⟨⟨k + 1, gen + 1, b, e.restart, by go_num, rfl, rfl, ⟨by have := HLT.out; omega⟩, ⟨by have := HG.out; omega⟩, HKP2, ⟨S5.out.drew.less (fun y hy => by cases hy)⟩⟩, by have := HLT.out; simp [intOf]; omega⟩
                  · have g1 : decide (gen > 0) = false := decide_eq_false hg0
                    have g2 : decide (0 < gen) = false := decide_eq_false hg0
                    have n1 : (gen + 1 == gen) = false := beq_eq_false_iff_ne.2 (by omega)
                    have n2 : (gen == gen + 1) = false := beq_eq_false_iff_ne.2 (by omega)
                    have n3 : ¬ gen + 1 = gen := by omega
                    have HLD := Aside0.mk hld
                    clear hld hg0
                    go_wp2_with (first
                      | (go_at_call 9; refine (st_load S4.out HAB.out HLN.out).mono ?_; rw [HLD.out]; rintro e_ w5 ⟨v, rfl, hR, hS, hB⟩; have S5 := Aside0.mk hS; (obtain ⟨A5, c5, hv, -, hC⟩ := Kd.R_reads hR); (replace hv : v = .slice A5 (b).length c5 := hv); subst hv; (have hcv := conv_str (A := A5) (n := (b).length) (c := c5) (show (Kd.int .u8).C w5 A5 (b).length (b) from hC)); (have hcw := conv_str (A := Ab) (n := b.length) (c := cb) (HRD.out.step' (Below.refl _ _) hS.2.1 (fun x hx => by cases hx) (fun x hx => by cases hx)).1); (have zw := (cell_of_heap (p := ⟨q, 0, none⟩) (hB.block q (S4.out.2.2 q (by simp)))).trans ZZ4.out); have HC5 := Aside0.mk hC; clear hR hS hB hC)
                      | (go_at_call 18; refine (st_restart S3.out).mono ?_; rintro e_ w4 ⟨rfl, hS, hM⟩; have S4 := Aside0.mk hS; (have ZZ4 := Aside0.mk ((cell_of_heap (p := ⟨q, 0, none⟩) (hM q (by simp))).trans ZZ3.out)); clear hS hM)
                      | (go_at_call 8; refine (st_save S2b.out (gen + 1) Ab cb b ((HRD.out.step' (Below.refl _ _) S2b.out.2.1 (fun x hx => by cases hx) (fun x hx => by cases hx)).mono (fun x hx => by cases hx)) HLC.out (by have := HBL.out; omega) HP0.out HS0.out).mono ?_; rw [HSV.out]; rintro e_ w3 ⟨rfl, hS, hM⟩; have S3 := Aside0.mk hS; (have ZZ3 := Aside0.mk ((cell_of_heap (p := ⟨q, 0, none⟩) (hM q (by simp))).trans HZZ.out)); clear hS hM))
                    go_region_held (fun w' => (convert 22 9 (.slice A5 b.length c5)).run Try.prog w' = .ok (.string (strOfNums b)) w') (exact conv_str (Kd.C_drew HC5.out)) (fail)
                    go_wp2
                    all_goals exact ⟨⟨k + 1, gen + 1, b, e.restart, by go_num, rfl, rfl, ⟨by have := HLT.out; omega⟩, ⟨by have := HG.out; omega⟩, HKP2, ⟨S5.out.drew.less (fun y hy => by cases hy)⟩⟩, by have := HLT.out; simp [intOf]; omega⟩
                · subst hE
                  have hld := hkp.load crcO_rng
                  have HKP2 := Aside0.mk hkp
                  have HAB := Aside0.mk hkp.all
                  have HLN : Aside0 (e.restart.S.length ≤ 4000) := ⟨by rw [hkp.len]; decide⟩
                  clear hkp
                  by_cases hg0 : 0 < gen
                  · have g1 : decide (gen > 0) = true := decide_eq_true hg0
                    have g2 : decide (0 < gen) = true := decide_eq_true hg0
                    rw [g2] at hld
                    have n1 : (gen + 1 == gen) = false := beq_eq_false_iff_ne.2 (by omega)
                    have n2 : (gen == gen + 1) = false := beq_eq_false_iff_ne.2 (by omega)
                    have n3 : ¬ gen + 1 = gen := by omega
                    have HLD := Aside0.mk hld
                    clear hld hg0
                    go_wp2_with (first
                      | (go_at_call 9; refine (st_load S4.out HAB.out HLN.out).mono ?_; rw [HLD.out]; rintro e_ w5 ⟨v, rfl, hR, hS, hB⟩; have S5 := Aside0.mk hS; (obtain ⟨A5, c5, hv, -, hC⟩ := Kd.R_reads hR); (replace hv : v = .slice A5 (last).length c5 := hv); subst hv; (have hcv := conv_str (A := A5) (n := (last).length) (c := c5) (show (Kd.int .u8).C w5 A5 (last).length (last) from hC)); (have hcw := conv_str (A := Ab) (n := b.length) (c := cb) (HRD.out.step' (Below.refl _ _) hS.2.1 (fun x hx => by cases hx) (fun x hx => by cases hx)).1); (have zw := (cell_of_heap (p := ⟨q, 0, none⟩) (hB.block q (S4.out.2.2 q (by simp)))).trans ZZ4.out); have HC5 := Aside0.mk hC; clear hR hS hB hC)
                      | (go_at_call 18; refine (st_restart S3.out).mono ?_; rintro e_ w4 ⟨rfl, hS, hM⟩; have S4 := Aside0.mk hS; (have ZZ4 := Aside0.mk ((cell_of_heap (p := ⟨q, 0, none⟩) (hM q (by simp))).trans ZZ3.out)); clear hS hM)
                      | (go_at_call 8; refine (st_save S2b.out (gen + 1) Ab cb b ((HRD.out.step' (Below.refl _ _) S2b.out.2.1 (fun x hx => by cases hx) (fun x hx => by cases hx)).mono (fun x hx => by cases hx)) HLC.out (by have := HBL.out; omega) HP0.out HS0.out).mono ?_; rw [HSV.out]; rintro e_ w3 ⟨rfl, hS, hM⟩; have S3 := Aside0.mk hS; (have ZZ3 := Aside0.mk ((cell_of_heap (p := ⟨q, 0, none⟩) (hM q (by simp))).trans HZZ.out)); clear hS hM))
                    all_goals exact ⟨⟨k + 1, gen, last, e.restart, by go_num, rfl, rfl, ⟨by have := HLT.out; omega⟩, ⟨by have := HG.out; omega⟩, HKP2, ⟨S5.out.less (fun y hy => by cases hy)⟩⟩, by have := HLT.out; simp [intOf]; omega⟩
                  · have g1 : decide (gen > 0) = false := decide_eq_false hg0
                    have g2 : decide (0 < gen) = false := decide_eq_false hg0
                    rw [g2] at hld
                    have n1 : (gen + 1 == gen) = false := beq_eq_false_iff_ne.2 (by omega)
                    have n2 : (gen == gen + 1) = false := beq_eq_false_iff_ne.2 (by omega)
                    have n3 : ¬ gen + 1 = gen := by omega
                    have HLD := Aside0.mk hld
                    clear hld hg0
                    go_wp2_with (first
                      | (go_at_call 9; refine (st_load S4.out HAB.out HLN.out).mono ?_; rw [HLD.out]; rintro e_ w5 ⟨v, rfl, hR, hS, hB⟩; have S5 := Aside0.mk hS; (obtain ⟨A5, c5, hv, -, hC⟩ := Kd.R_reads hR); (replace hv : v = .slice A5 (last).length c5 := hv); subst hv; (have hcv := conv_str (A := A5) (n := (last).length) (c := c5) (show (Kd.int .u8).C w5 A5 (last).length (last) from hC)); (have hcw := conv_str (A := Ab) (n := b.length) (c := cb) (HRD.out.step' (Below.refl _ _) hS.2.1 (fun x hx => by cases hx) (fun x hx => by cases hx)).1); (have zw := (cell_of_heap (p := ⟨q, 0, none⟩) (hB.block q (S4.out.2.2 q (by simp)))).trans ZZ4.out); have HC5 := Aside0.mk hC; clear hR hS hB hC)
                      | (go_at_call 18; refine (st_restart S3.out).mono ?_; rintro e_ w4 ⟨rfl, hS, hM⟩; have S4 := Aside0.mk hS; (have ZZ4 := Aside0.mk ((cell_of_heap (p := ⟨q, 0, none⟩) (hM q (by simp))).trans ZZ3.out)); clear hS hM)
                      | (go_at_call 8; refine (st_save S2b.out (gen + 1) Ab cb b ((HRD.out.step' (Below.refl _ _) S2b.out.2.1 (fun x hx => by cases hx) (fun x hx => by cases hx)).mono (fun x hx => by cases hx)) HLC.out (by have := HBL.out; omega) HP0.out HS0.out).mono ?_; rw [HSV.out]; rintro e_ w3 ⟨rfl, hS, hM⟩; have S3 := Aside0.mk hS; (have ZZ3 := Aside0.mk ((cell_of_heap (p := ⟨q, 0, none⟩) (hM q (by simp))).trans HZZ.out)); clear hS hM))
                    all_goals exact ⟨⟨k + 1, gen, last, e.restart, by go_num, rfl, rfl, ⟨by have := HLT.out; omega⟩, ⟨by have := HG.out; omega⟩, HKP2, ⟨S5.out.less (fun y hy => by cases hy)⟩⟩, by have := HLT.out; simp [intOf]; omega⟩
                · subst hE
                  have hld := hkp.load crcO_rng
                  have HKP2 := Aside0.mk hkp
                  have HAB := Aside0.mk hkp.all
                  have HLN : Aside0 (e.restart.S.length ≤ 4000) := ⟨by rw [hkp.len]; decide⟩
                  clear hkp
                  rw [show decide (0 < gen + 1) = true from decide_eq_true (by have := HKL.out; omega)] at hld
                  by_cases hg0 : 0 < gen
                  · have g1 : decide (gen > 0) = true := decide_eq_true hg0
                    have g2 : decide (0 < gen) = true := decide_eq_true hg0
                    have n1 : (gen + 1 == gen) = false := beq_eq_false_iff_ne.2 (by omega)
                    have n2 : (gen == gen + 1) = false := beq_eq_false_iff_ne.2 (by omega)
                    have n3 : ¬ gen + 1 = gen := by omega
                    have HLD := Aside0.mk hld
                    clear hld hg0
                    go_wp2_with (first
                      | (go_at_call 9; refine (st_load S4.out HAB.out HLN.out).mono ?_; rw [HLD.out]; rintro e_ w5 ⟨v, rfl, hR, hS, hB⟩; have S5 := Aside0.mk hS; (obtain ⟨A5, c5, hv, -, hC⟩ := Kd.R_reads hR); (replace hv : v = .slice A5 (b).length c5 := hv); subst hv; (have hcv := conv_str (A := A5) (n := (b).length) (c := c5) (show (Kd.int .u8).C w5 A5 (b).length (b) from hC)); (have hcw := conv_str (A := Ab) (n := b.length) (c := cb) (HRD.out.step' (Below.refl _ _) hS.2.1 (fun x hx => by cases hx) (fun x hx => by cases hx)).1); (have zw := (cell_of_heap (p := ⟨q, 0, none⟩) (hB.block q (S4.out.2.2 q (by simp)))).trans ZZ4.out); have HC5 := Aside0.mk hC; clear hR hS hB hC)
                      | (go_at_call 18; refine (st_restart S3.out).mono ?_; rintro e_ w4 ⟨rfl, hS, hM⟩; have S4 := Aside0.mk hS; (have ZZ4 := Aside0.mk ((cell_of_heap (p := ⟨q, 0, none⟩) (hM q (by simp))).trans ZZ3.out)); clear hS hM)
                      | (go_at_call 8; refine (st_save S2b.out (gen + 1) Ab cb b ((HRD.out.step' (Below.refl _ _) S2b.out.2.1 (fun x hx => by cases hx) (fun x hx => by cases hx)).mono (fun x hx => by cases hx)) HLC.out (by have := HBL.out; omega) HP0.out HS0.out).mono ?_; rw [HSV.out]; rintro e_ w3 ⟨rfl, hS, hM⟩; have S3 := Aside0.mk hS; (have ZZ3 := Aside0.mk ((cell_of_heap (p := ⟨q, 0, none⟩) (hM q (by simp))).trans HZZ.out)); clear hS hM))
                    go_region_held (fun w' => (convert 22 9 (.slice A5 b.length c5)).run Try.prog w' = .ok (.string (strOfNums b)) w') (exact conv_str (Kd.C_drew HC5.out)) (fail)
                    go_wp2
                    all_goals exact ⟨⟨k + 1, gen + 1, b, e.restart, by go_num, rfl, rfl, ⟨by have := HLT.out; omega⟩, ⟨by have := HG.out; omega⟩, HKP2, ⟨S5.out.drew.less (fun y hy => by cases hy)⟩⟩, by have := HLT.out; simp [intOf]; omega⟩
                  · have g1 : decide (gen > 0) = false := decide_eq_false hg0
                    have g2 : decide (0 < gen) = false := decide_eq_false hg0
                    have n1 : (gen + 1 == gen) = false := beq_eq_false_iff_ne.2 (by omega)
                    have n2 : (gen == gen + 1) = false := beq_eq_false_iff_ne.2 (by omega)
                    have n3 : ¬ gen + 1 = gen := by omega
                    have HLD := Aside0.mk hld
                    clear hld hg0
                    go_wp2_with (first
                      | (go_at_call 9; refine (st_load S4.out HAB.out HLN.out).mono ?_; rw [HLD.out]; rintro e_ w5 ⟨v, rfl, hR, hS, hB⟩; have S5 := Aside0.mk hS; (obtain ⟨A5, c5, hv, -, hC⟩ := Kd.R_reads hR); (replace hv : v = .slice A5 (b).length c5 := hv); subst hv; (have hcv := conv_str (A := A5) (n := (b).length) (c := c5) (show (Kd.int .u8).C w5 A5 (b).length (b) from hC)); (have hcw := conv_str (A := Ab) (n := b.length) (c := cb) (HRD.out.step' (Below.refl _ _) hS.2.1 (fun x hx => by cases hx) (fun x hx => by cases hx)).1); (have zw := (cell_of_heap (p := ⟨q, 0, none⟩) (hB.block q (S4.out.2.2 q (by simp)))).trans ZZ4.out); have HC5 := Aside0.mk hC; clear hR hS hB hC)
                      | (go_at_call 18; refine (st_restart S3.out).mono ?_; rintro e_ w4 ⟨rfl, hS, hM⟩; have S4 := Aside0.mk hS; (have ZZ4 := Aside0.mk ((cell_of_heap (p := ⟨q, 0, none⟩) (hM q (by simp))).trans ZZ3.out)); clear hS hM)
                      | (go_at_call 8; refine (st_save S2b.out (gen + 1) Ab cb b ((HRD.out.step' (Below.refl _ _) S2b.out.2.1 (fun x hx => by cases hx) (fun x hx => by cases hx)).mono (fun x hx => by cases hx)) HLC.out (by have := HBL.out; omega) HP0.out HS0.out).mono ?_; rw [HSV.out]; rintro e_ w3 ⟨rfl, hS, hM⟩; have S3 := Aside0.mk hS; (have ZZ3 := Aside0.mk ((cell_of_heap (p := ⟨q, 0, none⟩) (hM q (by simp))).trans HZZ.out)); clear hS hM))
                    go_region_held (fun w' => (convert 22 9 (.slice A5 b.length c5)).run Try.prog w' = .ok (.string (strOfNums b)) w') (exact conv_str (Kd.C_drew HC5.out)) (fail)
                    go_wp2
                    all_goals exact ⟨⟨k + 1, gen + 1, b, e.restart, by go_num, rfl, rfl, ⟨by have := HLT.out; omega⟩, ⟨by have := HG.out; omega⟩, HKP2, ⟨S5.out.drew.less (fun y hy => by cases hy)⟩⟩, by have := HLT.out; simp [intOf]; omega⟩
              | false =>
                go_upto_region 15 with (fail)
                obtain ⟨w2, hw2⟩ : ∃ w2, w2 = W1 := ⟨_, rfl⟩
                rw [← hw2] at z0 HZ0 S1 ⊢
                obtain ⟨d0, hd0⟩ : ∃ d0, d0 = ({ d with armed := d.armed, at_ := d.at_, left := d.left } : DS) := ⟨_, rfl⟩
                have S2b : Aside0 (St w [q] w2 w.heap.size d0) := ⟨by rw [hd0]; exact S1.out⟩
                have zz0 := z0
                clear S1 z0 z1 z2 z3 hw2
                have HZZ := Aside0.mk zz0
                obtain ⟨e, E, hsv, hcase⟩ := DS.kept_save HKP.out HGD.out d.armed d.at_ d.left b HBL.out HBY.out d0 hd0
                have HSV := Aside0.mk hsv
                have HP0 : Aside0 (d0.P.length < 1073741824) := ⟨by rw [hd0]; show d.P.length < _; rw [HKP.out.calm.1]; decide⟩
                have HS0 : Aside0 (d0.S.length ≤ 4000) := ⟨by rw [hd0]; show d.S.length ≤ _; rw [HKP.out.len]; decide⟩
                clear hsv hd0
                rcases hcase with ⟨hE, hkp⟩ | ⟨hE, hkp⟩ | ⟨hE, hkp⟩
                · subst hE
                  have hld := hkp.load crcO_rng
                  have HKP2 := Aside0.mk hkp
                  have HAB := Aside0.mk hkp.all
                  have HLN : Aside0 (e.restart.S.length ≤ 4000) := ⟨by rw [hkp.len]; decide⟩
                  clear hkp
                  rw [show decide (0 < gen + 1) = true from decide_eq_true (by have := HKL.out; omega)] at hld
                  by_cases hg0 : 0 < gen
                  · have g1 : decide (gen > 0) = true := decide_eq_true hg0
                    have g2 : decide (0 < gen) = true := decide_eq_true hg0
                    have n1 : (gen + 1 == gen) = false := beq_eq_false_iff_ne.2 (by omega)
                    have n2 : (gen == gen + 1) = false := beq_eq_false_iff_ne.2 (by omega)
                    have n3 : ¬ gen + 1 = gen := by omega
                    have HLD := Aside0.mk hld
                    clear hld hg0
                    go_wp2_with (first
                      | (go_at_call 9; refine (st_load S4.out HAB.out HLN.out).mono ?_; rw [HLD.out]; rintro e_ w5 ⟨v, rfl, hR, hS, hB⟩; have S5 := Aside0.mk hS; (obtain ⟨A5, c5, hv, -, hC⟩ := Kd.R_reads hR); (replace hv : v = .slice A5 (b).length c5 := hv); subst hv; (have hcv := conv_str (A := A5) (n := (b).length) (c := c5) (show (Kd.int .u8).C w5 A5 (b).length (b) from hC)); (have hcw := conv_str (A := Ab) (n := b.length) (c := cb) (HRD.out.step' (Below.refl _ _) hS.2.1 (fun x hx => by cases hx) (fun x hx => by cases hx)).1); (have zw := (cell_of_heap (p := ⟨q, 0, none⟩) (hB.block q (S4.out.2.2 q (by simp)))).trans ZZ4.out); have HC5 := Aside0.mk hC; clear hR hS hB hC)
                      | (go_at_call 18; refine (st_restart S3.out).mono ?_; rintro e_ w4 ⟨rfl, hS, hM⟩; have S4 := Aside0.mk hS; (have ZZ4 := Aside0.mk ((cell_of_heap (p := ⟨q, 0, none⟩) (hM q (by simp))).trans ZZ3.out)); clear hS hM)
                      | (go_at_call 8; refine (st_save S2b.out (gen + 1) Ab cb b ((HRD.out.step' (Below.refl _ _) S2b.out.2.1 (fun x hx => by cases hx) (fun x hx => by cases hx)).mono (fun x hx => by cases hx)) HLC.out (by have := HBL.out; omega) HP0.out HS0.out).mono ?_; rw [HSV.out]; rintro e_ w3 ⟨rfl, hS, hM⟩; have S3 := Aside0.mk hS; (have ZZ3 := Aside0.mk ((cell_of_heap (p := ⟨q, 0, none⟩) (hM q (by simp))).trans HZZ.out)); clear hS hM))
                    go_region_held (fun w' => (convert 22 9 (.slice A5 b.length c5)).run Try.prog w' = .ok (.string (strOfNums b)) w') (exact conv_str (Kd.C_drew HC5.out)) (fail)
                    go_wp2
                    all_goals exact ⟨⟨k + 1, gen + 1, b, e.restart, by go_num, rfl, rfl, ⟨by have := HLT.out; omega⟩, ⟨by have := HG.out; omega⟩, HKP2, ⟨S5.out.drew.less (fun y hy => by cases hy)⟩⟩, by have := HLT.out; simp [intOf]; omega⟩
                  · have g1 : decide (gen > 0) = false := decide_eq_false hg0
                    have g2 : decide (0 < gen) = false := decide_eq_false hg0
                    have n1 : (gen + 1 == gen) = false := beq_eq_false_iff_ne.2 (by omega)
                    have n2 : (gen == gen + 1) = false := beq_eq_false_iff_ne.2 (by omega)
                    have n3 : ¬ gen + 1 = gen := by omega
                    have HLD := Aside0.mk hld
                    clear hld hg0
                    go_wp2_with (first
                      | (go_at_call 9; refine (st_load S4.out HAB.out HLN.out).mono ?_; rw [HLD.out]; rintro e_ w5 ⟨v, rfl, hR, hS, hB⟩; have S5 := Aside0.mk hS; (obtain ⟨A5, c5, hv, -, hC⟩ := Kd.R_reads hR); (replace hv : v = .slice A5 (b).length c5 := hv); subst hv; (have hcv := conv_str (A := A5) (n := (b).length) (c := c5) (show (Kd.int .u8).C w5 A5 (b).length (b) from hC)); (have hcw := conv_str (A := Ab) (n := b.length) (c := cb) (HRD.out.step' (Below.refl _ _) hS.2.1 (fun x hx => by cases hx) (fun x hx => by cases hx)).1); (have zw := (cell_of_heap (p := ⟨q, 0, none⟩) (hB.block q (S4.out.2.2 q (by simp)))).trans ZZ4.out); have HC5 := Aside0.mk hC; clear hR hS hB hC)
                      | (go_at_call 18; refine (st_restart S3.out).mono ?_; rintro e_ w4 ⟨rfl, hS, hM⟩; have S4 := Aside0.mk hS; (have ZZ4 := Aside0.mk ((cell_of_heap (p := ⟨q, 0, none⟩) (hM q (by simp))).trans ZZ3.out)); clear hS hM)
                      | (go_at_call 8; refine (st_save S2b.out (gen + 1) Ab cb b ((HRD.out.step' (Below.refl _ _) S2b.out.2.1 (fun x hx => by cases hx) (fun x hx => by cases hx)).mono (fun x hx => by cases hx)) HLC.out (by have := HBL.out; omega) HP0.out HS0.out).mono ?_; rw [HSV.out]; rintro e_ w3 ⟨rfl, hS, hM⟩; have S3 := Aside0.mk hS; (have ZZ3 := Aside0.mk ((cell_of_heap (p := ⟨q, 0, none⟩) (hM q (by simp))).trans HZZ.out)); clear hS hM))
                    go_region_held (fun w' => (convert 22 9 (.slice A5 b.length c5)).run Try.prog w' = .ok (.string (strOfNums b)) w') (exact conv_str (Kd.C_drew HC5.out)) (fail)
                    go_wp2
                    all_goals exact ⟨⟨k + 1, gen + 1, b, e.restart, by go_num, rfl, rfl, ⟨by have := HLT.out; omega⟩, ⟨by have := HG.out; omega⟩, HKP2, ⟨S5.out.drew.less (fun y hy => by cases hy)⟩⟩, by have := HLT.out; simp [intOf]; omega⟩
                · subst hE
                  have hld := hkp.load crcO_rng
                  have HKP2 := Aside0.mk hkp
                  have HAB := Aside0.mk hkp.all
                  have HLN : Aside0 (e.restart.S.length ≤ 4000) := ⟨by rw [hkp.len]; decide⟩
                  clear hkp
                  by_cases hg0 : 0 < gen
                  · have g1 : decide (gen > 0) = true := decide_eq_true hg0
                    have g2 : decide (0 < gen) = true := decide_eq_true hg0
                    rw [g2] at hld
                    have n1 : (gen + 1 == gen) = false := beq_eq_false_iff_ne.2 (by omega)
                    have n2 : (gen == gen + 1) = false := beq_eq_false_iff_ne.2 (by omega)
                    have n3 : ¬ gen + 1 = gen := by omega
                    have HLD := Aside0.mk hld
                    clear hld hg0
                    go_wp2_with (first
                      | (go_at_call 9; refine (st_load S4.out HAB.out HLN.out).mono ?_; rw [HLD.out]; rintro e_ w5 ⟨v, rfl, hR, hS, hB⟩; have S5 := Aside0.mk hS; (obtain ⟨A5, c5, hv, -, hC⟩ := Kd.R_reads hR); (replace hv : v = .slice A5 (last).length c5 := hv); subst hv; (have hcv := conv_str (A := A5) (n := (last).length) (c := c5) (show (Kd.int .u8).C w5 A5 (last).length (last) from hC)); (have hcw := conv_str (A := Ab) (n := b.length) (c := cb) (HRD.out.step' (Below.refl _ _) hS.2.1 (fun x hx => by cases hx) (fun x hx => by cases hx)).1); (have zw := (cell_of_heap (p := ⟨q, 0, none⟩) (hB.block q (S4.out.2.2 q (by simp)))).trans ZZ4.out); have HC5 := Aside0.mk hC; clear hR hS hB hC)
                      | (go_at_call 18; refine (st_restart S3.out).mono ?_; rintro e_ w4 ⟨rfl, hS, hM⟩; have S4 := Aside0.mk hS; (have ZZ4 := Aside0.mk ((cell_of_heap (p := ⟨q, 0, none⟩) (hM q (by simp))).trans ZZ3.out)); clear hS hM)
                      | (go_at_call 8; refine (st_save S2b.out (gen + 1) Ab cb b ((HRD.out.step' (Below.refl _ _) S2b.out.2.1 (fun x hx => by cases hx) (fun x hx => by cases hx)).mono (fun x hx => by cases hx)) HLC.out (by have := HBL.out; omega) HP0.out HS0.out).mono ?_; rw [HSV.out]; rintro e_ w3 ⟨rfl, hS, hM⟩; have S3 := Aside0.mk hS; (have ZZ3 := Aside0.mk ((cell_of_heap (p := ⟨q, 0, none⟩) (hM q (by simp))).trans HZZ.out)); clear hS hM))
                    all_goals exact ⟨⟨k + 1, gen, last, e.restart, by go_num, rfl, rfl, ⟨by have := HLT.out; omega⟩, ⟨by have := HG.out; omega⟩, HKP2, ⟨S5.out.less (fun y hy => by cases hy)⟩⟩, by have := HLT.out; simp [intOf]; omega⟩
                  · have g1 : decide (gen > 0) = false := decide_eq_false hg0
                    have g2 : decide (0 < gen) = false := decide_eq_false hg0
                    rw [g2] at hld
                    have n1 : (gen + 1 == gen) = false := beq_eq_false_iff_ne.2 (by omega)
                    have n2 : (gen == gen + 1) = false := beq_eq_false_iff_ne.2 (by omega)
                    have n3 : ¬ gen + 1 = gen := by omega
                    have HLD := Aside0.mk hld
                    clear hld hg0
                    go_wp2_with (first
                      | (go_at_call 9; refine (st_load S4.out HAB.out HLN.out).mono ?_; rw [HLD.out]; rintro e_ w5 ⟨v, rfl, hR, hS, hB⟩; have S5 := Aside0.mk hS; (obtain ⟨A5, c5, hv, -, hC⟩ := Kd.R_reads hR); (replace hv : v = .slice A5 (last).length c5 := hv); subst hv; (have hcv := conv_str (A := A5) (n := (last).length) (c := c5) (show (Kd.int .u8).C w5 A5 (last).length (last) from hC)); (have hcw := conv_str (A := Ab) (n := b.length) (c := cb) (HRD.out.step' (Below.refl _ _) hS.2.1 (fun x hx => by cases hx) (fun x hx => by cases hx)).1); (have zw := (cell_of_heap (p := ⟨q, 0, none⟩) (hB.block q (S4.out.2.2 q (by simp)))).trans ZZ4.out); have HC5 := Aside0.mk hC; clear hR hS hB hC)
                      | (go_at_call 18; refine (st_restart S3.out).mono ?_; rintro e_ w4 ⟨rfl, hS, hM⟩; have S4 := Aside0.mk hS; (have ZZ4 := Aside0.mk ((cell_of_heap (p := ⟨q, 0, none⟩) (hM q (by simp))).trans ZZ3.out)); clear hS hM)
                      | (go_at_call 8; refine (st_save S2b.out (gen + 1) Ab cb b ((HRD.out.step' (Below.refl _ _) S2b.out.2.1 (fun x hx => by cases hx) (fun x hx => by cases hx)).mono (fun x hx => by cases hx)) HLC.out (by have := HBL.out; omega) HP0.out HS0.out).mono ?_; rw [HSV.out]; rintro e_ w3 ⟨rfl, hS, hM⟩; have S3 := Aside0.mk hS; (have ZZ3 := Aside0.mk ((cell_of_heap (p := ⟨q, 0, none⟩) (hM q (by simp))).trans HZZ.out)); clear hS hM))
                    all_goals exact ⟨⟨k + 1, gen, last, e.restart, by go_num, rfl, rfl, ⟨by have := HLT.out; omega⟩, ⟨by have := HG.out; omega⟩, HKP2, ⟨S5.out.less (fun y hy => by cases hy)⟩⟩, by have := HLT.out; simp [intOf]; omega⟩
                · subst hE
                  have hld := hkp.load crcO_rng
                  have HKP2 := Aside0.mk hkp
                  have HAB := Aside0.mk hkp.all
                  have HLN : Aside0 (e.restart.S.length ≤ 4000) := ⟨by rw [hkp.len]; decide⟩
                  clear hkp
                  rw [show decide (0 < gen + 1) = true from decide_eq_true (by have := HKL.out; omega)] at hld
                  by_cases hg0 : 0 < gen
                  · have g1 : decide (gen > 0) = true := decide_eq_true hg0
                    have g2 : decide (0 < gen) = true := decide_eq_true hg0
                    have n1 : (gen + 1 == gen) = false := beq_eq_false_iff_ne.2 (by omega)
                    have n2 : (gen == gen + 1) = false := beq_eq_false_iff_ne.2 (by omega)
                    have n3 : ¬ gen + 1 = gen := by omega
                    have HLD := Aside0.mk hld
                    clear hld hg0
                    go_wp2_with (first
                      | (go_at_call 9; refine (st_load S4.out HAB.out HLN.out).mono ?_; rw [HLD.out]; rintro e_ w5 ⟨v, rfl, hR, hS, hB⟩; have S5 := Aside0.mk hS; (obtain ⟨A5, c5, hv, -, hC⟩ := Kd.R_reads hR); (replace hv : v = .slice A5 (b).length c5 := hv); subst hv; (have hcv := conv_str (A := A5) (n := (b).length) (c := c5) (show (Kd.int .u8).C w5 A5 (b).length (b) from hC)); (have hcw := conv_str (A := Ab) (n := b.length) (c := cb) (HRD.out.step' (Below.refl _ _) hS.2.1 (fun x hx => by cases hx) (fun x hx => by cases hx)).1); (have zw := (cell_of_heap (p := ⟨q, 0, none⟩) (hB.block q (S4.out.2.2 q (by simp)))).trans ZZ4.out); have HC5 := Aside0.mk hC; clear hR hS hB hC)
                      | (go_at_call 18; refine (st_restart S3.out).mono ?_; rintro e_ w4 ⟨rfl, hS, hM⟩; have S4 := Aside0.mk hS; (have ZZ4 := Aside0.mk ((cell_of_heap (p := ⟨q, 0, none⟩) (hM q (by simp))).trans ZZ3.out)); clear hS hM)
                      | (go_at_call 8; refine (st_save S2b.out (gen + 1) Ab cb b ((HRD.out.step' (Below.refl _ _) S2b.out.2.1 (fun x hx => by cases hx) (fun x hx => by cases hx)).mono (fun x hx => by cases hx)) HLC.out (by have := HBL.out; omega) HP0.out HS0.out).mono ?_; rw [HSV.out]; rintro e_ w3 ⟨rfl, hS, hM⟩; have S3 := Aside0.mk hS; (have ZZ3 := Aside0.mk ((cell_of_heap (p := ⟨q, 0, none⟩) (hM q (by simp))).trans HZZ.out)); clear hS hM))
                    go_region_held (fun w' => (convert 22 9 (.slice A5 b.length c5)).run Try.prog w' = .ok (.string (strOfNums b)) w') (exact conv_str (Kd.C_drew HC5.out)) (fail)
                    go_wp2
                    all_goals exact ⟨⟨k + 1, gen + 1, b, e.restart, by go_num, rfl, rfl, ⟨by have := HLT.out; omega⟩, ⟨by have := HG.out; omega⟩, HKP2, ⟨S5.out.drew.less (fun y hy => by cases hy)⟩⟩, by have := HLT.out; simp [intOf]; omega⟩
                  · have g1 : decide (gen > 0) = false := decide_eq_false hg0
                    have g2 : decide (0 < gen) = false := decide_eq_false hg0
                    have n1 : (gen + 1 == gen) = false := beq_eq_false_iff_ne.2 (by omega)
                    have n2 : (gen == gen + 1) = false := beq_eq_false_iff_ne.2 (by omega)
                    have n3 : ¬ gen + 1 = gen := by omega
                    have HLD := Aside0.mk hld
                    clear hld hg0
                    go_wp2_with (first
                      | (go_at_call 9; refine (st_load S4.out HAB.out HLN.out).mono ?_; rw [HLD.out]; rintro e_ w5 ⟨v, rfl, hR, hS, hB⟩; have S5 := Aside0.mk hS; (obtain ⟨A5, c5, hv, -, hC⟩ := Kd.R_reads hR); (replace hv : v = .slice A5 (b).length c5 := hv); subst hv; (have hcv := conv_str (A := A5) (n := (b).length) (c := c5) (show (Kd.int .u8).C w5 A5 (b).length (b) from hC)); (have hcw := conv_str (A := Ab) (n := b.length) (c := cb) (HRD.out.step' (Below.refl _ _) hS.2.1 (fun x hx => by cases hx) (fun x hx => by cases hx)).1); (have zw := (cell_of_heap (p := ⟨q, 0, none⟩) (hB.block q (S4.out.2.2 q (by simp)))).trans ZZ4.out); have HC5 := Aside0.mk hC; clear hR hS hB hC)
                      | (go_at_call 18; refine (st_restart S3.out).mono ?_; rintro e_ w4 ⟨rfl, hS, hM⟩; have S4 := Aside0.mk hS; (have ZZ4 := Aside0.mk ((cell_of_heap (p := ⟨q, 0, none⟩) (hM q (by simp))).trans ZZ3.out)); clear hS hM)
                      | (go_at_call 8; refine (st_save S2b.out (gen + 1) Ab cb b ((HRD.out.step' (Below.refl _ _) S2b.out.2.1 (fun x hx => by cases hx) (fun x hx => by cases hx)).mono (fun x hx => by cases hx)) HLC.out (by have := HBL.out; omega) HP0.out HS0.out).mono ?_; rw [HSV.out]; rintro e_ w3 ⟨rfl, hS, hM⟩; have S3 := Aside0.mk hS; (have ZZ3 := Aside0.mk ((cell_of_heap (p := ⟨q, 0, none⟩) (hM q (by simp))).trans HZZ.out)); clear hS hM))
                    go_region_held (fun w' => (convert 22 9 (.slice A5 b.length c5)).run Try.prog w' = .ok (.string (strOfNums b)) w') (exact conv_str (Kd.C_drew HC5.out)) (fail)
                    go_wp2
                    all_goals exact ⟨⟨k + 1, gen + 1, b, e.restart, by go_num, rfl, rfl, ⟨by have := HLT.out; omega⟩, ⟨by have := HG.out; omega⟩, HKP2, ⟨S5.out.drew.less (fun y hy => by cases hy)⟩⟩, by have := HLT.out; simp [intOf]; omega⟩
            · have b2 : decide ((lft.length : Int) > 50) = true := decide_eq_true (by omega)
              have b2' : decide ((50 : Int) < (lft.length : Int)) = true := decide_eq_true (by omega)
              have b2'' : decide (50 < lft.length) = true := decide_eq_true (by omega)
              clear hb hf
              go_wp2
              go_ret
              exact ⟨rfl, S1.out.2.1⟩
          · have b1 : decide ((b.length : Int) > 300) = true := decide_eq_true (by omega)
            have b1' : decide ((300 : Int) < (b.length : Int)) = true := decide_eq_true (by omega)
            have b1'' : decide (300 < b.length) = true := decide_eq_true (by omega)
            clear hb
            go_wp2
            go_ret
            exact ⟨rfl, S1.out.2.1⟩
        · obtain rfl : k = l0.length := by have := HK.out; omega
          have hd : decide ((l0.length : Int) < (l0.length : Int)) = false := decide_eq_false (by omega)
          have hd2 : decide (l0.length < l0.length) = false := decide_eq_false (by omega)
          clear hlt
          go_wp2_with (go_at_call 10; refine (known5_any _).mono ?_; rintro e w9 ⟨rfl, hB⟩; have B9 := Aside0.mk (HS.out.2.1.trans (hB.mono HS.out.2.1.size)); clear hB)
          go_ret
          exact ⟨rfl, B9.out⟩
    · have d0 : decide ((l0.length : Int) > 20) = true := decide_eq_true (by omega)
      have d0' : decide ((20 : Int) < (l0.length : Int)) = true := decide_eq_true (by omega)
      have d0'' : decide (20 < l0.length) = true := decide_eq_true (by omega)
      clear hr0 hc0 hB h20
      go_enter Try.func6, Try.ntmps6
      go_wp2
      go_ret
      exact ⟨rfl, Below.refl _ _⟩
  · rw [if_neg hB] at h
    cases h
end Go.Proofs.Ytkicekddkgehoaa.LSlotLast
