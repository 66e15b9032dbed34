/- Contracts of the calls, by hand. -/
import Derived.Test.YtnahlhabhipfmaaQSpanCrashx1
import Derived.Test.YtnahlhabhipfmaaDisk8
namespace Go.Proofs.Ytnahlhabhipfmaa.Hnd
open Go.RowKit Go.Proofs.Ytnahlhabhipfmaa.QSpanCrash Go.Proofs.YtnahlhabhipfmaaW.PrintWords Go.Proofs.YtnahlhabhipfmaaW.PrintLast Go.Proofs.YtnahlhabhipfmaaW.Dk 
set_option linter.unusedVariables false
set_option linter.unusedSimpArgs false
attribute [local go_sem] Oper.semAt_some
/-- A fresh row of bytes has a block of its own. -/
theorem R_plain {e base : Nat} {ok : Nat → Prop} {w : World} {v : Value} {b : List Int} (h : (Kd.int .u8).R e w base ok v b) (hn : 0 < b.length) :
    ∃ q c, v = .slice (some ⟨q, 0, none⟩) b.length c ∧ b.length ≤ c ∧ base ≤ q ∧ q < w.heap.size ∧ w.frozen? ⟨q, 0, none⟩ = false ∧ (Kd.int .u8).C w (some ⟨q, 0, none⟩) b.length b ∧ ∀ i : Nat, i < b.length → w.cell? ⟨q, i, none⟩ = some (.int .u8 (b.getD i 0)) := by
  obtain ⟨q, c, hv, hlc⟩ := Kd.own_some h hn
  obtain ⟨A', c', hv', hlc', hC⟩ := Kd.R_reads h
  rw [hv] at hv'
  injection hv' with e1 _ e2
  subst e1
  have hob : v.ownBlock = some q := by rw [hv]; rfl
  obtain ⟨cells, hce⟩ := own_typed h.2.choose_spec.1 q hob
  refine ⟨q, c, hv, hlc, own_base h.2.choose_spec.1 q hob, own_lt h.2.choose_spec.1 q hob, blk_frozen hce 0, hC, fun i hi => ?_⟩
  obtain ⟨ad, e3, hx⟩ := Kd.at_int hC (i : Int) (by omega) (by omega)
  injection e3 with e3
  subst e3
  rw [Int.toNat_natCast, Kd.add_plain2, Nat.zero_add] at hx
  rw [hx, rd, Int.toNat_natCast]
def b78 : List Int := [7, 8, 0, 0, 0, 0, 0, 0, 0, 0, 0, 0, 0, 0, 0, 0]
def kn0 : DS := (DS.new 2).arm 1 [1]
def kn1 : DS := (kn0.wr 0 b78).1
def kn2 : DS := (kn1.wr 1 b78).1
theorem kn_0 : (kn0.wr 0 b78).2 = 0 := by decide +kernel
theorem kn_1 : (kn1.wr 1 b78).2 = 5 := by decide +kernel
theorem kn_2 : kn2.down = true := by decide +kernel
theorem kn_3 : kn2.rd 0 = [7, 0, 0, 0, 0, 0, 0, 0, 0, 0, 0, 0, 0, 0, 0, 0] := by decide +kernel
theorem kn_4 : kn0.P.length < 1099511627776 := by decide +kernel
theorem kn_5 : kn1.P.length < 1099511627776 := by decide +kernel
theorem z78 : (z16.setIfInBounds 0 (.int .u8 7)).setIfInBounds 1 (.int .u8 8) = (b78.map (Value.int .u8)).toArray := by kernel_rfl
set_option maxHeartbeats 2000000 in
set_option maxRecDepth 100000 in
theorem known_any (w : World) : Calls Try.prog 16 #[] w fun e w' => e = .returned (.bool true) ∧ Below w.heap.size w w' := by
  have hmk := make16
  go_enter Try.func16, Try.ntmps16
  go_wp2_with (first
    | (go_at_call 12; refine (st_new 2 (by omega) w _ (Below.refl _ _) [] (fun x hx => by cases hx)).mono ?_; rintro e w1 ⟨rfl, hS, hM⟩; have S1 := Aside0.mk hS; clear hS hM)
    | (go_at_call 19; refine (st_arm1 (S1.out.after (below_alloc (Below.refl _ _) _)) 1 1 w1.heap.size (blk_new w1 _)).mono ?_; rintro e w2 ⟨rfl, hS, hM⟩;
       have hf0 : (w2.alloc (.cells z16 5)).frozen? ⟨w2.heap.size, 0, none⟩ = false := blk_frozen (blk_new w2 _) 0;
       have hf1 : (w2.alloc (.cells z16 5)).frozen? ⟨w2.heap.size, 1, none⟩ = false := blk_frozen (blk_new w2 _) 1;
       have hc0 : (w2.alloc (.cells z16 5)).cell? ⟨w2.heap.size, 0, none⟩ = some (.int .u8 0) := (blk_cell (blk_new w2 _) 0).trans rfl;
       have hc1 : (w2.alloc (.cells z16 5)).cell? ⟨w2.heap.size, 1, none⟩ = some (.int .u8 0) := (blk_cell (blk_new w2 _) 1).trans rfl;
       have S3 : Aside0 (St w [w2.heap.size] (w2.alloc (.cells ((z16.setIfInBounds 0 (.int .u8 7)).setIfInBounds 1 (.int .u8 8)) 5)) w.heap.size kn0) := ⟨St.more hS (below_alloc (Below.refl _ _) _) _ (Nat.le_refl _) (by simp)⟩;
       have X3 : Aside0 (SecAt (w2.alloc (.cells ((z16.setIfInBounds 0 (.int .u8 7)).setIfInBounds 1 (.int .u8 8)) 5)) w2.heap.size b78) := ⟨(blk_new w2 _).trans (by rw [z78])⟩; clear hS hM)
    | (go_at_call 15; refine (st_read S5.out 0).mono ?_; rw [kn_3]; rintro e w6 ⟨v0, rfl, hR, hS, hM, hB⟩; have S6 := Aside0.mk hS; obtain ⟨q, c0, hv0, -, -, -, -, -, hx⟩ := R_plain hR (by simp); subst hv0; have hx0 := hx 0 (by simp); have hx1 := hx 1 (by simp); simp at hx0 hx1; clear hx hR hS hM hB)
    | (go_at_call 20; refine (st_down S6.out).mono ?_; rw [kn_2]; rintro e w7 ⟨rfl, rfl⟩)
    | (go_at_call 13; refine (st_write16 S4.out 1 w2.heap.size b78 (by simp) X4.out rfl kn_5).mono ?_; rw [kn_1]; rintro e w5 ⟨rfl, hS, hM⟩; have S5 : Aside0 (St w [w2.heap.size] w5 w.heap.size kn2) := ⟨hS⟩; clear hS hM)
    | (go_at_call 13; refine (st_write16 S3.out 0 w2.heap.size b78 (by simp) X3.out rfl kn_4).mono ?_; rw [kn_0]; rintro e w4 ⟨rfl, hS, hM⟩; have S4 : Aside0 (St w [w2.heap.size] w4 w.heap.size kn1) := ⟨hS⟩; have X4 : Aside0 (SecAt w4 w2.heap.size b78) := ⟨(hM _ (by simp)).trans X3.out⟩; clear hS hM))
  go_ret
  exact ⟨rfl, S6.out.2.1⟩
end Go.Proofs.Ytnahlhabhipfmaa.Hnd
