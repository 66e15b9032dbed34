/- Contracts of the calls, by hand. -/
import Derived.Test.YtkicekddkgehoaaQSlotLastx1
import Derived.Test.YtkicekddkgehoaaSlot2
import Derived.RangeFuncNested
import Derived.RangeFuncBound
import Derived.RangeFuncCalls
import Derived.RangeFuncLeaves
import Derived.RangeFuncBox
import Derived.Shelf.Abstract
import Derived.Shelf.RegionOpen
import Derived.OwnWalkIn
import Derived.TacticsInMore
import Derived.LoopNIn
import Derived.LoopIn
import Derived.Sort.QuietIn
import Derived.Sort.CutIn
import Derived.Stop.RegionWithIn
namespace Go.Proofs.Ytkicekddkgehoaa.Hnd
open Go.RowKit Go.Proofs.Ytkicekddkgehoaa.QSlotLast Go.Proofs.YtkicekddkgehoaaW.PrintWords Go.Proofs.YtkicekddkgehoaaW.PrintLast Go.Proofs.YtkicekddkgehoaaW.Dk Go.Shelf
set_option linter.unusedVariables false
set_option linter.unusedSimpArgs false
attribute [local go_sem] Oper.semAt_some
/-- One byte, as a row of a literal's, in new memory. -/
theorem one_rd {w W : World} {xs : List Nat} {g : Nat} {d : DS} (h : St w xs W g d) (c : Int) : St w (W.heap.size :: xs) (W.alloc (.cells #[.int .u8 c] 5 (1, 2))) g d ∧ Rd w (W.heap.size :: xs) (W.alloc (.cells #[.int .u8 c] 5 (1, 2))) (some ⟨W.heap.size, 0, none⟩) [c] :=
  ⟨h.more (below_alloc (Below.refl _ _) _) W.heap.size (Nat.le_refl _) (by simp), Kd.C_int_cells (T := 5) (fr := (1, 2)) (heap_alloc_new W _) rfl (by simp), fun ad e _ => by injection e with e; subst e; exact ⟨.inr (by simp), by simp⟩⟩
theorem kcv (w : World) (C : Array Value) (n c : Nat) : (convert 22 22 (.slice (some ⟨w.heap.size, 0, none⟩) n c)).run Try.prog (w.alloc (.cells C 5)) = .ok (.slice (some ⟨w.heap.size, 0, none⟩) n c) (w.alloc (.cells C 5 (C.size, C.size + 1))) := Lib.run_convert_bytes_const (P := Try.prog) w 22 5 C n c Try.underlying22 Try.underlying5
def k5a : DS × Int := DS.save crcO (DS.new 24) 1 [97]
def k5b : DS × Int := DS.save crcO k5a.1 2 [98]
theorem k5_0 : k5a.2 = 0 := by decide +kernel
theorem k5_1 : k5b.2 = 0 := by decide +kernel
theorem k5_2 : DS.load crcO k5b.1 = (2, [98], true) := by decide +kernel
theorem k5_3 : k5b.1.room = 9 := by decide +kernel
theorem k5_4 : k5a.1.P.length < 1073741824 := by decide +kernel
theorem k5_5 : k5a.1.S.length ≤ 4000 := by decide +kernel
theorem k5_6 : k5b.1.S.length ≤ 4000 := by decide +kernel
theorem b1_bytes {c : Int} (h0 : 0 ≤ c) (h1 : c < 256) : DS.Bytes [c] := fun x hx => by rw [List.mem_singleton.1 hx]; exact ⟨h0, h1⟩
theorem k5_7 : k5b.1.AllB := DS.save_bytes (DS.save_bytes (DS.new_bytes 24) 1 (b1_bytes (by decide) (by decide))) 2 (b1_bytes (by decide) (by decide))
theorem str98 : strOfNums [98] = ⟨#[98]⟩ := by decide +kernel
set_option maxHeartbeats 2000000 in
set_option maxRecDepth 100000 in
theorem known5_any (w : World) : Calls Try.prog 10 #[] w fun e w' => e = .returned (.bool true) ∧ Below w.heap.size w w' := by
  have kc := kcv
  have K0 := Aside0.mk k5_0
  have K1 := Aside0.mk k5_1
  have K2 := Aside0.mk k5_2
  have K3 := Aside0.mk k5_3
  go_enter Try.func10, Try.ntmps10
  go_wp2_with (first
    | (go_at_call 16; refine (st_room S4.out k5_6).mono ?_; rw [K3.out]; rintro e w5 ⟨rfl, rfl⟩)
    | (go_at_call 9; refine (st_load S3.out k5_7 k5_6).mono ?_; rw [K2.out]; rintro e w4 ⟨v, rfl, hR, hS, hB⟩; have S4 := Aside0.mk hS; (obtain ⟨A4, c4, hv, -, hC⟩ := Kd.R_reads hR); (replace hv : v = .slice A4 1 c4 := hv); subst hv; (have hcv := conv_str (A := A4) (n := 1) (c := c4) (show (Kd.int .u8).C w4 A4 1 [98] from hC)); rw [str98] at hcv; clear hR hS hB hC)
    | (go_at_call 8; refine (st_save (one_rd S2.out 98).1 2 (some ⟨w2.heap.size, 0, none⟩) 1 [98] (one_rd S2.out 98).2 (by decide) (by decide) k5_4 k5_5).mono ?_; rw [show DS.save crcO k5a.1 2 [98] = k5b from rfl]; rintro e w3 ⟨h1, hS, hM⟩; rw [K1.out] at h1; subst h1; have S3 := Aside0.mk hS; clear hS hM)
    | (go_at_call 8; refine (st_save (one_rd S1.out 97).1 1 (some ⟨w1.heap.size, 0, none⟩) 1 [97] (one_rd S1.out 97).2 (by decide) (by decide) (by decide) (by rw [DS.new_len]; decide)).mono ?_; rw [show DS.save crcO (DS.new 24) 1 [97] = k5a from rfl]; rintro e w2 ⟨h1, hS, hM⟩; rw [K0.out] at h1; subst h1; have S2 := Aside0.mk hS; clear hS hM)
    | (go_at_call 7; refine (st_new 24 (by omega) w _ (Below.refl _ _) [] (fun x hx => by cases hx)).mono ?_; rintro e w1 ⟨rfl, hS, hM⟩; have S1 := Aside0.mk hS; clear hS hM))
  go_ret
  exact ⟨rfl, S4.out.2.1⟩
end Go.Proofs.Ytkicekddkgehoaa.Hnd
