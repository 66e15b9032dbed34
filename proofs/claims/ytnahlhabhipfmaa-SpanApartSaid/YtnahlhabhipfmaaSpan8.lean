/- Contracts of the calls, by hand. -/
import Derived.Test.YtnahlhabhipfmaaQSpanCrashx1
import Derived.Test.YtnahlhabhipfmaaSpan7
import Derived.RangeFuncNested
import Derived.RangeFuncBound
import Derived.RangeFuncCalls
import Derived.RangeFuncLeaves
import Derived.RangeFuncBox
import Derived.Shelf.Abstract
import Derived.Shelf.RegionOpen
import Derived.OwnWalkIn
import Derived.TacticsInMore
import Derived.LoopNIn
import Derived.LoopIn
import Derived.Sort.QuietIn
import Derived.Sort.CutIn
import Derived.Stop.RegionWithIn
namespace Go.Proofs.Ytnahlhabhipfmaa.Hnd
open Go.RowKit Go.Proofs.Ytnahlhabhipfmaa.QSpanCrash Go.Proofs.YtnahlhabhipfmaaW.PrintWords Go.Proofs.YtnahlhabhipfmaaW.PrintLast Go.Proofs.YtnahlhabhipfmaaW.Dk Go.Shelf
set_option linter.unusedVariables false
set_option linter.unusedSimpArgs false
end Go.Proofs.Ytnahlhabhipfmaa.Hnd
namespace Go.Proofs.YtnahlhabhipfmaaW.Dk
namespace DS
/-- A span lies there, flushed. -/
def Lies (crc : List Int → Int) (d : DS) (i : Nat) (tag : Int) (b : List Int) : Prop := d.S.getD i [] = head crc tag b ∧ ∀ k, k < (chunks b).length → d.S.getD (i + 1 + k) [] = (chunks b).getD k []
theorem Lies.away {crc : List Int → Int} {d e : DS} {i a m : Nat} {tag : Int} {b : List Int} (h : Lies crc d i tag b) (hs : Alike d.S e.S a m) (hi : i + need b.length ≤ a ∨ m ≤ i) : Lies crc e i tag b := by
  have hn : need b.length = 1 + (chunks b).length := by rw [chunks_len]; rfl
  exact ⟨(hs.2 i (by omega)).trans h.1, fun k hk => (hs.2 _ (by omega)).trans (h.2 k hk)⟩
theorem Lies.get {crc : List Int → Int} {d : DS} {i : Nat} {room tag : Int} {b : List Int} (h : Lies crc d i tag b) (hP : d.P = []) (c0 : 0 ≤ crc b) (c1 : crc b < 4294967296) (t0 : 0 < tag) (t1 : tag < 4294967296) (hb : b.length < 4294967296) (hr : (need b.length : Int) ≤ room) (hs : i + need b.length ≤ d.S.length) : get crc d i room = (tag, b, true) :=
  get_hit c0 c1 t0 t1 hb ((rd_nil hP i).trans h.1) (fun j hj => by
    rw [show (i : Int) + 1 + (j : Int) = ((i + 1 + j : Nat) : Int) by omega]
    exact (rd_nil hP _).trans (h.2 j hj)) hr (by omega)
/-- A disk that is at rest: up, unarmed, nothing pending. -/
def Calm (d : DS) : Prop := d.P = [] ∧ d.down = false ∧ d.armed = false
theorem new_calm (n : Nat) : (new n).Calm := ⟨rfl, rfl, rfl⟩
theorem restart_calm (d : DS) : d.restart.Calm := ⟨rfl, rfl, rfl⟩
theorem put_ok (crc : List Int → Int) (d : DS) (hd : d.Calm) (i : Nat) (room tag : Int) (b : List Int) (hr : (need b.length : Int) ≤ room) (hi : i + need b.length ≤ d.S.length) :
    ∃ e, put crc d i room tag b = (e, 0) ∧ e.Calm ∧ Alike d.S e.S i (i + need b.length) ∧ Lies crc e i tag b := by
  obtain ⟨h1, h2, h3, h4, h5, h6⟩ := put_res crc d hd.2.1 hd.1 i room tag b hr hi
  rcases h6 with ⟨q1, q2, q3, q4⟩ | ⟨q0, _⟩
  · exact ⟨(put crc d i room tag b).1, Prod.ext rfl q1, ⟨h1, q2, h2.trans hd.2.2⟩, h5, q3, q4⟩
  · rw [hd.2.2] at q0
    cases q0
theorem puth_ok (d : DS) (hd : d.Calm) (i : Nat) (h : List Int) (hl : h.length = 16) (hi : i < d.S.length) : ∃ e, puth d i h = (e, 0) ∧ e.Calm ∧ Alike d.S e.S i (i + 1) ∧ e.S.getD i [] = h := by
  obtain ⟨h1, h2, h3, h4, h5, h6⟩ := puth_res d hd.2.1 hd.1 i h hl hi
  rcases h6 with ⟨q1, q2, q3⟩ | ⟨q0, _⟩
  · exact ⟨(puth d i h).1, Prod.ext rfl q1, ⟨h1, q2, h2.trans hd.2.2⟩, h5, q3⟩
  · rw [hd.2.2] at q0
    cases q0
theorem new_rd (n i : Nat) (hi : i < n) : (new n).rd (i : Int) = List.replicate 16 0 := by
  rw [rd_nil rfl, new]
  show (List.replicate n (List.replicate 16 (0 : Int))).getD i [] = _
  rw [List.getD_eq_getElem?_getD, List.getElem?_replicate, if_pos hi]
  rfl
theorem new_len (n : Nat) : (new n).S.length = n := List.length_replicate
/-- Are all of them bytes? -/
def isB (l : List Int) : Bool := l.all fun x => decide (0 ≤ x ∧ x < 256)
theorem isB_bytes {l : List Int} (h : isB l = true) : Bytes l := fun x hx => by
  have := List.all_eq_true.1 h x hx
  exact of_decide_eq_true this
theorem isB_of {l : List Int} (h : ∀ x ∈ l, (Lit.int .u8 x).wf = true) : isB l = true := List.all_eq_true.2 fun x hx => by
  have h1 := h x hx
  simp [Lit.wf, IntKind.min, IntKind.max, IntKind.signed, IntKind.bits] at h1
  exact decide_eq_true (by omega)
end DS
end Go.Proofs.YtnahlhabhipfmaaW.Dk
namespace Go.Proofs.Ytnahlhabhipfmaa.Hnd
open Go.RowKit Go.Proofs.Ytnahlhabhipfmaa.QSpanCrash Go.Proofs.YtnahlhabhipfmaaW.PrintWords Go.Proofs.YtnahlhabhipfmaaW.PrintLast Go.Proofs.YtnahlhabhipfmaaW.Dk Go.Shelf
attribute [local go_sem] Oper.semAt_some
theorem crcO_lo (b : List Int) : 0 ≤ crcO b := by
  unfold crcO Go.bits
  rw [IntKind.wrap_u32]
  omega
theorem crcO_hi (b : List Int) : crcO b < 4294967296 := by
  unfold crcO Go.bits
  rw [IntKind.wrap_u32]
  omega
/-- The known answer: three bytes in three sectors. -/
def abc : List Int := [97, 98, 99]
def k4 : DS × Int := DS.put crcO (DS.new 4) 1 3 7 abc
theorem k4_0 : k4.2 = 0 := by decide +kernel
theorem k4_1 : DS.get crcO k4.1 1 3 = (7, abc, true) := by decide +kernel
theorem k4_2 : DS.need 17 = 3 := by decide +kernel
theorem k4_3 : k4.1.S.length = 4 := by decide +kernel
theorem conv_str {w : World} {A : Option Addr} {n c : Nat} {xs : List Int} (h : (Kd.int .u8).C w A n xs) : (convert 26 9 (.slice A n c)).run Try.prog w = .ok (.string (strOfNums xs)) w :=
  Kd.C_string (P := Try.prog) (A := A) (c := c) Try.underlying26 Try.underlying5 Try.underlying9 h
theorem abc_str : strOfNums abc = ⟨#[97, 98, 99]⟩ := by decide +kernel
theorem k4_4 : k4.1.AllB := DS.put_bytes (DS.new_bytes 4) 1 3 7 (by intro x hx; simp [abc] at hx; omega)
theorem abc_row (w : World) : (w.alloc (.cells #[.int .u8 97, .int .u8 98, .int .u8 99] 5 (3, 4))).heap[w.heap.size]? = some (.cells #[.int .u8 97, .int .u8 98, .int .u8 99] 5 (3, 4)) := heap_alloc_new w _
set_option maxHeartbeats 2000000 in
set_option maxRecDepth 100000 in
theorem known4_any (w : World) : Calls Try.prog 25 #[] w fun e w' => e = .returned (.bool true) ∧ Below w.heap.size w w' := by
  have kc := fun (w : World) (C : Array Value) (n c : Nat) => Lib.run_convert_bytes_const (P := Try.prog) w 26 5 C n c Try.underlying26 Try.underlying5
  have K0 := Aside0.mk k4_0
  have K1 := Aside0.mk k4_1
  go_enter Try.func25, Try.ntmps25
  go_wp2_with (first
    | (go_at_call 23; refine (need_c 17 (by decide) w4).mono ?_; rw [k4_2]; rintro e w5 ⟨rfl, hB⟩; have B5 := Aside0.mk (B4.out.trans (hB.mono B4.out.size)); (have hcv := conv_str (A := A4) (c := c4) (Kd.C_below C4.out hB)); rw [abc_str] at hcv; clear hB)
    | (go_at_call 27; refine (st_get S3.out 1 3 k4_4 (by decide) (by rw [k4_3]; decide) (by decide) (by decide)).mono ?_; rw [K1.out]; rintro e w4 ⟨v, rfl, hR, hS, hB⟩; have B4 := Aside0.mk (S3.out.2.1.trans (hB.mono S3.out.2.1.size)); (obtain ⟨A4, c4, hv, -, hC⟩ := Kd.R_reads hR); rw [show (7, abc, true).2.1.length = 3 from rfl] at hv; have C4 : Aside0 ((Kd.int .u8).C w4 A4 3 abc) := ⟨hC⟩; subst hv; clear hR hS hB hC)
    | (go_at_call 26; refine (st_putS S2.out 1 3 7 (some ⟨w1.heap.size, 0, none⟩) 3 abc RD2.out (by decide) (by decide) (by decide) (by decide) (by decide)).mono ?_; rw [show DS.put crcO (DS.new 4) 1 3 7 abc = k4 from rfl]; rintro e w3 ⟨h1, hS, hM, hZ⟩; rw [K0.out] at h1; subst h1; have S3 := Aside0.mk hS; clear hS hM hZ)
    | (go_at_call 12; refine (st_new 4 (by omega) w _ (Below.refl _ _) [] (fun x hx => by cases hx)).mono ?_; rintro e w1 ⟨rfl, hS, hM⟩; have S1 := Aside0.mk hS; have S2 := Aside0.mk (St.more hS (below_alloc (Below.refl _ _) (.cells #[.int .u8 97, .int .u8 98, .int .u8 99] 5 (3, 4))) w1.heap.size (Nat.le_refl _) (by simp)); have RD2 : Aside0 (Rd w [w1.heap.size] (w1.alloc (.cells #[.int .u8 97, .int .u8 98, .int .u8 99] 5 (3, 4))) (some ⟨w1.heap.size, 0, none⟩) abc) := ⟨⟨Kd.C_int_cells (T := 5) (fr := (3, 4)) (abc_row w1) rfl (by decide), fun ad e _ => by injection e with e; subst e; exact ⟨.inr (by simp), by simp⟩⟩⟩; clear hS hM))
  go_ret
  exact ⟨rfl, B5.out⟩
end Go.Proofs.Ytnahlhabhipfmaa.Hnd
