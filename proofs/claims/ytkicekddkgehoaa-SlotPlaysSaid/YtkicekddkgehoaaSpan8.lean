/- Contracts of the calls, by hand. -/
import Derived.Test.YtkicekddkgehoaaQSlotLastx1
import Derived.Test.YtkicekddkgehoaaSpan7
import Derived.RangeFuncNested
import Derived.RangeFuncBound
import Derived.RangeFuncCalls
import Derived.RangeFuncLeaves
import Derived.RangeFuncBox
import Derived.Shelf.Abstract
import Derived.Shelf.RegionOpen
import Derived.OwnWalkIn
import Derived.TacticsInMore
import Derived.LoopNIn
import Derived.LoopIn
import Derived.Sort.QuietIn
import Derived.Sort.CutIn
import Derived.Stop.RegionWithIn
namespace Go.Proofs.Ytkicekddkgehoaa.Hnd
open Go.RowKit Go.Proofs.Ytkicekddkgehoaa.QSlotLast Go.Proofs.YtkicekddkgehoaaW.PrintWords Go.Proofs.YtkicekddkgehoaaW.PrintLast Go.Proofs.YtkicekddkgehoaaW.Dk Go.Shelf
set_option linter.unusedVariables false
set_option linter.unusedSimpArgs false
end Go.Proofs.Ytkicekddkgehoaa.Hnd
namespace Go.Proofs.YtkicekddkgehoaaW.Dk
namespace DS
/-- A span lies there, flushed. -/
def Lies (crc : List Int → Int) (d : DS) (i : Nat) (tag : Int) (b : List Int) : Prop := d.S.getD i [] = head crc tag b ∧ ∀ k, k < (chunks b).length → d.S.getD (i + 1 + k) [] = (chunks b).getD k []
theorem Lies.away {crc : List Int → Int} {d e : DS} {i a m : Nat} {tag : Int} {b : List Int} (h : Lies crc d i tag b) (hs : Alike d.S e.S a m) (hi : i + need b.length ≤ a ∨ m ≤ i) : Lies crc e i tag b := by
  have hn : need b.length = 1 + (chunks b).length := by rw [chunks_len]; rfl
  exact ⟨(hs.2 i (by omega)).trans h.1, fun k hk => (hs.2 _ (by omega)).trans (h.2 k hk)⟩
theorem Lies.get {crc : List Int → Int} {d : DS} {i : Nat} {room tag : Int} {b : List Int} (h : Lies crc d i tag b) (hP : d.P = []) (c0 : 0 ≤ crc b) (c1 : crc b < 4294967296) (t0 : 0 < tag) (t1 : tag < 4294967296) (hb : b.length < 4294967296) (hr : (need b.length : Int) ≤ room) (hs : i + need b.length ≤ d.S.length) : get crc d i room = (tag, b, true) :=
  get_hit c0 c1 t0 t1 hb ((rd_nil hP i).trans h.1) (fun j hj => by
    rw [show (i : Int) + 1 + (j : Int) = ((i + 1 + j : Nat) : Int) by omega]
    exact (rd_nil hP _).trans (h.2 j hj)) hr (by omega)
/-- A disk that is at rest: up, unarmed, nothing pending. -/
def Calm (d : DS) : Prop := d.P = [] ∧ d.down = false ∧ d.armed = false
theorem new_calm (n : Nat) : (new n).Calm := ⟨rfl, rfl, rfl⟩
theorem restart_calm (d : DS) : d.restart.Calm := ⟨rfl, rfl, rfl⟩
theorem put_ok (crc : List Int → Int) (d : DS) (hd : d.Calm) (i : Nat) (room tag : Int) (b : List Int) (hr : (need b.length : Int) ≤ room) (hi : i + need b.length ≤ d.S.length) :
    ∃ e, put crc d i room tag b = (e, 0) ∧ e.Calm ∧ Alike d.S e.S i (i + need b.length) ∧ Lies crc e i tag b := by
  obtain ⟨h1, h2, h3, h4, h5, h6⟩ := put_res crc d hd.2.1 hd.1 i room tag b hr hi
  rcases h6 with ⟨q1, q2, q3, q4⟩ | ⟨q0, _⟩
  · exact ⟨(put crc d i room tag b).1, Prod.ext rfl q1, ⟨h1, q2, h2.trans hd.2.2⟩, h5, q3, q4⟩
  · rw [hd.2.2] at q0
    cases q0
theorem puth_ok (d : DS) (hd : d.Calm) (i : Nat) (h : List Int) (hl : h.length = 16) (hi : i < d.S.length) : ∃ e, puth d i h = (e, 0) ∧ e.Calm ∧ Alike d.S e.S i (i + 1) ∧ e.S.getD i [] = h := by
  obtain ⟨h1, h2, h3, h4, h5, h6⟩ := puth_res d hd.2.1 hd.1 i h hl hi
  rcases h6 with ⟨q1, q2, q3⟩ | ⟨q0, _⟩
  · exact ⟨(puth d i h).1, Prod.ext rfl q1, ⟨h1, q2, h2.trans hd.2.2⟩, h5, q3⟩
  · rw [hd.2.2] at q0
    cases q0
theorem new_rd (n i : Nat) (hi : i < n) : (new n).rd (i : Int) = List.replicate 16 0 := by
  rw [rd_nil rfl, new]
  show (List.replicate n (List.replicate 16 (0 : Int))).getD i [] = _
  rw [List.getD_eq_getElem?_getD, List.getElem?_replicate, if_pos hi]
  rfl
theorem new_len (n : Nat) : (new n).S.length = n := List.length_replicate
/-- Are all of them bytes? -/
def isB (l : List Int) : Bool := l.all fun x => decide (0 ≤ x ∧ x < 256)
theorem isB_bytes {l : List Int} (h : isB l = true) : Bytes l := fun x hx => by
  have := List.all_eq_true.1 h x hx
  exact of_decide_eq_true this
theorem isB_of {l : List Int} (h : ∀ x ∈ l, (Lit.int .u8 x).wf = true) : isB l = true := List.all_eq_true.2 fun x hx => by
  have h1 := h x hx
  simp [Lit.wf, IntKind.min, IntKind.max, IntKind.signed, IntKind.bits] at h1
  exact decide_eq_true (by omega)
end DS
end Go.Proofs.YtkicekddkgehoaaW.Dk
namespace Go.Proofs.Ytkicekddkgehoaa.Hnd
open Go.RowKit Go.Proofs.Ytkicekddkgehoaa.QSlotLast Go.Proofs.YtkicekddkgehoaaW.PrintWords Go.Proofs.YtkicekddkgehoaaW.PrintLast Go.Proofs.YtkicekddkgehoaaW.Dk Go.Shelf
attribute [local go_sem] Oper.semAt_some
theorem crcO_lo (b : List Int) : 0 ≤ crcO b := by
  unfold crcO Go.bits
  rw [IntKind.wrap_u32]
  omega
theorem crcO_hi (b : List Int) : crcO b < 4294967296 := by
  unfold crcO Go.bits
  rw [IntKind.wrap_u32]
  omega
theorem conv_str {w : World} {A : Option Addr} {n c : Nat} {xs : List Int} (h : (Kd.int .u8).C w A n xs) : (convert 22 9 (.slice A n c)).run Try.prog w = .ok (.string (strOfNums xs)) w :=
  Kd.C_string (P := Try.prog) (A := A) (c := c) Try.underlying22 Try.underlying5 Try.underlying9 h
end Go.Proofs.Ytkicekddkgehoaa.Hnd
