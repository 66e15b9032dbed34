/- Contracts of the calls, by hand. -/
import Derived.Test.YtkicekddkgehoaaDoorQMarkBytesx2
import Derived.Test.YtkicekddkgehoaaDoorNet4
import Derived.RangeFuncNested
import Derived.RangeFuncBound
import Derived.RangeFuncCalls
import Derived.RangeFuncLeaves
import Derived.RangeFuncBox
import Derived.Shelf.Abstract
import Derived.Shelf.RegionOpen
import Derived.OwnWalkIn
import Derived.TacticsInMore
import Derived.LoopNIn
import Derived.LoopIn
import Derived.Sort.QuietIn
import Derived.Sort.CutIn
import Derived.Stop.RegionWithIn
import Derived.StillTailTactics
import Derived.Shelf.Strconv.AppendIntPublic10
import Derived.Shelf.Strconv.ErrVarParseInt
import Derived.Shelf.Bytes.IndexByte
import Derived.Lib.ItoaLen
import Derived.Lib.ParseIntBTie
import Derived.Lib.AtoiBound
namespace Go.Proofs.YtkicekddkgehoaaDoor.Hnd
open Go.RowKit Go.Proofs.YtkicekddkgehoaaDoor.QMarkBytes Go.Proofs.YtkicekddkgehoaaDoorW.PrintWords Go.Proofs.YtkicekddkgehoaaDoorW.PrintLast  Go.Shelf
set_option linter.unusedVariables false
set_option linter.unusedSimpArgs false
attribute [local go_sem] Oper.semAt_some
theorem kcv (w : World) (C : Array Value) (n c : Nat) : (convert 26 26 (.slice (some ⟨w.heap.size, 0, none⟩) n c)).run Tryd.prog (w.alloc (.cells C 5)) = .ok (.slice (some ⟨w.heap.size, 0, none⟩) n c) (w.alloc (.cells C 5 (C.size, C.size + 1))) := Lib.run_convert_bytes_const (P := Tryd.prog) w 26 5 C n c Tryd.underlying26 Tryd.underlying5
theorem num_small {n : Nat} (h : n < 10) : NT.num (n : Int) = [(48 + n : Int), 59] := by
  unfold NT.num
  rw [Lib.itoa_nonneg, NT.dec_small h]
  show [((UInt8.ofNat (48 + n)).toNat : Int)] ++ [59] = _
  rw [NT.ofNat_nat (by omega)]
  rfl
theorem tT_text {s t : List Int} (hs : s.length ≤ 1099511627776) : tT (NT.text s ++ t) = (s, (NT.text s).length, true) := by
  unfold tT
  rw [NT.takeT_text (by omega)]
theorem new_lit (w : World) (C : Array Value) (b : List Int) (hC : C = (b.map (Value.int .u8)).toArray) (hb : NBytes b) (hl : b.length < 140737488355328) (n : Nat) (hn : b.length = n) :
    Calls Tryd.prog 26 #[.slice (some ⟨w.heap.size, 0, none⟩) n n] (w.alloc (.cells C 5 (C.size, C.size + 1))) fun e w' => ∃ g, e = .returned (.pointer (some ⟨g, 0, none⟩)) ∧ w.heap.size ≤ g ∧ NR 83 True w' [g] g b ∧ Below w.heap.size w w' := by
  subst hn
  exact (new_c (c := b.length) (Kd.C_int_cells (T := 5) (fr := (C.size, C.size + 1)) (heap_alloc_new w _) hC (by omega)) (Nat.le_refl _) hb hl).mono fun e w' ⟨g, e1, hg, hR, hB⟩ =>
    ⟨g, e1, Nat.le_trans (by simp) hg, hR, (below_alloc (Below.refl w.heap.size w) _).trans (hB.mono (by simp))⟩
def cat (l : List ByteArray) : List Int := (l.map (fun s => NT.text (strL s))).flatten
theorem cat_snoc (l : List ByteArray) (s : ByteArray) : cat (l ++ [s]) = cat l ++ NT.text (strL s) := by unfold cat; rw [List.map_append, List.flatten_append]; simp
theorem cat_cons (s : ByteArray) (l : List ByteArray) : cat (s :: l) = NT.text (strL s) ++ cat l := rfl
theorem text_len_le {s : ByteArray} (hs : s.size ≤ 1099511627776) : (NT.text (strL s)).length ≤ s.size + 22 := by
  unfold NT.text
  rw [List.length_append, strL_len]
  have := num_len_le (n := (s.size : Int)) ⟨by omega, by omega⟩
  omega
theorem text_bytes (s : ByteArray) : NBytes (NT.text (strL s)) := fun x hx => (List.mem_append.1 hx).elim (NT.num_bytes _ x) (strL_bytes s x)
theorem cat_bytes (l : List ByteArray) : NBytes (cat l) := fun x hx => by
  unfold cat at hx
  obtain ⟨y, hy, hx⟩ := List.mem_flatten.1 hx
  obtain ⟨s, _, rfl⟩ := List.mem_map.1 hy
  exact text_bytes s x hx
def strAt (l : List ByteArray) (k : Nat) : ByteArray := l.getD k ⟨#[]⟩
theorem str_at {w : World} {A : Option Addr} {n : Nat} {xs : List ByteArray} (h : Kd.C Kd.string w A n xs) (k : Nat) (hk : k < n) : ∃ ad, A = some ad ∧ ad.block < w.heap.size ∧ w.cell? (ad.add k) = some (.string (strAt xs k)) := by
  have hlt : ∀ ad, A = some ad → ad.block < w.heap.size := fun ad e => by subst e; exact Kd.C_lt h (by omega) (by decide)
  obtain ⟨ad, e, hc⟩ := h.2.2 (by omega)
  have hl : k < xs.length := by rw [h.1]; exact hk
  obtain ⟨cs, h1, h2, h3⟩ := hc k _ (List.getElem?_eq_getElem hl)
  have h4 := h3 0 (.string xs[k]) (by rw [show cs = [.string xs[k]] from h2]; rfl)
  rw [Nat.add_zero, show Kd.string.sz = 1 from rfl, Nat.mul_one] at h4
  refine ⟨ad, e, hlt ad e, ?_⟩
  rw [h4]
  unfold strAt
  rw [List.getD_eq_getElem?_getD, List.getElem?_eq_getElem hl]
  rfl
theorem take_at {l : List ByteArray} {k : Nat} (hk : k < l.length) : l.take (k + 1) = l.take k ++ [strAt l k] := by
  rw [List.take_add_one, List.getElem?_eq_getElem hk]
  unfold strAt
  rw [List.getD_eq_getElem?_getD, List.getElem?_eq_getElem hk]
  rfl
theorem drop_at {l : List ByteArray} {k : Nat} (hk : k < l.length) : l.drop k = strAt l k :: l.drop (k + 1) := by
  rw [List.drop_eq_getElem_cons hk]
  unfold strAt
  rw [List.getD_eq_getElem?_getD, List.getElem?_eq_getElem hk]
  rfl
theorem wrap_succ {k n : Nat} (h : k < n) (hn : n ≤ 1000000) : wrap64 ((k : Int) + 1) = (k : Int) + 1 := by
  unfold wrap64
  omega
end Go.Proofs.YtkicekddkgehoaaDoor.Hnd
