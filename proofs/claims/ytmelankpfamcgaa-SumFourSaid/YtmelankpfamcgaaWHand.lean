/- Words for contracts that are written by hand: rows read out of blocks that are known. -/
import Derived.Test.YtmelankpfamcgaaWMore
namespace Go.Proofs.YtmelankpfamcgaaW.PrintWords.Kd
/-! Words for contracts that are written by hand. -/
open Go.RowKit
theorem heap_cell {W : World} {g : Nat} {cs : Array Value} {T : TypeId} {fr : Nat × Nat} (h : W.heap[g]? = some (.cells cs T fr)) (i : Nat) : W.cell? ⟨g, i, none⟩ = cs[i]? := cell_of_row W g i cs T fr h
/-- A block whose cells are known, read as a row of elements of one cell each. -/
theorem C_cells1 {α : Type} {d : Kd α} {W : World} {g o : Nat} {cs : Array Value} {T : TypeId} {fr : Nat × Nat} {xs : List α} (h : W.heap[g]? = some (.cells cs T fr)) (hs : d.sz = 1) (hl : xs.length ≤ 9223372036854775807)
    (hx : ∀ j p, xs[j]? = some p → ∃ v, cs[o + j]? = some v ∧ d.K W p [v]) : d.C W (some ⟨g, o, none⟩) xs.length xs :=
  ⟨rfl, hl, fun _ => ⟨_, rfl, fun j p hj => by
    obtain ⟨v, hv, hK⟩ := hx j p hj
    refine ⟨[v], by rw [hs]; rfl, hK, fun i u hu => ?_⟩
    have hi : i = 0 := by have := (List.getElem?_eq_some_iff.1 hu).1; simpa using this
    subst hi
    obtain rfl : v = u := by simpa using hu
    rw [hs, Nat.mul_one, Nat.add_zero]
    have ha : (⟨g, o, none⟩ : Addr).add j = ⟨g, o + j, none⟩ := by unfold Addr.add; split <;> simp_all
    rw [ha, heap_cell h]
    exact hv⟩⟩
theorem C_scalar_cells {α : Type} {enc : α → Value} {h1 : ∀ x, (enc x).oneCell' = true} {W : World} {g : Nat} {T : TypeId} {fr : Nat × Nat} {xs : List α} (h : W.heap[g]? = some (.cells (xs.map enc).toArray T fr)) (hl : xs.length ≤ 9223372036854775807) :
    (scalar enc h1).C W (some ⟨g, 0, none⟩) xs.length xs :=
  C_cells1 h rfl hl (fun j p hj => ⟨enc p, by simp [hj], rfl⟩)
theorem C_int_cells {k : IntKind} {W : World} {g : Nat} {T : TypeId} {fr : Nat × Nat} {xs : List Int} {cs : Array Value} (h : W.heap[g]? = some (.cells cs T fr)) (he : cs = (xs.map (Value.int k)).toArray) (hl : xs.length ≤ 9223372036854775807) :
    (Kd.int k).C W (some ⟨g, 0, none⟩) xs.length xs := by subst he; exact C_scalar_cells h hl
/-- One slice in a block of its own: a variadic call's row. -/
theorem C_slice_one {α : Type} {d : Kd α} {e : Nat} {W : World} {g : Nat} {T : TypeId} {fr : Nat × Nat} {A : Option Addr} {n c : Nat} {xs : List α} (h : W.heap[g]? = some (.cells #[.slice A n c] T fr)) (hn : xs.length = n) (hc : xs.length ≤ c) (hC : d.C W A xs.length xs) :
    (Kd.slice e d).C W (some ⟨g, 0, none⟩) 1 [xs] := by
  subst hn
  exact C_cells1 (xs := [xs]) h rfl (by simp) (fun j p hj => by
    have hj0 : j = 0 := by have := (List.getElem?_eq_some_iff.1 hj).1; simpa using this
    subst hj0
    obtain rfl : xs = p := by simpa using hj
    exact ⟨_, rfl, A, c, rfl, hc, hC⟩)
theorem FK_slice_mkn {α : Type} {d : Kd α} {e n c : Nat} {W : World} {ok : Nat → Prop} {A : Option Addr} {l : List α} (hl : n ≤ c) (hf : F d W ok A n l) : FK (Kd.slice e d) W ok l [.slice A n c] := by
  have h := F_len hf
  subst h
  exact FK_slice_mk hl hf
end Go.Proofs.YtmelankpfamcgaaW.PrintWords.Kd
