/- Words for contracts that are written by hand: rows read out of blocks that are known. -/
import Derived.Test.YtkicekddkgehoaaGreatDoorWMore
import Derived.Laws.Cover4
namespace Go.Proofs.YtkicekddkgehoaaGreatDoorW.PrintWords.Kd
/-! Words for contracts that are written by hand. -/
open Go.RowKit
theorem heap_cell {W : World} {g : Nat} {cs : Array Value} {T : TypeId} {fr : Nat × Nat} (h : W.heap[g]? = some (.cells cs T fr)) (i : Nat) : W.cell? ⟨g, i, none⟩ = cs[i]? := cell_of_row W g i cs T fr h
/-- A block whose cells are known, read as a row of elements of one cell each. -/
theorem C_cells1 {α : Type} {d : Kd α} {W : World} {g o : Nat} {cs : Array Value} {T : TypeId} {fr : Nat × Nat} {xs : List α} (h : W.heap[g]? = some (.cells cs T fr)) (hs : d.sz = 1) (hl : xs.length ≤ 9223372036854775807)
    (hx : ∀ j p, xs[j]? = some p → ∃ v, cs[o + j]? = some v ∧ d.K W p [v]) : d.C W (some ⟨g, o, none⟩) xs.length xs :=
  ⟨rfl, hl, fun _ => ⟨_, rfl, fun j p hj => by
    obtain ⟨v, hv, hK⟩ := hx j p hj
    refine ⟨[v], by rw [hs]; rfl, hK, fun i u hu => ?_⟩
    have hi : i = 0 := by have := (List.getElem?_eq_some_iff.1 hu).1; simpa using this
    subst hi
    obtain rfl : v = u := by simpa using hu
    rw [hs, Nat.mul_one, Nat.add_zero]
    have ha : (⟨g, o, none⟩ : Addr).add j = ⟨g, o + j, none⟩ := by unfold Addr.add; split <;> simp_all
    rw [ha, heap_cell h]
    exact hv⟩⟩
theorem C_scalar_cells {α : Type} {enc : α → Value} {h1 : ∀ x, (enc x).oneCell' = true} {W : World} {g : Nat} {T : TypeId} {fr : Nat × Nat} {xs : List α} (h : W.heap[g]? = some (.cells (xs.map enc).toArray T fr)) (hl : xs.length ≤ 9223372036854775807) :
    (scalar enc h1).C W (some ⟨g, 0, none⟩) xs.length xs :=
  C_cells1 h rfl hl (fun j p hj => ⟨enc p, by simp [hj], rfl⟩)
theorem C_int_cells {k : IntKind} {W : World} {g : Nat} {T : TypeId} {fr : Nat × Nat} {xs : List Int} {cs : Array Value} (h : W.heap[g]? = some (.cells cs T fr)) (he : cs = (xs.map (Value.int k)).toArray) (hl : xs.length ≤ 9223372036854775807) :
    (Kd.int k).C W (some ⟨g, 0, none⟩) xs.length xs := by subst he; exact C_scalar_cells h hl
/-- One slice in a block of its own: a variadic call's row. -/
theorem C_slice_one {α : Type} {d : Kd α} {e : Nat} {W : World} {g : Nat} {T : TypeId} {fr : Nat × Nat} {A : Option Addr} {n c : Nat} {xs : List α} (h : W.heap[g]? = some (.cells #[.slice A n c] T fr)) (hn : xs.length = n) (hc : xs.length ≤ c) (hC : d.C W A xs.length xs) :
    (Kd.slice e d).C W (some ⟨g, 0, none⟩) 1 [xs] := by
  subst hn
  exact C_cells1 (xs := [xs]) h rfl (by simp) (fun j p hj => by
    have hj0 : j = 0 := by have := (List.getElem?_eq_some_iff.1 hj).1; simpa using this
    subst hj0
    obtain rfl : xs = p := by simpa using hj
    exact ⟨_, rfl, A, c, rfl, hc, hC⟩)
/-- A row at no address is empty. -/
theorem C_none {α : Type} {d : Kd α} {W : World} {n : Nat} {xs : List α} (h : d.C W none n xs) : xs = [] := by
  rcases Nat.eq_zero_or_pos n with hn | hn
  · exact List.eq_nil_of_length_eq_zero (h.1.trans hn)
  · obtain ⟨_, he, _⟩ := h.2.2 hn
    cases he
/-! Letters of a text. -/
/-- The letters of a text from a place on; d: how many at most. -/
def letN (s : ByteArray) : Nat → Nat → List Int
  | 0, _ => []
  | d + 1, pos => if pos < s.size then ((Utf8.decode s pos).1 : Int) :: letN s d (pos + (Utf8.decode s pos).2) else []
/-- All letters of a text. -/
def letters (s : ByteArray) : List Int := letN s s.size 0
/-! The first element of a kind. -/
/-! A text out of letters. -/
/-! Rows of elements of several cells: copied, rearranged. -/
/-- copy(d, s) at elements of whatever size: all is read before anything is written. -/
theorem run_copy_cells_sz {P : Program} (w : World) (dT sT ty elem : TypeId) (b o dLen dCap : Nat) (a : Addr) (sLen sCap n sz : Nat) (cs : List Value)
    (hu : P.underlying dT = some (.slice elem)) (hs : (P.info? elem).map (·.size) = some sz) (hn : n = Nat.min sLen dLen) (hl' : cs.length = n * sz)
    (hsrc : ∀ j v, cs[j]? = some v → w.cell? (a.add j) = some v) (hc : ∀ j, j < cs.length → (w.cell? ⟨b, o + j, none⟩).isSome = true) (hf : ∀ j, j < cs.length → w.frozen? ⟨b, o + j, none⟩ = false) (h1 : ∀ v ∈ cs, v.oneCell' = true) :
    (Builtin.copy_ #[dT, sT] ty #[.slice (some ⟨b, o, none⟩) dLen dCap, .slice (some a) sLen sCap]).run P w = .ok (goInt n) (w.setCells b o cs) := by
  have hl := run_loadCells_list (P := P) w a cs hsrc
  have hst := run_storeCells_cells (P := P) b o cs 0 w (by simpa using hc) (by simpa using hf) h1
  cases hq : P.info? elem with
  | none => simp [hq] at hs
  | some i =>
    have hi : i.size = sz := by simpa [hq] using hs
    rw [hl'] at hl
    simp [Builtin.copy_, run_underlying hu, Builtin.lenOf, Builtin.firstCells, sizeOf, typeInfo, hq, hi, ← hn, hl, hst]
def Flat {α : Type} (d : Kd α) : Prop := ∀ (w w' : World) (base : Nat) (ok ok' : Nat → Prop) (x : α) (cs : List Value), d.M w base ok x cs → d.M w' base ok' x cs
theorem R_of_row {α : Type} {d : Kd α} (hfl : Flat d) {e base g cap : Nat} {ok : Nat → Prop} {w w0 : World} {b0 : Nat} {ok0 : Nat → Prop} {xs : List α} {inner : List Value} {cur : Array Value} (hr : Reps (d.M w0 b0 ok0) d.sz xs inner)
    (hh : w.heap[g]? = some (.cells cur e (0, 0))) (hb : base ≤ g) (hn : xs.length ≤ cap) (hm : cap ≤ 9223372036854775807) (hs : cur.size = cap * d.sz) (ht : cur.toList.take (xs.length * d.sz) = inner) (hok : ok g) (hb0 : b0 = base) :
    d.R e w base ok (.slice (some ⟨g, 0, none⟩) xs.length cap) xs := by
  subst hb0
  refine ⟨fun k hk => ?_, inner, ⟨hr.1, .inr ⟨g, cap, cur, rfl, hb, hh, hn, hm, hs, ht⟩⟩, hr.imp_ (fun p c h => hfl _ _ _ _ _ _ _ h)⟩
  have : g = k := by simpa [Value.ownBlock] using hk
  exact this ▸ hok
theorem wp_copy_run {P : Program} (w : World) {o : Oper} {a : Act} {K : Act → World → Prop} {Q : Exit → Act → World → Prop} (d s : Operand) (t t' : TypeId)
    (ho : o.op = .call { callee := .builtin .copy, args := #[d, s], argTypes := #[t, t'] }) (v u : Value) (hd : a.eval d = v) (hs : a.eval s = u) {v' : Value} {w' : World}
    (hr : (Builtin.copy_ #[t, t'] o.type #[v, u]).run P w = .ok v' w') (h : K (a.put o.dst v') w') : o.wp P a w K Q := by
  unfold Oper.wp execOp
  simp only [ho, resolve, invoke, builtin, Sem.run_bind, Sem.run_pure, Result.andThen_ok, List.map_toArray, List.map_cons, List.map_nil, hd, hs, hr]
  exact h
theorem wpList_copy_run {P : Program} (w : World) {ops : Array Oper} {rest : List Oper} {o : Oper} {a : Act} {Q : Exit → Act → World → Prop} (hgd : o.guard = none) (d s : Operand) (t t' : TypeId)
    (ho : o.op = .call { callee := .builtin .copy, args := #[d, s], argTypes := #[t, t'] }) (v u : Value) (hd : a.eval d = v) (hs : a.eval s = u) {v' : Value} {w' : World}
    (hr : (Builtin.copy_ #[t, t'] o.type #[v, u]).run P w = .ok v' w') (h : wpList P ops Q rest (a.put o.dst v') w') : wpList P ops Q (o :: rest) a w :=
  wpList_plain hgd fun _ hK => wp_copy_run w d s t t' ho v u hd hs hr (hK _ _ h)
theorem step_copy_run {P : Program} {ops : Array Oper} {o : Oper} {a : Act} {w : World} {K : Act → World → Prop} {Q : Exit → Act → World → Prop} {E : Prop}
    (hg : o.guard = none) (d x : Operand) (dT sT : TypeId) (hop : o.op = Op.call { callee := Callee.builtin Builtin.copy, args := #[d, x], argTypes := #[dT, sT] })
    (v u : Value) (hd : a.eval d = v) (hx : a.eval x = u) {v' : Value} {w' : World} (hr : (Builtin.copy_ #[dT, sT] o.type #[v, u]).run P w = .ok v' w') (hK : K (a.put o.dst v') w') :
    if Region.wanted o (yielded ops a.tmps) = true then Oper.wp P o a w K Q else E := by
  have hw : Region.wanted o (yielded ops a.tmps) = true := by simp [Region.wanted, hg]
  rw [if_pos hw]
  unfold Oper.wp
  simp [execOp, hop, resolve, invoke, builtin, hd, hx, hr, Result.andThen]
  exact hK
theorem add_plain2 (g o j : Nat) : (⟨g, o, none⟩ : Addr).add j = ⟨g, o + j, none⟩ := by unfold Addr.add; split <;> simp_all
theorem below_setCells {B g : Nat} {w w1 : World} (h : Below B w w1) (hg : B ≤ g) : ∀ {vs : List Value} {o : Nat}, Below B w (w1.setCells g o vs) := by
  intro vs
  induction vs generalizing w1 with
  | nil => intro o; exact h
  | cons v r ih => intro o; exact ih (h.setCell (p := ⟨g, o, none⟩) hg v)
theorem own_some {α : Type} {d : Kd α} {e base : Nat} {w : World} {ok : Nat → Prop} {v : Value} {xs : List α} (h : d.R e w base ok v xs) (hn : 0 < xs.length) : ∃ g cap, v = .slice (some ⟨g, 0, none⟩) xs.length cap ∧ xs.length ≤ cap := by
  obtain ⟨_, inner, hown, _⟩ := h
  rcases hown.2 with ⟨_, h0⟩ | ⟨g, cap, cur, rfl, _, _, hnc, _⟩
  · omega
  · exact ⟨g, cap, rfl, hnc⟩
end Go.Proofs.YtkicekddkgehoaaGreatDoorW.PrintWords.Kd
