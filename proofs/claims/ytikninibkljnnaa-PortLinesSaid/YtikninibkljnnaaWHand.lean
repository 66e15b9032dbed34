/- Words for contracts that are written by hand: rows read out of blocks that are known. -/
import Derived.Test.YtikninibkljnnaaWMore
import Derived.Laws.Cover4
namespace Go.Proofs.YtikninibkljnnaaW.PrintWords.Kd
/-! Words for contracts that are written by hand. -/
open Go.RowKit
theorem heap_cell {W : World} {g : Nat} {cs : Array Value} {T : TypeId} {fr : Nat × Nat} (h : W.heap[g]? = some (.cells cs T fr)) (i : Nat) : W.cell? ⟨g, i, none⟩ = cs[i]? := cell_of_row W g i cs T fr h
/-- A block whose cells are known, read as a row of elements of one cell each. -/
theorem C_cells1 {α : Type} {d : Kd α} {W : World} {g o : Nat} {cs : Array Value} {T : TypeId} {fr : Nat × Nat} {xs : List α} (h : W.heap[g]? = some (.cells cs T fr)) (hs : d.sz = 1) (hl : xs.length ≤ 9223372036854775807)
    (hx : ∀ j p, xs[j]? = some p → ∃ v, cs[o + j]? = some v ∧ d.K W p [v]) : d.C W (some ⟨g, o, none⟩) xs.length xs :=
  ⟨rfl, hl, fun _ => ⟨_, rfl, fun j p hj => by
    obtain ⟨v, hv, hK⟩ := hx j p hj
    refine ⟨[v], by rw [hs]; rfl, hK, fun i u hu => ?_⟩
    have hi : i = 0 := by have := (List.getElem?_eq_some_iff.1 hu).1; simpa using this
    subst hi
    obtain rfl : v = u := by simpa using hu
    rw [hs, Nat.mul_one, Nat.add_zero]
    have ha : (⟨g, o, none⟩ : Addr).add j = ⟨g, o + j, none⟩ := by unfold Addr.add; split <;> simp_all
    rw [ha, heap_cell h]
    exact hv⟩⟩
theorem C_scalar_cells {α : Type} {enc : α → Value} {h1 : ∀ x, (enc x).oneCell' = true} {W : World} {g : Nat} {T : TypeId} {fr : Nat × Nat} {xs : List α} (h : W.heap[g]? = some (.cells (xs.map enc).toArray T fr)) (hl : xs.length ≤ 9223372036854775807) :
    (scalar enc h1).C W (some ⟨g, 0, none⟩) xs.length xs :=
  C_cells1 h rfl hl (fun j p hj => ⟨enc p, by simp [hj], rfl⟩)
theorem C_int_cells {k : IntKind} {W : World} {g : Nat} {T : TypeId} {fr : Nat × Nat} {xs : List Int} {cs : Array Value} (h : W.heap[g]? = some (.cells cs T fr)) (he : cs = (xs.map (Value.int k)).toArray) (hl : xs.length ≤ 9223372036854775807) :
    (Kd.int k).C W (some ⟨g, 0, none⟩) xs.length xs := by subst he; exact C_scalar_cells h hl
/-- One slice in a block of its own: a variadic call's row. -/
theorem C_slice_one {α : Type} {d : Kd α} {e : Nat} {W : World} {g : Nat} {T : TypeId} {fr : Nat × Nat} {A : Option Addr} {n c : Nat} {xs : List α} (h : W.heap[g]? = some (.cells #[.slice A n c] T fr)) (hn : xs.length = n) (hc : xs.length ≤ c) (hC : d.C W A xs.length xs) :
    (Kd.slice e d).C W (some ⟨g, 0, none⟩) 1 [xs] := by
  subst hn
  exact C_cells1 (xs := [xs]) h rfl (by simp) (fun j p hj => by
    have hj0 : j = 0 := by have := (List.getElem?_eq_some_iff.1 hj).1; simpa using this
    subst hj0
    obtain rfl : xs = p := by simpa using hj
    exact ⟨_, rfl, A, c, rfl, hc, hC⟩)
theorem FK_slice_mkn {α : Type} {d : Kd α} {e n c : Nat} {W : World} {ok : Nat → Prop} {A : Option Addr} {l : List α} (hl : n ≤ c) (hf : F d W ok A n l) : FK (Kd.slice e d) W ok l [.slice A n c] := by
  have h := F_len hf
  subst h
  exact FK_slice_mk hl hf
/-- A row at no address is empty. -/
theorem C_none {α : Type} {d : Kd α} {W : World} {n : Nat} {xs : List α} (h : d.C W none n xs) : xs = [] := by
  rcases Nat.eq_zero_or_pos n with hn | hn
  · exact List.eq_nil_of_length_eq_zero (h.1.trans hn)
  · obtain ⟨_, he, _⟩ := h.2.2 hn
    cases he
def cmpS (a b : ByteArray) : Int := if Op.bytesLess a.toList b.toList = true then -1 else if a.toList = b.toList then 0 else 1
/-- Where the search ends: p: does what is wanted lie behind this place? -/
def bsr (p : Nat → Bool) : Nat → Nat → Nat → Nat
  | 0, lo, _ => lo
  | d + 1, lo, hi => if lo < hi then if p ((lo + hi) / 2) = true then bsr p d ((lo + hi) / 2 + 1) hi else bsr p d lo ((lo + hi) / 2) else lo
theorem bsr_more (p : Nat → Bool) : ∀ (d d' lo hi : Nat), hi - lo ≤ d → hi - lo ≤ d' → bsr p d lo hi = bsr p d' lo hi
  | 0, 0, _, _, _, _ => rfl
  | 0, d' + 1, lo, hi, h, _ => by rw [bsr, bsr, if_neg (by omega)]
  | d + 1, 0, lo, hi, _, h => by rw [bsr, bsr, if_neg (by omega)]
  | d + 1, d' + 1, lo, hi, h, h' => by
    rw [bsr, bsr]
    by_cases hl : lo < hi
    · rw [if_pos hl, if_pos hl, bsr_more p d d' _ hi (by omega) (by omega), bsr_more p d d' lo _ (by omega) (by omega)]
    · rw [if_neg hl, if_neg hl]
theorem bsr_le (p : Nat → Bool) : ∀ (d lo hi : Nat), lo ≤ hi → bsr p d lo hi ≤ hi
  | 0, lo, hi, h => h
  | d + 1, lo, hi, h => by
    rw [bsr]
    split
    · split
      · exact bsr_le p d _ hi (by omega)
      · exact Nat.le_trans (bsr_le p d lo _ (by omega)) (by omega)
    · exact h
/-! Letters of a text. -/
theorem iterPos_is {w : World} {k : Nat} {s : ByteArray} {p : Nat} (h : w.heap[k]? = some (.stringIter s p)) : w.iterPos k = p := by simp [World.iterPos, h]
theorem width_pos (s : ByteArray) (pos : Nat) (h : pos < s.size) : 1 ≤ (Utf8.decode s pos).2 := by
  by_cases ha : (s[pos]'h).toNat < 128
  · rw [decode_ascii s pos h ha]; exact Nat.le_refl _
  · exact (decode_high s pos h (by omega)).2
/-- The letters of a text from a place on; d: how many at most. -/
def letN (s : ByteArray) : Nat → Nat → List Int
  | 0, _ => []
  | d + 1, pos => if pos < s.size then ((Utf8.decode s pos).1 : Int) :: letN s d (pos + (Utf8.decode s pos).2) else []
theorem letN_end (s : ByteArray) (d pos : Nat) (h : ¬ pos < s.size) : letN s d pos = [] := by
  cases d with
  | zero => rfl
  | succ d => rw [letN, if_neg h]
theorem letN_more (s : ByteArray) : ∀ (d d' pos : Nat), s.size ≤ pos + d → s.size ≤ pos + d' → letN s d pos = letN s d' pos
  | 0, 0, _, _, _ => rfl
  | 0, d' + 1, pos, h, _ => by rw [letN_end s _ pos (by omega), letN_end s _ pos (by omega)]
  | d + 1, 0, pos, _, h => by rw [letN_end s _ pos (by omega), letN_end s _ pos (by omega)]
  | d + 1, d' + 1, pos, h, h' => by
    rw [letN, letN]
    by_cases hp : pos < s.size
    · have := width_pos s pos hp
      rw [if_pos hp, if_pos hp, letN_more s d d' _ (by omega) (by omega)]
    · rw [if_neg hp, if_neg hp]
/-- All letters of a text. -/
def letters (s : ByteArray) : List Int := letN s s.size 0
theorem letN_at (s : ByteArray) (pos : Nat) (h : pos < s.size) : letN s (s.size - pos) pos = ((Utf8.decode s pos).1 : Int) :: letN s (s.size - (pos + (Utf8.decode s pos).2)) (pos + (Utf8.decode s pos).2) := by
  obtain ⟨d, hd⟩ : ∃ d, s.size - pos = d + 1 := ⟨s.size - pos - 1, by omega⟩
  have := width_pos s pos h
  rw [hd, letN, if_pos h, letN_more s d (s.size - (pos + (Utf8.decode s pos).2)) _ (by omega) (by omega)]
theorem letN_len (s : ByteArray) : ∀ (d pos : Nat), (letN s d pos).length ≤ d
  | 0, _ => Nat.le_refl _
  | d + 1, pos => by
    rw [letN]
    split
    · simp only [List.length_cons]; have := letN_len s d (pos + (Utf8.decode s pos).2); omega
    · simp
/-! The first element of a kind. -/
def idxN {α : Type} (p : α → Bool) : List α → Nat → Int
  | [], _ => -1
  | x :: l, i => if p x = true then (i : Int) else idxN p l (i + 1)
theorem idxN_any {α : Type} (p : α → Bool) : ∀ (l : List α) (i : Nat), decide (0 ≤ idxN p l i) = l.any p
  | [], i => by simp [idxN]
  | x :: l, i => by
    rw [idxN, List.any_cons]
    cases hx : p x with
    | true => simp
    | false => simp [idxN_any p l (i + 1)]
theorem idxN_at {α : Type} (p : α → Bool) (l : List α) (z : α) (i : Nat) (h : i < l.length) : idxN p (l.drop i) i = if p (l.getD i z) = true then (i : Int) else idxN p (l.drop (i + 1)) (i + 1) := by
  rw [List.drop_eq_getElem_cons h, idxN]
  simp [List.getD_eq_getElem?_getD, h]
theorem idxN_end {α : Type} (p : α → Bool) (l : List α) (i : Nat) (h : ¬ i < l.length) : idxN p (l.drop i) i = -1 := by
  rw [List.drop_eq_nil_of_le (by omega), idxN]
/-! A text out of letters. -/
theorem C_runes {P : Program} {w : World} {A : Option Addr} {n c : Nat} {xs : List Int} {src dst e : TypeId} (hs : P.underlying src = some (.slice e)) (he : P.underlying e = some (.int .i32)) (hd : P.underlying dst = some .string)
    (h : (Kd.int .i32).C w A n xs) : (convert src dst (.slice A n c)).run P w = .ok (.string (runesBytes xs)) w := by
  have hn : xs.length = n := h.1
  rcases A with _ | a
  · obtain rfl := C_none h
    exact run_convert_runes_nil w src dst e n c hs he hd
  · have := run_convert_runes w src dst e a n c xs (by omega) hs he hd (fun j hj => by
      obtain ⟨ad, e1, hc⟩ := h.2.2 (by omega)
      cases e1
      obtain ⟨cs, _, hK, hcc⟩ := hc j (xs.getD j 0) (by simp [List.getD_eq_getElem?_getD, hj])
      have hK : cs = [.int .i32 (xs.getD j 0)] := hK
      subst hK
      have := hcc 0 _ rfl
      have e2 : (Kd.int .i32).sz = 1 := rfl
      rw [e2, Nat.mul_one, Nat.add_zero] at this
      exact this)
    rw [this, List.take_of_length_le (by omega)]
theorem own_runes {P : Program} {w : World} {base : Nat} {ok : Nat → Prop} {e' src dst e : TypeId} {v : Value} {xs : List Int} (hs : P.underlying src = some (.slice e)) (he : P.underlying e = some (.int .i32)) (hd : P.underlying dst = some .string)
    (h : (Kd.int .i32).R e' w base ok v xs) : (convert src dst v).run P w = .ok (.string (runesBytes xs)) w := by
  obtain ⟨A, c, rfl, _, hC⟩ := R_reads h
  exact C_runes hs he hd hC
/-! Rows of elements of several cells: copied, rearranged. -/
/-- copy(d, s) at elements of whatever size: all is read before anything is written. -/
theorem run_copy_cells_sz {P : Program} (w : World) (dT sT ty elem : TypeId) (b o dLen dCap : Nat) (a : Addr) (sLen sCap n sz : Nat) (cs : List Value)
    (hu : P.underlying dT = some (.slice elem)) (hs : (P.info? elem).map (·.size) = some sz) (hn : n = Nat.min sLen dLen) (hl' : cs.length = n * sz)
    (hsrc : ∀ j v, cs[j]? = some v → w.cell? (a.add j) = some v) (hc : ∀ j, j < cs.length → (w.cell? ⟨b, o + j, none⟩).isSome = true) (hf : ∀ j, j < cs.length → w.frozen? ⟨b, o + j, none⟩ = false) (h1 : ∀ v ∈ cs, v.oneCell' = true) :
    (Builtin.copy_ #[dT, sT] ty #[.slice (some ⟨b, o, none⟩) dLen dCap, .slice (some a) sLen sCap]).run P w = .ok (goInt n) (w.setCells b o cs) := by
  have hl := run_loadCells_list (P := P) w a cs hsrc
  have hst := run_storeCells_cells (P := P) b o cs 0 w (by simpa using hc) (by simpa using hf) h1
  cases hq : P.info? elem with
  | none => simp [hq] at hs
  | some i =>
    have hi : i.size = sz := by simpa [hq] using hs
    rw [hl'] at hl
    simp [Builtin.copy_, run_underlying hu, Builtin.lenOf, Builtin.firstCells, sizeOf, typeInfo, hq, hi, ← hn, hl, hst]
def Flat {α : Type} (d : Kd α) : Prop := ∀ (w w' : World) (base : Nat) (ok ok' : Nat → Prop) (x : α) (cs : List Value), d.M w base ok x cs → d.M w' base ok' x cs
theorem R_of_row {α : Type} {d : Kd α} (hfl : Flat d) {e base g cap : Nat} {ok : Nat → Prop} {w w0 : World} {b0 : Nat} {ok0 : Nat → Prop} {xs : List α} {inner : List Value} {cur : Array Value} (hr : Reps (d.M w0 b0 ok0) d.sz xs inner)
    (hh : w.heap[g]? = some (.cells cur e (0, 0))) (hb : base ≤ g) (hn : xs.length ≤ cap) (hm : cap ≤ 9223372036854775807) (hs : cur.size = cap * d.sz) (ht : cur.toList.take (xs.length * d.sz) = inner) (hok : ok g) (hb0 : b0 = base) :
    d.R e w base ok (.slice (some ⟨g, 0, none⟩) xs.length cap) xs := by
  subst hb0
  refine ⟨fun k hk => ?_, inner, ⟨hr.1, .inr ⟨g, cap, cur, rfl, hb, hh, hn, hm, hs, ht⟩⟩, hr.imp_ (fun p c h => hfl _ _ _ _ _ _ _ h)⟩
  have : g = k := by simpa [Value.ownBlock] using hk
  exact this ▸ hok
theorem reps_put {α : Type} {R : α → List Value → Prop} {size i : Nat} {ps : List α} {cs cx : List Value} {x : α} (h : Reps R size ps cs) (hx : R x cx) (hc : cx.length = size) (hi : i ≤ ps.length) : Reps R size (ps.take i ++ [x] ++ ps.drop i) (cs.take (i * size) ++ cx ++ cs.drop (i * size)) :=
  reps_append ((reps_take h hi).snoc hx hc) (reps_drop h)
theorem wp_copy_run {P : Program} (w : World) {o : Oper} {a : Act} {K : Act → World → Prop} {Q : Exit → Act → World → Prop} (d s : Operand) (t t' : TypeId)
    (ho : o.op = .call { callee := .builtin .copy, args := #[d, s], argTypes := #[t, t'] }) (v u : Value) (hd : a.eval d = v) (hs : a.eval s = u) {v' : Value} {w' : World}
    (hr : (Builtin.copy_ #[t, t'] o.type #[v, u]).run P w = .ok v' w') (h : K (a.put o.dst v') w') : o.wp P a w K Q := by
  unfold Oper.wp execOp
  simp only [ho, resolve, invoke, builtin, Sem.run_bind, Sem.run_pure, Result.andThen_ok, List.map_toArray, List.map_cons, List.map_nil, hd, hs, hr]
  exact h
theorem wpList_copy_run {P : Program} (w : World) {ops : Array Oper} {rest : List Oper} {o : Oper} {a : Act} {Q : Exit → Act → World → Prop} (hgd : o.guard = none) (d s : Operand) (t t' : TypeId)
    (ho : o.op = .call { callee := .builtin .copy, args := #[d, s], argTypes := #[t, t'] }) (v u : Value) (hd : a.eval d = v) (hs : a.eval s = u) {v' : Value} {w' : World}
    (hr : (Builtin.copy_ #[t, t'] o.type #[v, u]).run P w = .ok v' w') (h : wpList P ops Q rest (a.put o.dst v') w') : wpList P ops Q (o :: rest) a w :=
  wpList_plain hgd fun _ hK => wp_copy_run w d s t t' ho v u hd hs hr (hK _ _ h)
theorem step_copy_run {P : Program} {ops : Array Oper} {o : Oper} {a : Act} {w : World} {K : Act → World → Prop} {Q : Exit → Act → World → Prop} {E : Prop}
    (hg : o.guard = none) (d x : Operand) (dT sT : TypeId) (hop : o.op = Op.call { callee := Callee.builtin Builtin.copy, args := #[d, x], argTypes := #[dT, sT] })
    (v u : Value) (hd : a.eval d = v) (hx : a.eval x = u) {v' : Value} {w' : World} (hr : (Builtin.copy_ #[dT, sT] o.type #[v, u]).run P w = .ok v' w') (hK : K (a.put o.dst v') w') :
    if Region.wanted o (yielded ops a.tmps) = true then Oper.wp P o a w K Q else E := by
  have hw : Region.wanted o (yielded ops a.tmps) = true := by simp [Region.wanted, hg]
  rw [if_pos hw]
  unfold Oper.wp
  simp [execOp, hop, resolve, invoke, builtin, hd, hx, hr, Result.andThen]
  exact hK
theorem drew_setCells (b : Nat) : ∀ (vs : List Value) (o : Nat) (w : World), (w.setCells b o vs).drew = w.drew.setCells b o vs
  | [], _, _ => rfl
  | v :: r, o, w => by rw [World.setCells, World.setCells, drew_setCells b r]; rfl
theorem add_plain2 (g o j : Nat) : (⟨g, o, none⟩ : Addr).add j = ⟨g, o + j, none⟩ := by unfold Addr.add; split <;> simp_all
theorem below_setCells {B g : Nat} {w w1 : World} (h : Below B w w1) (hg : B ≤ g) : ∀ {vs : List Value} {o : Nat}, Below B w (w1.setCells g o vs) := by
  intro vs
  induction vs generalizing w1 with
  | nil => intro o; exact h
  | cons v r ih => intro o; exact ih (h.setCell (p := ⟨g, o, none⟩) hg v)
theorem own_some {α : Type} {d : Kd α} {e base : Nat} {w : World} {ok : Nat → Prop} {v : Value} {xs : List α} (h : d.R e w base ok v xs) (hn : 0 < xs.length) : ∃ g cap, v = .slice (some ⟨g, 0, none⟩) xs.length cap ∧ xs.length ≤ cap := by
  obtain ⟨_, inner, hown, _⟩ := h
  rcases hown.2 with ⟨_, h0⟩ | ⟨g, cap, cur, rfl, _, _, hnc, _⟩
  · omega
  · exact ⟨g, cap, rfl, hnc⟩
theorem R_cellsAt {α : Type} {d : Kd α} {e base : Nat} {w : World} {ok : Nat → Prop} {g n cap : Nat} {xs : List α} (h : d.R e w base ok (.slice (some ⟨g, 0, none⟩) n cap) xs) (i : Nat) (hi : i < xs.length) : ∃ c : List Value, c.length = d.sz ∧ ∀ j u, c[j]? = some u → w.cell? ⟨g, i * d.sz + j, none⟩ = some u := by
  obtain ⟨rfl, _, hC⟩ := R_reads' h
  obtain ⟨ad, e1, hc⟩ := hC.2.2 (by omega)
  cases e1
  obtain ⟨c, h1, hK, hcc⟩ := hc i _ (List.getElem?_eq_getElem hi)
  exact ⟨c, d.K_len hK, fun j u hj => by have := hcc j u hj; rwa [add_plain] at this⟩
theorem run_clear_row {P : Program} (w : World) (t ty e : TypeId) (i : TypeInfo) (z : Value) (ht : P.underlying t = some (.slice e)) (hi : P.info? e = some i) (hz : i.zero = some z) (g o n c : Nat) (hn : n ≠ 0)
    (hc : ∀ j, j < (Builtin.zeroCells z.cells n).size → (w.cell? ⟨g, o + j, none⟩).isSome = true) (hf : ∀ j, j < (Builtin.zeroCells z.cells n).size → w.frozen? ⟨g, o + j, none⟩ = false) (h1 : ∀ u ∈ (Builtin.zeroCells z.cells n).toList, u.oneCell' = true) :
    (Builtin.clear_ #[t] ty #[.slice (some ⟨g, o, none⟩) n c]).run P w = .ok (.tuple #[]) (w.setCells g o (Builtin.zeroCells z.cells n).toList) := by
  have hst := run_storeCells_cells (P := P) g o (Builtin.zeroCells z.cells n).toList 0 w (by simpa using hc) (by simpa using hf) h1
  cases n with
  | zero => exact absurd rfl hn
  | succ n => simp [Builtin.clear_, run_underlying ht, zeroValue, typeInfo, hi, hz, hst]
theorem wpList_clear_run {P : Program} (w : World) {ops : Array Oper} {rest : List Oper} {o : Oper} {a : Act} {Q : Exit → Act → World → Prop} (hgd : o.guard = none) (d : Operand) (t : TypeId)
    (ho : o.op = .call { callee := .builtin .clear, args := #[d], argTypes := #[t] }) (v : Value) (hd : a.eval d = v) {v' : Value} {w' : World}
    (hr : (Builtin.clear_ #[t] o.type #[v]).run P w = .ok v' w') (h : wpList P ops Q rest (a.put o.dst v') w') : wpList P ops Q (o :: rest) a w :=
  wpList_plain hgd fun K hK => by
    unfold Oper.wp execOp
    simp only [ho, resolve, invoke, builtin, Sem.run_bind, Sem.run_pure, Result.andThen_ok, List.map_toArray, List.map_cons, List.map_nil, hd, hr]
    exact hK _ _ h
end Go.Proofs.YtikninibkljnnaaW.PrintWords.Kd
