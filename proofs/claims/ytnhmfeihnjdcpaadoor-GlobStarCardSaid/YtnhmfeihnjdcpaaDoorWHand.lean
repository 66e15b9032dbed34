/- Words for contracts that are written by hand: rows read out of blocks that are known. -/
import Derived.Test.YtnhmfeihnjdcpaaDoorWMore
import Derived.Laws.Cover4
namespace Go.Proofs.YtnhmfeihnjdcpaaDoorW.PrintWords.Kd
/-! Words for contracts that are written by hand. -/
open Go.RowKit
theorem heap_cell {W : World} {g : Nat} {cs : Array Value} {T : TypeId} {fr : Nat × Nat} (h : W.heap[g]? = some (.cells cs T fr)) (i : Nat) : W.cell? ⟨g, i, none⟩ = cs[i]? := cell_of_row W g i cs T fr h
/-- A block whose cells are known, read as a row of elements of one cell each. -/
theorem C_cells1 {α : Type} {d : Kd α} {W : World} {g o : Nat} {cs : Array Value} {T : TypeId} {fr : Nat × Nat} {xs : List α} (h : W.heap[g]? = some (.cells cs T fr)) (hs : d.sz = 1) (hl : xs.length ≤ 9223372036854775807)
    (hx : ∀ j p, xs[j]? = some p → ∃ v, cs[o + j]? = some v ∧ d.K W p [v]) : d.C W (some ⟨g, o, none⟩) xs.length xs :=
  ⟨rfl, hl, fun _ => ⟨_, rfl, fun j p hj => by
    obtain ⟨v, hv, hK⟩ := hx j p hj
    refine ⟨[v], by rw [hs]; rfl, hK, fun i u hu => ?_⟩
    have hi : i = 0 := by have := (List.getElem?_eq_some_iff.1 hu).1; simpa using this
    subst hi
    obtain rfl : v = u := by simpa using hu
    rw [hs, Nat.mul_one, Nat.add_zero]
    have ha : (⟨g, o, none⟩ : Addr).add j = ⟨g, o + j, none⟩ := by unfold Addr.add; split <;> simp_all
    rw [ha, heap_cell h]
    exact hv⟩⟩
theorem C_scalar_cells {α : Type} {enc : α → Value} {h1 : ∀ x, (enc x).oneCell' = true} {W : World} {g : Nat} {T : TypeId} {fr : Nat × Nat} {xs : List α} (h : W.heap[g]? = some (.cells (xs.map enc).toArray T fr)) (hl : xs.length ≤ 9223372036854775807) :
    (scalar enc h1).C W (some ⟨g, 0, none⟩) xs.length xs :=
  C_cells1 h rfl hl (fun j p hj => ⟨enc p, by simp [hj], rfl⟩)
theorem C_int_cells {k : IntKind} {W : World} {g : Nat} {T : TypeId} {fr : Nat × Nat} {xs : List Int} {cs : Array Value} (h : W.heap[g]? = some (.cells cs T fr)) (he : cs = (xs.map (Value.int k)).toArray) (hl : xs.length ≤ 9223372036854775807) :
    (Kd.int k).C W (some ⟨g, 0, none⟩) xs.length xs := by subst he; exact C_scalar_cells h hl
/-- One slice in a block of its own: a variadic call's row. -/
theorem C_slice_one {α : Type} {d : Kd α} {e : Nat} {W : World} {g : Nat} {T : TypeId} {fr : Nat × Nat} {A : Option Addr} {n c : Nat} {xs : List α} (h : W.heap[g]? = some (.cells #[.slice A n c] T fr)) (hn : xs.length = n) (hc : xs.length ≤ c) (hC : d.C W A xs.length xs) :
    (Kd.slice e d).C W (some ⟨g, 0, none⟩) 1 [xs] := by
  subst hn
  exact C_cells1 (xs := [xs]) h rfl (by simp) (fun j p hj => by
    have hj0 : j = 0 := by have := (List.getElem?_eq_some_iff.1 hj).1; simpa using this
    subst hj0
    obtain rfl : xs = p := by simpa using hj
    exact ⟨_, rfl, A, c, rfl, hc, hC⟩)
theorem FK_slice_mkn {α : Type} {d : Kd α} {e n c : Nat} {W : World} {ok : Nat → Prop} {A : Option Addr} {l : List α} (hl : n ≤ c) (hf : F d W ok A n l) : FK (Kd.slice e d) W ok l [.slice A n c] := by
  have h := F_len hf
  subst h
  exact FK_slice_mk hl hf
/-- A row at no address is empty. -/
theorem C_none {α : Type} {d : Kd α} {W : World} {n : Nat} {xs : List α} (h : d.C W none n xs) : xs = [] := by
  rcases Nat.eq_zero_or_pos n with hn | hn
  · exact List.eq_nil_of_length_eq_zero (h.1.trans hn)
  · obtain ⟨_, he, _⟩ := h.2.2 hn
    cases he
def cmpS (a b : ByteArray) : Int := if Op.bytesLess a.toList b.toList = true then -1 else if a.toList = b.toList then 0 else 1
/-- Where the search ends: p: does what is wanted lie behind this place? -/
def bsr (p : Nat → Bool) : Nat → Nat → Nat → Nat
  | 0, lo, _ => lo
  | d + 1, lo, hi => if lo < hi then if p ((lo + hi) / 2) = true then bsr p d ((lo + hi) / 2 + 1) hi else bsr p d lo ((lo + hi) / 2) else lo
theorem bsr_more (p : Nat → Bool) : ∀ (d d' lo hi : Nat), hi - lo ≤ d → hi - lo ≤ d' → bsr p d lo hi = bsr p d' lo hi
  | 0, 0, _, _, _, _ => rfl
  | 0, d' + 1, lo, hi, h, _ => by rw [bsr, bsr, if_neg (by omega)]
  | d + 1, 0, lo, hi, _, h => by rw [bsr, bsr, if_neg (by omega)]
  | d + 1, d' + 1, lo, hi, h, h' => by
    rw [bsr, bsr]
    by_cases hl : lo < hi
    · rw [if_pos hl, if_pos hl, bsr_more p d d' _ hi (by omega) (by omega), bsr_more p d d' lo _ (by omega) (by omega)]
    · rw [if_neg hl, if_neg hl]
theorem bsr_le (p : Nat → Bool) : ∀ (d lo hi : Nat), lo ≤ hi → bsr p d lo hi ≤ hi
  | 0, lo, hi, h => h
  | d + 1, lo, hi, h => by
    rw [bsr]
    split
    · split
      · exact bsr_le p d _ hi (by omega)
      · exact Nat.le_trans (bsr_le p d lo _ (by omega)) (by omega)
    · exact h
/-! Letters of a text. -/
theorem iterPos_is {w : World} {k : Nat} {s : ByteArray} {p : Nat} (h : w.heap[k]? = some (.stringIter s p)) : w.iterPos k = p := by simp [World.iterPos, h]
theorem width_pos (s : ByteArray) (pos : Nat) (h : pos < s.size) : 1 ≤ (Utf8.decode s pos).2 := by
  by_cases ha : (s[pos]'h).toNat < 128
  · rw [decode_ascii s pos h ha]; exact Nat.le_refl _
  · exact (decode_high s pos h (by omega)).2
/-- The letters of a text from a place on; d: how many at most. -/
def letN (s : ByteArray) : Nat → Nat → List Int
  | 0, _ => []
  | d + 1, pos => if pos < s.size then ((Utf8.decode s pos).1 : Int) :: letN s d (pos + (Utf8.decode s pos).2) else []
theorem letN_end (s : ByteArray) (d pos : Nat) (h : ¬ pos < s.size) : letN s d pos = [] := by
  cases d with
  | zero => rfl
  | succ d => rw [letN, if_neg h]
theorem letN_more (s : ByteArray) : ∀ (d d' pos : Nat), s.size ≤ pos + d → s.size ≤ pos + d' → letN s d pos = letN s d' pos
  | 0, 0, _, _, _ => rfl
  | 0, d' + 1, pos, h, _ => by rw [letN_end s _ pos (by omega), letN_end s _ pos (by omega)]
  | d + 1, 0, pos, _, h => by rw [letN_end s _ pos (by omega), letN_end s _ pos (by omega)]
  | d + 1, d' + 1, pos, h, h' => by
    rw [letN, letN]
    by_cases hp : pos < s.size
    · have := width_pos s pos hp
      rw [if_pos hp, if_pos hp, letN_more s d d' _ (by omega) (by omega)]
    · rw [if_neg hp, if_neg hp]
/-- All letters of a text. -/
def letters (s : ByteArray) : List Int := letN s s.size 0
theorem letN_at (s : ByteArray) (pos : Nat) (h : pos < s.size) : letN s (s.size - pos) pos = ((Utf8.decode s pos).1 : Int) :: letN s (s.size - (pos + (Utf8.decode s pos).2)) (pos + (Utf8.decode s pos).2) := by
  obtain ⟨d, hd⟩ : ∃ d, s.size - pos = d + 1 := ⟨s.size - pos - 1, by omega⟩
  have := width_pos s pos h
  rw [hd, letN, if_pos h, letN_more s d (s.size - (pos + (Utf8.decode s pos).2)) _ (by omega) (by omega)]
theorem letN_len (s : ByteArray) : ∀ (d pos : Nat), (letN s d pos).length ≤ d
  | 0, _ => Nat.le_refl _
  | d + 1, pos => by
    rw [letN]
    split
    · simp only [List.length_cons]; have := letN_len s d (pos + (Utf8.decode s pos).2); omega
    · simp
/-! The first element of a kind. -/
def idxN {α : Type} (p : α → Bool) : List α → Nat → Int
  | [], _ => -1
  | x :: l, i => if p x = true then (i : Int) else idxN p l (i + 1)
theorem idxN_any {α : Type} (p : α → Bool) : ∀ (l : List α) (i : Nat), decide (0 ≤ idxN p l i) = l.any p
  | [], i => by simp [idxN]
  | x :: l, i => by
    rw [idxN, List.any_cons]
    cases hx : p x with
    | true => simp
    | false => simp [idxN_any p l (i + 1)]
theorem idxN_at {α : Type} (p : α → Bool) (l : List α) (z : α) (i : Nat) (h : i < l.length) : idxN p (l.drop i) i = if p (l.getD i z) = true then (i : Int) else idxN p (l.drop (i + 1)) (i + 1) := by
  rw [List.drop_eq_getElem_cons h, idxN]
  simp [List.getD_eq_getElem?_getD, h]
theorem idxN_end {α : Type} (p : α → Bool) (l : List α) (i : Nat) (h : ¬ i < l.length) : idxN p (l.drop i) i = -1 := by
  rw [List.drop_eq_nil_of_le (by omega), idxN]
/-! A text out of letters. -/
theorem C_runes {P : Program} {w : World} {A : Option Addr} {n c : Nat} {xs : List Int} {src dst e : TypeId} (hs : P.underlying src = some (.slice e)) (he : P.underlying e = some (.int .i32)) (hd : P.underlying dst = some .string)
    (h : (Kd.int .i32).C w A n xs) : (convert src dst (.slice A n c)).run P w = .ok (.string (runesBytes xs)) w := by
  have hn : xs.length = n := h.1
  rcases A with _ | a
  · obtain rfl := C_none h
    exact run_convert_runes_nil w src dst e n c hs he hd
  · have := run_convert_runes w src dst e a n c xs (by omega) hs he hd (fun j hj => by
      obtain ⟨ad, e1, hc⟩ := h.2.2 (by omega)
      cases e1
      obtain ⟨cs, _, hK, hcc⟩ := hc j (xs.getD j 0) (by simp [List.getD_eq_getElem?_getD, hj])
      have hK : cs = [.int .i32 (xs.getD j 0)] := hK
      subst hK
      have := hcc 0 _ rfl
      have e2 : (Kd.int .i32).sz = 1 := rfl
      rw [e2, Nat.mul_one, Nat.add_zero] at this
      exact this)
    rw [this, List.take_of_length_le (by omega)]
theorem own_runes {P : Program} {w : World} {base : Nat} {ok : Nat → Prop} {e' src dst e : TypeId} {v : Value} {xs : List Int} (hs : P.underlying src = some (.slice e)) (he : P.underlying e = some (.int .i32)) (hd : P.underlying dst = some .string)
    (h : (Kd.int .i32).R e' w base ok v xs) : (convert src dst v).run P w = .ok (.string (runesBytes xs)) w := by
  obtain ⟨A, c, rfl, _, hC⟩ := R_reads h
  exact C_runes hs he hd hC
end Go.Proofs.YtnhmfeihnjdcpaaDoorW.PrintWords.Kd
