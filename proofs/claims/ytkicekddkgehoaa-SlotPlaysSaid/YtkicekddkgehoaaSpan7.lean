/- Contracts of the calls, by hand. -/
import Derived.Test.YtkicekddkgehoaaQSlotLastx1
import Derived.Test.YtkicekddkgehoaaSpan6
import Derived.RangeFuncNested
import Derived.RangeFuncBound
import Derived.RangeFuncCalls
import Derived.RangeFuncLeaves
import Derived.RangeFuncBox
import Derived.Shelf.Abstract
import Derived.Shelf.RegionOpen
import Derived.OwnWalkIn
import Derived.TacticsInMore
import Derived.LoopNIn
import Derived.LoopIn
import Derived.Sort.QuietIn
import Derived.Sort.CutIn
import Derived.Stop.RegionWithIn
namespace Go.Proofs.Ytkicekddkgehoaa.Hnd
open Go.RowKit Go.Proofs.Ytkicekddkgehoaa.QSlotLast Go.Proofs.YtkicekddkgehoaaW.PrintWords Go.Proofs.YtkicekddkgehoaaW.PrintLast Go.Proofs.YtkicekddkgehoaaW.Dk Go.Shelf
set_option linter.unusedVariables false
set_option linter.unusedSimpArgs false
attribute [local go_sem] Oper.semAt_some
/-! A span is written. -/
def cl (b : List Int) {n : Nat} (pre : List { j : Nat // j < n }) : List (List Int) := pre.map fun x => DS.pad (ch b x.1)
set_option maxHeartbeats 4000000 in
set_option maxRecDepth 100000 in
theorem put_room {w0 W : World} {xs : List Nat} {g : Nat} {d : DS} (h : St w0 xs W g d) (i room tag : Int) (A : Option Addr) (c : Nat) (b : List Int) (hb : b.length < 1099511627776) (hroom : room < (DS.need b.length : Int)) :
    Calls Try.prog 23 #[.pointer (some ⟨g, 0, none⟩), .int .i64 i, .int .i64 room, .int .u32 tag, .slice A b.length c] W fun e w' => e = .returned (.int .i64 4) ∧ Below W.heap.size W w' := by
  have hd : decide ((DS.need b.length : Int) > room) = true := decide_eq_true hroom
  have hd2 : decide (room < (DS.need b.length : Int)) = true := decide_eq_true hroom
  have HB := Aside0.mk hb
  have H0 : Aside0 (Below W.heap.size W ((W.alloc (.cells #[.pointer (some ⟨g, 0, none⟩)] 23)).alloc (.cells #[.int .i64 0] 25))) := ⟨below_alloc (below_alloc (Below.refl _ _) _) _⟩
  generalize hnd : (DS.need b.length : Int) = nd at *
  have ND := Aside0.mk hnd
  clear hroom hb h hnd
  go_enter Try.func23, Try.ntmps23
  go_wp2_with (go_at_call 21; refine (need_c b.length HB.out _).mono ?_; rw [ND.out]; rintro e w1 ⟨rfl, hB⟩; have B1 := Aside0.mk hB; have hx10 : w1.cell? ⟨W.heap.size + 1, 0, none⟩ = some (.int .i64 0) := (hB.cell (p := ⟨W.heap.size + 1, 0, none⟩) (by simp)).trans (by have := blk_cell (blk_new (W.alloc (.cells #[.pointer (some ⟨g, 0, none⟩)] 23)) (.cells #[.int .i64 0] 25)) 0; rw [World.size_alloc] at this; exact this.trans rfl); have hf10 : w1.frozen? ⟨W.heap.size + 1, 0, none⟩ = false := (hB.frozen (p := ⟨W.heap.size + 1, 0, none⟩) (by simp)).trans (by have := blk_frozen (blk_new (W.alloc (.cells #[.pointer (some ⟨g, 0, none⟩)] 23)) (.cells #[.int .i64 0] 25)) 0; rw [World.size_alloc] at this; exact this); clear hB)
  refine bodyPost_ret (v := .int .i64 4) (by simp [results, Try.results23, go_sem, hx10]) rfl ⟨rfl, ?_⟩
  exact below_set (H0.out.trans (B1.out.mono (by simp <;> omega))) (by show W.heap.size ≤ W.heap.size + 1; omega)
/-- What stands while a span's sectors are written: the boxes, the disk, what else lay there. -/
structure PInv (w0 : World) (xs : List Nat) (W W0 W' : World) (B11 g : Nat) (d : DS) (i : Int) (cs : List (List Int)) : Prop where
  b5 : Boxed W' W.heap.size 23 (.pointer (some ⟨g, 0, none⟩))
  b10 : Boxed W' (W.heap.size + 1) 25 (.int .i64 0)
  b11 : Boxed W' B11 3 (.int .i64 (i + (cs.length : Int)))
  st : St w0 ((B11 + 2) :: (B11 + 1) :: B11 :: (W.heap.size + 1) :: W.heap.size :: xs) W' g (DS.putC d (i + 1) cs).1
  ok : (DS.putC d (i + 1) cs).2 = 0
  sm : Sm xs W0 W'
  sz : W0.heap.size ≤ W'.heap.size
/-- A span's writing ended in its midst. -/
structure PEnd (w0 : World) (xs : List Nat) (W W0 W' : World) (g : Nat) (d : DS) (i : Int) (cs : List (List Int)) : Prop where
  b10 : Boxed W' (W.heap.size + 1) 25 (.int .i64 (DS.putC d (i + 1) cs).2)
  st : St w0 xs W' g (DS.putC d (i + 1) cs).1
  bad : (DS.putC d (i + 1) cs).2 ≠ 0
  sm : Sm xs W0 W'
  sz : W0.heap.size ≤ W'.heap.size
theorem grown_noncells {W W' : World} {row : Option Nat} {k : Nat} {cells : Array Value} {q : TypeId} {fr : Nat × Nat} (hg : W.grownBy W' row) (hr : ∀ r, row = some r → ∃ o : Obj, W.heap[r]? = some o ∧ o.isCells = false) (h : W.heap[k]? = some (.cells cells q fr)) : W'.heap[k]? = some (.cells cells q fr) :=
  (hg.block k (Array.getElem?_eq_some_iff.1 h).1 (fun e => by obtain ⟨o, ho, hc⟩ := hr k e.symm; rw [h] at ho; injection ho with ho; subst ho; cases hc)).trans h
theorem PInv.own {w0 : World} {xs : List Nat} {W W0 : World} {B11 g : Nat} {d : DS} {i : Int} {β : Type} (f : β → List (List Int)) (hw : w0.heap.size ≤ W0.heap.size) (hx : ∀ x, x ∈ xs → x < W0.heap.size) : OwnFrom W0.heap.size (fun s W' => PInv w0 xs W W0 W' B11 g d i (f s)) :=
  fun s X Y row h hg hr => ⟨grown_noncells hg (fun r e => (hr r e).2) h.b5, grown_noncells hg (fun r e => (hr r e).2) h.b10, grown_noncells hg (fun r e => (hr r e).2) h.b11, h.st.own hg (fun r e => ⟨by have := (hr r e).1; omega, (hr r e).2⟩), h.ok,
    fun x e => (hg.block x (Nat.lt_of_lt_of_le (hx x e) h.sz) (fun e2 => by have := (hr x e2.symm).1; have := hx x e; omega)).trans (h.sm x e), Nat.le_trans h.sz hg.size⟩
theorem PEnd.own {w0 : World} {xs : List Nat} {W W0 : World} {g : Nat} {d : DS} {i : Int} {β : Type} (f : β → List (List Int)) (hw : w0.heap.size ≤ W0.heap.size) (hx : ∀ x, x ∈ xs → x < W0.heap.size) : OwnFrom W0.heap.size (fun s W' => PEnd w0 xs W W0 W' g d i (f s)) :=
  fun s X Y row h hg hr => ⟨grown_noncells hg (fun r e => (hr r e).2) h.b10, h.st.own hg (fun r e => ⟨by have := (hr r e).1; omega, (hr r e).2⟩), h.bad,
    fun x e => (hg.block x (Nat.lt_of_lt_of_le (hx x e) h.sz) (fun e2 => by have := (hr x e2.symm).1; have := hx x e; omega)).trans (h.sm x e), Nat.le_trans h.sz hg.size⟩
theorem Rd.step' {w0 W W' : World} {xs : List Nat} {A : Option Addr} {b : List Int} (h : Rd w0 xs W A b) (h1 : Below w0.heap.size w0 W) (h2 : Below w0.heap.size w0 W') (hs : ∀ x, x ∈ xs → x < W'.heap.size) (hm : Sm xs W W') : Rd w0 xs W' A b :=
  ⟨C_blk h.1 (fun ad e hp => (h.2 ad e hp).1.elim (fun hl => (h2.block _ hl).trans (h1.block _ hl).symm) (fun hx => hm _ hx)), fun ad e hp => ⟨(h.2 ad e hp).1, (h.2 ad e hp).1.elim (fun hl => Nat.lt_of_lt_of_le hl h2.size) (hs _)⟩⟩
theorem St.mores {w0 W W' : World} {xs : List Nat} {g : Nat} {d : DS} (h : St w0 xs W g d) (hb : Below W.heap.size W W') (ys : List Nat) (hy : ∀ y, y ∈ ys → W.heap.size ≤ y ∧ y < W'.heap.size) : St w0 (ys ++ xs) W' g d :=
  ⟨(h.1.bound.mono (ok' := fun k => w0.heap.size ≤ k ∧ k ∉ ys ++ xs) (fun k hk => ⟨hk.1.1, fun e => (List.mem_append.1 e).elim (fun e => by have := (hy k e).1; have := hk.2.2.1; omega) hk.1.2⟩)).below hb, h.2.1.trans (hb.mono h.2.1.size),
    fun y e => (List.mem_append.1 e).elim (fun e => (hy y e).2) (fun e => Nat.lt_of_lt_of_le (h.2.2 y e) hb.size)⟩
theorem St.put {w0 W : World} {xs : List Nat} {g : Nat} {d : DS} (h : St w0 xs W g d) {B : Nat} (hB : B ∈ xs) (h0 : w0.heap.size ≤ B) (j : Nat) (v : Value) : St w0 xs (W.setCell ⟨B, j, none⟩ v) g d :=
  ⟨h.1.step (fun k hk _ => Below.heap_setCell _ _ _ _ (fun e => hk.2 (e ▸ hB))), below_set h.2.1 h0, fun y e => by have := h.2.2 y e; simpa using this⟩
theorem St.puts {w0 W : World} {xs : List Nat} {g : Nat} {d : DS} (h : St w0 xs W g d) {B : Nat} (hB : B ∈ xs) (h0 : w0.heap.size ≤ B) (o : Nat) (vs : List Value) : St w0 xs (W.setCells B o vs) g d :=
  ⟨h.1.step (fun k hk _ => setCells_far _ _ k (fun e => hk.2 (e ▸ hB))), Kd.below_setCells h.2.1 h0, fun y e => by have := h.2.2 y e; rwa [(setCells_same _ _ _ _).2.2.2]⟩
theorem St.other {w0 W : World} {xs : List Nat} {g : Nat} {d : DS} (h : St w0 xs W g d) {D : Nat} {o : Obj} (hD : W.heap[D]? = some o) (ho : o.isCells = false) : St w0 (D :: xs) W g d :=
  ⟨h.1.bound.mono (fun k hk => ⟨hk.1.1, fun e => (List.mem_cons.1 e).elim (fun e => by
    obtain ⟨_, _, cells, q, fr, hc⟩ := hk.2
    rw [e, hD] at hc
    injection hc with hc
    subst hc
    cases ho) hk.1.2⟩), h.2.1, fun y hy => (List.mem_cons.1 hy).elim (fun e => by rw [e]; exact (Array.getElem?_eq_some_iff.1 hD).1) (h.2.2 y)⟩
theorem keeps_setCells (B : Nat) : ∀ (vs : List Value) (o : Nat) (W : World), KeepsOthers W (W.setCells B o vs)
  | [], _, W => KeepsOthers.refl W
  | v :: vs, o, W => (KeepsOthers.setCell W ⟨B, o, none⟩ v).trans (keeps_setCells B vs (o + 1) _)
theorem wh_pad {l : List Int} (h : l.length ≤ 16) : wh l = DS.pad l := by unfold wh DS.pad; rw [List.take_of_length_le h]
theorem cl_range (b : List Int) {n : Nat} (pre : List { j : Nat // j < n }) : cl b pre = (pre.map (·.1)).map fun t => DS.pad (ch b t) := by rw [cl, List.map_map]; rfl
theorem cl_some (b : List Int) (pre : List { j : Nat // j < nch b.length }) (k : Nat) (hk : k ≤ nch b.length) (h : pre.map (·.1) = List.range k) : DS.chunks b = cl b pre ++ (DS.chunks b).drop k := by
  have e : cl b pre = (DS.chunks b).take k := by
    rw [cl_range, h, ch_chunks, ← List.map_take, List.take_range, Nat.min_eq_left (show k ≤ (b.length + 15) / 16 from hk)]
  rw [e, List.take_append_drop]
theorem cl_all (b : List Int) (ys : List { j : Nat // j < nch b.length }) (h : ys.map (·.1) = List.range (nch b.length)) : cl b ys = DS.chunks b := by
  rw [cl_range, h, ch_chunks]
  rfl
theorem put_stop {crc : List Int → Int} {d : DS} {i room tag : Int} {b : List Int} {cs ds : List (List Int)} (hr : ¬ room < (DS.need b.length : Int)) (he : DS.chunks b = cs ++ ds) (hb : (DS.putC d (i + 1) cs).2 ≠ 0) : DS.put crc d i room tag b = DS.putC d (i + 1) cs := by
  unfold DS.put
  rw [if_neg (by omega), he, DS.putC_fail cs ds d (i + 1) hb, if_neg hb]
def PutPost (w0 : World) (xs : List Nat) (W : World) (g : Nat) (r : DS × Int) (e : Ending) (w' : World) : Prop := e = .returned (.int .i64 r.2) ∧ St w0 xs w' g r.1 ∧ Sm xs W w' ∧ W.heap.size ≤ w'.heap.size
set_option maxHeartbeats 4000000 in
set_option maxRecDepth 100000 in
theorem put_fits {w0 W : World} {xs : List Nat} {g : Nat} {d : DS} (h : St w0 xs W g d) (i room tag : Int) (A : Option Addr) (c : Nat) (b : List Int) (hr : Rd w0 xs W A b) (hc : b.length ≤ c) (hb : b.length < 268435456) (hP : d.P.length < 1073741824) (hi0 : -1073741824 ≤ i) (hi1 : i ≤ 1073741824) (hroom : ¬ room < (DS.need b.length : Int)) :
    Calls Try.prog 23 #[.pointer (some ⟨g, 0, none⟩), .int .i64 i, .int .i64 room, .int .u32 tag, .slice A b.length c] W (PutPost w0 xs W g (DS.put crcO d i room tag b)) := by
  have hd : decide ((DS.need b.length : Int) > room) = false := decide_eq_false hroom
  have hd2 : decide (room < (DS.need b.length : Int)) = false := decide_eq_false hroom
  have HB := Aside0.mk hb
  have H := Aside0.mk h
  have HR := Aside0.mk hr
  have HC := Aside0.mk hc
  have HP := Aside0.mk hP
  have HI0 := Aside0.mk hi0
  have HI1 := Aside0.mk hi1
  have HRM := Aside0.mk hroom
  have H0 : Aside0 (Below W.heap.size W ((W.alloc (.cells #[.pointer (some ⟨g, 0, none⟩)] 23)).alloc (.cells #[.int .i64 0] 25))) := ⟨below_alloc (below_alloc (Below.refl _ _) _) _⟩
  generalize hnd : (DS.need b.length : Int) = nd at hd hd2
  have ND := Aside0.mk hnd
  clear hroom hb h hnd hr hc hP hi0 hi1
  refine (callsIn_wide (n := 6)).1 (callsIn_of_wp_marks Try.func23 rfl trivial ?_ rfl)
  simp only [Try.ntmps23, List.size_toArray, List.length_cons, List.length_nil, Nat.reduceAdd, Nat.reduceSub, Array.replicate_succ, Array.replicate_zero, List.push_toArray, List.append_toArray, List.nil_append, List.cons_append]
  refine wpIn_wide.2 ?_
  go_wp2_with (first
    | (go_at_call 32; refine (chunk_any _ _ _ _).mono ?_; rintro e w' ⟨rfl, rfl⟩)
    | (go_at_call 21; refine (need_c b.length (by have := HB.out; omega) _).mono ?_; rw [ND.out]; rintro e w1 ⟨rfl, hB⟩; have B1 := Aside0.mk hB; clear hB))
  have HXS : Aside0 (∀ x, x ∈ xs → x < W.heap.size) := ⟨H.out.2.2⟩
  have HW1 : Aside0 (Below W.heap.size W w1) := ⟨H0.out.trans (B1.out.mono (by simp <;> omega))⟩
  have hs1 : W.heap.size + 1 < w1.heap.size := by have := B1.out.size; simp at this; omega
  obtain ⟨W0, hW0⟩ : ∃ W0, W0 = ((w1.alloc (.cells #[.int .i64 i] 3)).alloc (.cells #[.slice A b.length c] 22)).alloc (.cells #[.int .i64 16] 3) := ⟨_, rfl⟩
  have hsz : W0.heap.size = w1.heap.size + 3 := by rw [hW0]; simp
  have hB1 : Below w1.heap.size w1 W0 := by rw [hW0]; exact below_alloc (below_alloc (below_alloc (Below.refl _ _) _) _) _
  have c5 : Boxed W0 W.heap.size 23 (.pointer (some ⟨g, 0, none⟩)) := blk_below (blk_below (blk_alloc (blk_new W _) _) B1.out) hB1
  have c10 : Boxed W0 (W.heap.size + 1) 25 (.int .i64 0) := blk_below (blk_below (by have := blk_new (W.alloc (.cells #[.pointer (some ⟨g, 0, none⟩)] 23)) (.cells #[.int .i64 0] 25); rwa [World.size_alloc] at this) B1.out) hB1
  have c11 : Boxed W0 w1.heap.size 3 (.int .i64 i) := by rw [hW0]; exact blk_alloc (blk_alloc (blk_new w1 _) _) _
  have cS : W0.cell? ⟨w1.heap.size + 1, 0, none⟩ = some (.slice A b.length c) := by
    rw [hW0]
    have := blk_new (w1.alloc (.cells #[.int .i64 i] 3)) (.cells #[.slice A b.length c] 22)
    rw [World.size_alloc] at this
    exact (blk_cell (blk_alloc this _) 0).trans rfl
  have cN : W0.cell? ⟨w1.heap.size + 2, 0, none⟩ = some (.int .i64 16) := by
    rw [hW0]
    have := blk_new ((w1.alloc (.cells #[.int .i64 i] 3)).alloc (.cells #[.slice A b.length c] 22)) (.cells #[.int .i64 16] 3)
    rw [World.size_alloc, World.size_alloc] at this
    exact (blk_cell this 0).trans rfl
  have hBW : Below W.heap.size W W0 := HW1.out.trans (hB1.mono (by omega))
  have hSt : St w0 ((w1.heap.size + 2) :: (w1.heap.size + 1) :: w1.heap.size :: (W.heap.size + 1) :: W.heap.size :: xs) W0 g d :=
    H.out.mores hBW [w1.heap.size + 2, w1.heap.size + 1, w1.heap.size, W.heap.size + 1, W.heap.size] (fun y hy => by
      simp only [List.mem_cons, List.not_mem_nil, or_false] at hy
      omega)
  have HRD : Aside0 (Rd w0 xs W0 A b) := ⟨HR.out.below hBW⟩
  rw [← hW0]
  clear hW0
  have hw0 : w0.heap.size ≤ W.heap.size := H.out.2.1.size
  obtain ⟨ad, hA⟩ : ∃ ad, 0 < b.length → A = some ad := by
    by_cases h0 : 0 < b.length
    · obtain ⟨ad, e, _⟩ := HR.out.1.2.2 h0
      exact ⟨ad, fun _ => e⟩
    · exact ⟨⟨0, 0, none⟩, fun h => absurd h h0⟩
  refine (wpIn_wide (n := 6)).1 ?_
  refine wpIn_rangeFunc_ownH rfl (by omega) (gf := 47) (lb := #[.pointer (some ⟨w1.heap.size + 1, 0, none⟩), .pointer (some ⟨w1.heap.size + 1 + 1, 0, none⟩)]) rfl trivial (enters_of Try.func47 (by kernel_rfl) rfl)
    (chunk_stops 5 (by omega) (w1.heap.size + 1) (w1.heap.size + 2) b.length c A HC.out (by have := HB.out; omega) ad hA W0 cS cN (by omega) (by omega)) KpC.trans (fun W l o o' h1 h2 h3 h4 => KpC.put (by omega) (by omega) W l o o' h1 h2 h3 h4) (Below.refl _ _) (fun _ => rfl)
    (fun pre W' => PInv w0 xs W W0 W' w1.heap.size g d i (cl b pre))
    (fun cx pre W' => cx = .ret ∧ PEnd w0 xs W W0 W' g d i (cl b pre))
    (PInv.own (cl b) (by omega) (fun x hx => by have := HXS.out x hx; omega))
    (fun cx => OwnFrom.and (fun _ _ _ _ hs _ _ => hs) (PEnd.own (cl b) (by omega) (fun x hx => by have := HXS.out x hx; omega)))
    ⟨c5, c10, by simpa [cl] using c11, hSt, rfl, fun _ _ => rfl, Nat.le_refl _⟩
    (fun x a' W' => a' = { tmps := #[.pointer (some ⟨g, 0, none⟩), .int .i64 i, .int .i64 room, .int .u32 tag, .slice A b.length c, .pointer (some ⟨W.heap.size, 0, none⟩), undef, undef, undef, undef, .pointer (some ⟨W.heap.size + 1, 0, none⟩), .pointer (some ⟨w1.heap.size, 0, none⟩), chV ad b.length x.1, undef, undef, undef, .slice A b.length c, .int .i64 (b.length : Int), .int .i64 nd, .int .i64 room, .bool false, .int .i64 i, .slice A b.length c, .func (.func 47) #[] #[.pointer (some ⟨w1.heap.size + 1, 0, none⟩), .pointer (some ⟨w1.heap.size + 1 + 1, 0, none⟩)], chV ad b.length x.1, undef, undef, undef, undef, undef, undef, undef, undef, undef, undef, undef, undef, undef, undef, undef, undef, undef, undef, undef, undef, undef, undef, undef, undef], defers := [] })
    (fun x a' _ X Y row hs hg hr => hs)
    ?assign ?body ?done ?stop
  case assign =>
    rintro l pre x W' K hI hK
    unfold chV
    gi_wp2
    exact hK _ _ (KeepsFrom.refl _ _) ⟨rfl, rfl⟩ hI rfl
  case body =>
    rintro l pre x a' W' hl ⟨r, hr⟩ hI rfl hlt
    have hlb : 16 * x.1 < b.length := by have := x.2; unfold nch at this; omega
    obtain rfl := hA (by omega)
    obtain ⟨p, hp⟩ : ∃ p, (cl b pre).length = p := ⟨_, rfl⟩
    have hpn : p < 268435456 := by
      have e1 : (cl b pre).length = pre.length := by simp [cl]
      have := HB.out
      have e2 : nch b.length = (b.length + 15) / 16 := rfl
      omega
    obtain ⟨dd, hdd⟩ : ∃ dd, (DS.putC d (i + 1) (cl b pre)).1 = dd := ⟨_, rfl⟩
    have hPl : dd.P.length < 1099511627776 := by
      have := DS.putC_Plen (cl b pre) d (i + 1)
      have := HP.out
      rw [hdd] at *
      omega
    obtain ⟨m, hm⟩ : ∃ m, (ch b x.1).length = m := ⟨_, rfl⟩
    obtain ⟨adx, hadx⟩ : ∃ a, ad.add (16 * x.1) = a := ⟨_, rfl⟩
    have hchv : chV ad b.length x.1 = .slice (some adx) m m := by unfold chV; rw [← ch_len, hm, hadx]
    have hm16 : m ≤ 16 := by rw [← hm, ch_len]; omega
    have hst := hI.st
    rw [hdd] at hst
    have hRW : Rd w0 xs W' (some ad) b := HRD.out.step hSt.2.1 hst.2.1 hI.sz hI.sm
    have hCx := ch_C hRW.1 x.1 hlb
    rw [hadx] at hCx
    have hb11 := hI.b11
    rw [hp] at hb11
    have cI := hb11.cell
    have fI := hb11.frozen
    have hmk := make16
    have hbd0 : (0 : Int) ≤ (p : Int) := by omega
    have hbd1 := HI0.out
    have hbd2 := HI1.out
    have hbd3 : -9223372036854775808 ≤ i + (p : Int) + 1 := by omega
    have hbd4 : i + (p : Int) + 1 ≤ 9223372036854775807 := by omega
    rw [hchv]
    have HCX := Aside0.mk hCx
    have HPL := Aside0.mk hPl
    have HDD := Aside0.mk hdd
    have HPP := Aside0.mk hp
    have HMM := Aside0.mk hm
    have HII := Aside0.mk hI
    have HST := Aside0.mk hst
    have HLW := Aside0.mk hl
    have HS1 := Aside0.mk hs1
    have HSZ := Aside0.mk hsz
    have HW0 := Aside0.mk hw0
    have HM16 := Aside0.mk hm16
    have hB11 : w1.heap.size ∈ (w1.heap.size + 2) :: (w1.heap.size + 1) :: w1.heap.size :: (W.heap.size + 1) :: W.heap.size :: xs := by simp
    have hszW : W0.heap.size ≤ W'.heap.size := hI.sz
    have t1 := hst.put hB11 (by omega) 0 (.int .i64 (i + (p : Int) + 1))
    have hsz1 : (W'.setCell ⟨w1.heap.size, 0, none⟩ (.int .i64 (i + (p : Int) + 1))).heap.size = W'.heap.size := by simp
    have t2 := t1.more (below_alloc (Below.refl _ _) (.cells z16 5)) W'.heap.size (by omega) (by simp)
    have hnew : ((W'.setCell ⟨w1.heap.size, 0, none⟩ (.int .i64 (i + (p : Int) + 1))).alloc (.cells z16 5)).heap[W'.heap.size]? = some (.cells z16 5 (0, 0)) := by
      have := blk_new (W'.setCell ⟨w1.heap.size, 0, none⟩ (.int .i64 (i + (p : Int) + 1))) (.cells z16 5)
      rwa [hsz1] at this
    have hold : ∀ k, k < W'.heap.size → k ≠ w1.heap.size → ((W'.setCell ⟨w1.heap.size, 0, none⟩ (.int .i64 (i + (p : Int) + 1))).alloc (.cells z16 5)).heap[k]? = W'.heap[k]? := fun k h1 h2 => (Below.heap_alloc _ _ k (by rw [hsz1]; exact h1)).trans (Below.heap_setCell _ _ _ _ h2)
    obtain ⟨h1, h2⟩ := wh_copied ((W'.setCell ⟨w1.heap.size, 0, none⟩ (.int .i64 (i + (p : Int) + 1))).alloc (.cells z16 5)) W'.heap.size hnew (some adx) m (ch b x.1) 3 (C_blk hCx (fun a e hp0 => by
      injection e with e
      subst e
      rw [← hadx, add_block]
      obtain ⟨q1, q2⟩ := hRW.2 ad rfl (by omega)
      exact hold _ q2 (fun e3 => q1.elim (fun q => by omega) (fun q => by have := HXS.out _ q; omega))))
    rw [hm] at h1
    rw [wh_pad (by rw [hm]; exact hm16)] at h2
    have t3 := t2.puts (B := W'.heap.size) (by simp) (by omega) 0 (((ch b x.1).map (Value.int .u8)).take 16)
    have hk3 := ((KeepsOthers.setCell W' ⟨w1.heap.size, 0, none⟩ (.int .i64 (i + (p : Int) + 1))).trans (KeepsOthers.alloc _ (.cells z16 5))).trans (keeps_setCells W'.heap.size (((ch b x.1).map (Value.int .u8)).take 16) 0 _)
    have hold2 : ∀ k, k < W'.heap.size → k ≠ w1.heap.size → (((W'.setCell ⟨w1.heap.size, 0, none⟩ (.int .i64 (i + (p : Int) + 1))).alloc (.cells z16 5)).setCells W'.heap.size 0 (((ch b x.1).map (Value.int .u8)).take 16)).heap[k]? = W'.heap[k]? := fun k q1 q2 => (setCells_far _ _ k (by omega)).trans (hold k q1 q2)
    have hb11' : Boxed (((W'.setCell ⟨w1.heap.size, 0, none⟩ (.int .i64 (i + (p : Int) + 1))).alloc (.cells z16 5)).setCells W'.heap.size 0 (((ch b x.1).map (Value.int .u8)).take 16)) w1.heap.size 3 (.int .i64 (i + (p : Int) + 1)) :=
      (setCells_far _ _ _ (by omega)).trans ((Below.heap_alloc _ _ _ (by rw [hsz1]; omega)).trans (Boxed.set _ hb11))
    obtain ⟨W2, hW2⟩ : ∃ W2, W2 = (((W'.setCell ⟨w1.heap.size, 0, none⟩ (.int .i64 (i + (p : Int) + 1))).alloc (.cells z16 5)).setCells W'.heap.size 0 (((ch b x.1).map (Value.int .u8)).take 16)) := ⟨_, rfl⟩
    rw [← hW2] at h1 h2 t3 hk3 hold2 hb11'
    have c5' : Boxed W2 W.heap.size 23 (.pointer (some ⟨g, 0, none⟩)) := (hold2 _ (by omega) (by omega)).trans hI.b5
    have c10' : Boxed W2 (W.heap.size + 1) 25 (.int .i64 0) := (hold2 _ (by omega) (by omega)).trans hI.b10
    have hkp : KpC (w1.heap.size + 1) (w1.heap.size + 2) W' W2 := ⟨cell_of_heap (hold2 _ (by show w1.heap.size + 1 < _; omega) (by show w1.heap.size + 1 ≠ _; omega)), cell_of_heap (hold2 _ (by show w1.heap.size + 2 < _; omega) (by show w1.heap.size + 2 ≠ _; omega))⟩
    have hsm2 : Sm xs W0 W2 := fun y hy => (hold2 y (by have := HXS.out y hy; omega) (by have := HXS.out y hy; omega)).trans (hI.sm y hy)
    have l5 := c5'.cell
    have l11 := hb11'.cell
    have HC5 := Aside0.mk c5'
    have HC10 := Aside0.mk c10'
    have HC11 := Aside0.mk hb11'
    have HKP := Aside0.mk hkp
    have HSM2 := Aside0.mk hsm2
    have HT3 := Aside0.mk t3
    have HK3 := Aside0.mk hk3
    have HSEC := Aside0.mk h2
    have HPD : Aside0 ((DS.pad (ch b x.1)).length = 16) := ⟨DS.pad_len (by rw [hm]; exact hm16)⟩
    have HSZW := Aside0.mk hszW
    clear hCx hPl hdd hp hm hI hst hRW hb11 hadx hchv hlb hlt hr hl cS cN c5 c10 c11 hB1 hBW hSt hs1 hsz hw0 hm16 hA hpn hB11 hszW t1 hsz1 t2 hnew hold h2 t3 hk3 hold2 hb11' c5' c10' hkp hsm2 hW2
    gi_upto_region 9 with (fail)
    clear h1 cI fI hmk
    obtain ⟨pd, hpd⟩ : ∃ pd, DS.pad (ch b x.1) = pd := ⟨_, rfl⟩
    have eP : DS.putC d (i + 1) (cl b (pre ++ [x])) = dd.wr (i + (p : Int) + 1) pd := by
      have eC : cl b (pre ++ [x]) = cl b pre ++ [pd] := by simp [cl, hpd]
      rw [eC, DS.putC_snoc _ _ _ _ HII.out.ok, HDD.out, HPP.out, show i + 1 + (p : Int) = i + (p : Int) + 1 by omega]
    have eL : (cl b (pre ++ [x])).length = p + 1 := by rw [← HPP.out]; simp [cl]
    have HEP := Aside0.mk eP
    have HEL := Aside0.mk eL
    have hwr := st_writeK HT3.out (i + (p : Int) + 1) W'.heap.size pd (by simp) (hpd ▸ HSEC.out) (hpd ▸ HPD.out) HPL.out
    have HWR := Aside0.mk hwr
    clear eP eL hpd hwr
    by_cases h0 : (dd.wr (i + (p : Int) + 1) pd).2 = 0
    · have H00 := Aside0.mk h0
      clear h0
      gi_wp2_with (refine ⟨trivial, ?_⟩; gi_at_call 33; refine (CallsIn.inRound l (callsIn_wide.2 HWR.out)).mono ?_; rw [H00.out]; rintro e w3 ⟨rfl, hS, hM, hKO⟩; have S3 := Aside0.mk hS; have M3 := Aside0.mk hM; have K3 := Aside0.mk hKO; clear hS hM hKO)
      have hK := HK3.out.trans K3.out
      exact ⟨hK.from _, HKP.out.trans ⟨cell_of_heap (M3.out _ (by simp)), cell_of_heap (M3.out _ (by simp))⟩, ⟨(M3.out _ (by simp)).trans HC5.out, (M3.out _ (by simp)).trans HC10.out, by rw [HEL.out]; exact (M3.out _ (by simp)).trans (by rw [show i + ((p + 1 : Nat) : Int) = i + (p : Int) + 1 by omega]; exact HC11.out), by rw [HEP.out]; exact S3.out.less (fun y hy => List.mem_cons_of_mem _ hy), by rw [HEP.out]; exact H00.out, fun y hy => (M3.out y (by simp [hy])).trans (HSM2.out y hy), Nat.le_trans HSZW.out hK.size⟩⟩
    · have H00 := Aside0.mk h0
      have hb : ((dd.wr (i + (p : Int) + 1) pd).2 != 0) = true := by simpa using h0
      have hb2 : ((dd.wr (i + (p : Int) + 1) pd).2 == 0) = false := by simpa using h0
      generalize hE : (dd.wr (i + (p : Int) + 1) pd).2 = E at *
      have HE := Aside0.mk hE
      clear h0 hE
      gi_wp2_with (refine ⟨trivial, ?_⟩; gi_at_call 33; refine (CallsIn.inRound l (callsIn_wide.2 HWR.out)).mono ?_; rintro e w3 ⟨rfl, hS, hM, hKO⟩; have S3 := Aside0.mk hS; have M3 := Aside0.mk hM; have K3 := Aside0.mk hKO; have hc10 := (show Boxed w3 (W.heap.size + 1) 25 (.int .i64 0) from (hM _ (by simp)).trans HC10.out); have l10 := hc10.cell; have f10 := hc10.frozen; have HC10w := Aside0.mk hc10; clear hS hM hKO hc10)
      have hK := (HK3.out.trans K3.out).trans (KeepsOthers.setCell w3 ⟨W.heap.size + 1, 0, none⟩ (.int .i64 E))
      exact ⟨hK.from _, rfl, ⟨by rw [HEP.out, HE.out]; exact Boxed.set _ HC10w.out, by rw [HEP.out]; exact (S3.out.put (B := W.heap.size + 1) (by simp) (by have := HW0.out; omega) 0 _).less (fun y hy => by simp [hy]), by rw [HEP.out, HE.out]; exact H00.out, fun y hy => (Below.heap_setCell _ _ _ _ (by have := HXS.out y hy; show y ≠ W.heap.size + 1; omega)).trans ((M3.out y (by simp [hy])).trans (HSM2.out y hy)), Nat.le_trans HSZW.out hK.size⟩⟩
  case done =>
    rintro D ys W' hD hys hI hK
    rw [cl_all b ys hys] at hI
    obtain ⟨dd, hdd⟩ : ∃ dd, (DS.putC d (i + 1) (DS.chunks b)).1 = dd := ⟨_, rfl⟩
    have hst := hI.st
    rw [hdd] at hst
    have hput : DS.put crcO d i room tag b = if dd.fl.2 = 0 then DS.puth dd.fl.1 i (DS.head crcO tag b) else dd.fl := by
      unfold DS.put
      rw [if_neg (by have := HRM.out; omega), if_pos hI.ok, hdd]
    have hPl : dd.P.length < 1099511627776 := by
      have := DS.putC_Plen (DS.chunks b) d (i + 1)
      have := HP.out
      have := HB.out
      rw [hdd, DS.chunks_len] at *
      omega
    have hRW : Rd w0 ((w1.heap.size + 2) :: (w1.heap.size + 1) :: w1.heap.size :: (W.heap.size + 1) :: W.heap.size :: xs) W' A b := (HRD.out.step hSt.2.1 hst.2.1 hI.sz hI.sm).mono (fun x hx => by simp [hx])
    have l5 := hI.b5.cell
    have HL5 := Aside0.mk hI.b5
    have HL10 := Aside0.mk hI.b10
    have HST := Aside0.mk hst
    have HRW := Aside0.mk hRW
    have HPUT := Aside0.mk hput
    have HPL := Aside0.mk hPl
    have HSM := Aside0.mk hI.sm
    have HSZI := Aside0.mk hI.sz
    have HDK := Aside0.mk hK
    have HDD := Aside0.mk hD
    have HS1 := Aside0.mk hs1
    have HSZ := Aside0.mk hsz
    have HW0 := Aside0.mk hw0
    have HBW := Aside0.mk hBW
    clear hI hst hRW hput hPl hK hys hdd cS cN c5 c10 c11 hB1 hBW hSt hs1 hsz hw0 hA hD
    have HST2 := Aside0.mk (HST.out.other HDK.out rfl)
    by_cases h0 : dd.fl.2 = 0
    · have H00 := Aside0.mk h0
      have HPU : Aside0 (DS.put crcO d i room tag b = DS.puth dd.fl.1 i (DS.head crcO tag b)) := ⟨by rw [HPUT.out, if_pos h0]⟩
      have HFP : Aside0 (dd.fl.1.P.length < 1099511627776) := ⟨by rw [DS.fl_P dd h0]; simp⟩
      clear h0
      go_upto_region 15 with (go_at_call 34; refine (st_flush HST2.out).mono ?_; rw [H00.out]; rintro e w3 ⟨rfl, hS, hM⟩; have S3 := Aside0.mk hS; have M3 := Aside0.mk hM; (have hb5 := (show Boxed w3 W.heap.size 23 (.pointer (some ⟨g, 0, none⟩)) from (hM _ (by simp)).trans HL5.out)); have l5b := hb5.cell; have HB5 := Aside0.mk hb5; clear hS hM hb5)
      have HRW3 := Aside0.mk (HRW.out.step' HST.out.2.1 S3.out.2.1 (fun y hy => S3.out.2.2 y (List.mem_cons_of_mem _ hy)) (fun y hy => M3.out y (List.mem_cons_of_mem _ hy)))
      clear l5
      refine wp_region_noPanic ?_
      go_region_held (fun w' => w'.cell? ⟨W.heap.size, 0, none⟩ = some (.pointer (some ⟨g, 0, none⟩))) (first | exact l5b | exact L5c.out | exact L5d.out | exact (cell_of_heap (p := ⟨W.heap.size, 0, none⟩) (Below.heap_setCell _ _ _ _ (by show W.heap.size ≠ W.heap.size + 1; omega))).trans L5d.out) (first
        | (go_at_call 31; refine (st_put S5.out i q cq (DS.head crcO tag b) (by simp) RA5.out (by rw [DS.head_len]; exact LCQ.out) HFP.out).mono ?_; rintro e w6 ⟨rfl, hS, hM⟩; have S6 := Aside0.mk hS; have M6 := Aside0.mk hM; (have hc10 := (show Boxed w6 (W.heap.size + 1) 25 (.int .i64 0) from (hM _ (by simp)).trans (B5.out.trans ((M3.out _ (by simp)).trans HL10.out)))); have l10 := hc10.cell; have f10 := hc10.frozen; have HC10w := Aside0.mk hc10; (have L5d := Aside0.mk (cell_of_heap (p := ⟨W.heap.size, 0, none⟩) (hM W.heap.size (by simp)) |>.trans L5c.out)); clear hS hM hc10)
        | (go_at_call 35; refine (head_any tag A c b (by have := HB.out; omega) w3.drew (Kd.C_below HRW3.out.1 (below_drew1 (Below.refl _ _))) HC.out).mono ?_; rintro e w5 ⟨v0, rfl, hR, hB⟩; (obtain ⟨q, cq, z, hv0, hlc, hq1, hq2, hq3, hC⟩ := R_block hR (by rw [DS.head_len]; omega)); subst hv0; (have RA5 : Aside0 (RowAt w5 q (DS.head crcO tag b)) := ⟨⟨z, hq3, hC⟩⟩); rw [DS.head_len] at hlc; have LCQ := Aside0.mk hlc; (have hB5 := (below_drew1 (Below.refl w3.heap.size w3)).trans (hB.mono (by simp))); have S5 := Aside0.mk (S3.out.more hB5 q hq1 hq2); (have L5c := Aside0.mk ((hB5.cell (p := ⟨W.heap.size, 0, none⟩) (S3.out.2.2 W.heap.size (by simp))).trans l5b)); (have B5 := Aside0.mk (hB5.block (W.heap.size + 1) (S3.out.2.2 _ (by simp)))); (have B5A := Aside0.mk hB5); clear hR hB hC hq1 hq2 hq3 hlc hB5))
      refine NoPanic.normal ?_
      obtain ⟨E, hE⟩ : ∃ E, (dd.fl.1.puth i (DS.head crcO tag b)).2 = E := ⟨_, rfl⟩
      have HE := Aside0.mk hE
      simp only [hE]
      clear hE
      go_wp2
      have hK2 : (w6.setCell ⟨W.heap.size + 1, 0, none⟩ (.int .i64 E)).heap[D]? = some (.deferred (some [])) := (Below.heap_setCell _ _ _ _ (by have := HSZ.out; have := HS1.out; have := HDD.out; show D ≠ W.heap.size + 1; omega)).trans ((M6.out D (by simp)).trans ((B5A.out.block D (S3.out.2.2 D (by simp))).trans ((M3.out D (by simp)).trans HDK.out)))
      have hgP := grownBy_putObj' (w6.setCell ⟨W.heap.size + 1, 0, none⟩ (.int .i64 E)) D (.deferred none)
      have hrP : ∀ r, some D = some r → ∃ o : Obj, (w6.setCell ⟨W.heap.size + 1, 0, none⟩ (.int .i64 E)).heap[r]? = some o ∧ o.isCells = false := fun r e => by cases e; exact ⟨_, hK2, rfl⟩
      refine ⟨by simp, .inl ⟨_, _, rfl, run_takeDeferred hK2, ?_⟩⟩
      have hbx : Boxed (w6.setCell ⟨W.heap.size + 1, 0, none⟩ (.int .i64 E)) (W.heap.size + 1) 25 (.int .i64 E) := Boxed.set _ HC10w.out
      have hc5 := cell_kept hbx.cell hgP hrP
      refine ⟨.int .i64 E, ?_, ?_, ?_, ?_, ?_⟩
      · simp [results, Try.f23, go_sem] at hc5 ⊢
        rw [hc5]
      · rw [HPU.out, HE.out]
      · rw [HPU.out]
        exact ((S6.out.put (B := W.heap.size + 1) (by simp) (by have := HW0.out; omega) 0 _).less (fun y hy => by simp [hy])).own hgP (fun r e => ⟨by cases e; have := HW0.out; have := HDD.out; have := HSZ.out; have := HS1.out; omega, hrP r e⟩)
      · exact fun x hx => (World.putObj_heap_other (by have := HXS.out x hx; have := HDD.out; have := HSZ.out; have := HS1.out; omega)).trans ((Below.heap_setCell _ _ _ _ (by have := HXS.out x hx; show x ≠ W.heap.size + 1; omega)).trans ((M6.out x (by simp [hx])).trans ((B5A.out.block x (S3.out.2.2 x (by simp [hx]))).trans ((M3.out x (by simp [hx])).trans ((HSM.out x hx).trans (HBW.out.block x (HXS.out x hx)))))))
      · have := S6.out.2.2 W.heap.size (by simp)
        simp
        omega
    · have H00 := Aside0.mk h0
      have HPU : Aside0 (DS.put crcO d i room tag b = dd.fl) := ⟨by rw [HPUT.out, if_neg h0]⟩
      have hb : (dd.fl.2 != 0) = true := by simpa using h0
      have hb2 : (dd.fl.2 == 0) = false := by simpa using h0
      generalize hE : dd.fl.2 = E at *
      have HE := Aside0.mk hE
      clear h0 hE
      go_wp2_with (go_at_call 34; refine (st_flush HST2.out).mono ?_; rw [HE.out]; rintro e w3 ⟨rfl, hS, hM⟩; have S3 := Aside0.mk hS; have M3 := Aside0.mk hM; (have hc10 := (show Boxed w3 (W.heap.size + 1) 25 (.int .i64 0) from (hM _ (by simp)).trans HL10.out)); have l10 := hc10.cell; have f10 := hc10.frozen; have HC10w := Aside0.mk hc10; clear hS hM hc10)
      have hK2 : (w3.setCell ⟨W.heap.size + 1, 0, none⟩ (.int .i64 E)).heap[D]? = some (.deferred (some [])) := (Below.heap_setCell _ _ _ _ (by have := HSZ.out; have := HS1.out; have := HDD.out; show D ≠ W.heap.size + 1; omega)).trans ((M3.out D (by simp)).trans HDK.out)
      have hgP := grownBy_putObj' (w3.setCell ⟨W.heap.size + 1, 0, none⟩ (.int .i64 E)) D (.deferred none)
      have hrP : ∀ r, some D = some r → ∃ o : Obj, (w3.setCell ⟨W.heap.size + 1, 0, none⟩ (.int .i64 E)).heap[r]? = some o ∧ o.isCells = false := fun r e => by cases e; exact ⟨_, hK2, rfl⟩
      refine ⟨by simp, .inl ⟨_, _, rfl, run_takeDeferred hK2, ?_⟩⟩
      have hbx : Boxed (w3.setCell ⟨W.heap.size + 1, 0, none⟩ (.int .i64 E)) (W.heap.size + 1) 25 (.int .i64 E) := Boxed.set _ HC10w.out
      have hc5 := cell_kept hbx.cell hgP hrP
      refine ⟨.int .i64 E, ?_, ?_, ?_, ?_, ?_⟩
      · simp [results, Try.f23, go_sem] at hc5 ⊢
        rw [hc5]
      · rw [HPU.out, HE.out]
      · rw [HPU.out]
        exact ((S3.out.put (B := W.heap.size + 1) (by simp) (by have := HW0.out; omega) 0 _).less (fun y hy => by simp [hy])).own hgP (fun r e => ⟨by cases e; have := HW0.out; have := HDD.out; have := HSZ.out; have := HS1.out; omega, hrP r e⟩)
      · exact fun x hx => (World.putObj_heap_other (by have := HXS.out x hx; have := HDD.out; have := HSZ.out; have := HS1.out; omega)).trans ((Below.heap_setCell _ _ _ _ (by have := HXS.out x hx; show x ≠ W.heap.size + 1; omega)).trans ((M3.out x (by simp [hx])).trans ((HSM.out x hx).trans (HBW.out.block x (HXS.out x hx)))))
      · have := S3.out.2.2 W.heap.size (by simp)
        simp
        omega
  case stop =>
    rintro D cx pre W' hD ⟨k, hk, hpre⟩ ⟨rfl, hE⟩ hK
    have hput := put_stop (crc := crcO) (room := room) (tag := tag) (by have := HRM.out; omega) (cl_some b pre k hk hpre) hE.bad
    have hc10 := hE.b10
    have HPUT := Aside0.mk hput
    have HEE := Aside0.mk hE
    clear hput hE hpre cS cN c5 c10 c11
    refine wpIn_wide.2 ?_
    go_wp2
    have hgP := grownBy_putObj' W' D (.deferred none)
    have hrP : ∀ r, some D = some r → ∃ o : Obj, W'.heap[r]? = some o ∧ o.isCells = false := fun r e => by cases e; exact ⟨_, hK, rfl⟩
    refine ⟨by simp, .inl ⟨_, _, rfl, run_takeDeferred hK, ?_⟩⟩
    have hc5 := cell_kept hc10.cell hgP hrP
    refine ⟨.int .i64 (DS.putC d (i + 1) (cl b pre)).2, ?_, ?_, ?_, ?_, ?_⟩
    · simp [results, Try.f23, go_sem] at hc5 ⊢
      rw [hc5]
    · rw [HPUT.out]
    · rw [HPUT.out]
      exact HEE.out.st.own hgP (fun r e => ⟨by cases e; omega, hrP r e⟩)
    · exact fun x hx => (World.putObj_heap_other (by have := HXS.out x hx; omega)).trans ((HEE.out.sm x hx).trans (hBW.block x (HXS.out x hx)))
    · have := HEE.out.sz
      have := hBW.size
      simp
      omega
/-- A span is put, or refused. -/
theorem st_putS {w0 W : World} {xs : List Nat} {g : Nat} {d : DS} (h : St w0 xs W g d) (i room tag : Int) (A : Option Addr) (c : Nat) (b : List Int) (hr : Rd w0 xs W A b) (hc : b.length ≤ c) (hb : b.length < 268435456) (hP : d.P.length < 1073741824) (hi0 : -1073741824 ≤ i) (hi1 : i ≤ 1073741824) :
    Calls Try.prog 23 #[.pointer (some ⟨g, 0, none⟩), .int .i64 i, .int .i64 room, .int .u32 tag, .slice A b.length c] W (PutPost w0 xs W g (DS.put crcO d i room tag b)) := by
  by_cases hroom : room < (DS.need b.length : Int)
  · rw [DS.put_full crcO d i room tag b hroom]
    exact (put_room h i room tag A c b (by omega) hroom).mono fun e w' ⟨h1, h2⟩ => ⟨h1, h.after h2, fun x hx => h2.block x (h.2.2 x hx), h2.size⟩
  · exact put_fits h i room tag A c b hr hc hb hP hi0 hi1 hroom
end Go.Proofs.Ytkicekddkgehoaa.Hnd
