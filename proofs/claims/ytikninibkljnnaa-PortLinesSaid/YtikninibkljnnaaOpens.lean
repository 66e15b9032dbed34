/- What comes in, of whatever depth, reads as a row of the print's kinds: lemmas for the rows of this seat's laws. -/
import Derived.Test.YtikninibkljnnaaWMore
import Derived.Deep.Slices
namespace Go.Proofs.Ytikninibkljnnaa.Opening
open Go Go.Proofs.YtikninibkljnnaaW.PrintWords Go.Proofs.YtikninibkljnnaaW.PrintLast
/-! What comes in, of whatever depth, reads as a row of the print's kinds; the sizes that the reading bounds. -/
open Go.RowKit Go.Deep
/-- What all weights of a datum are at most. -/
def Light {H : Type} (P : Program) (t : TypeId) (d : DataW H) : Prop := ∀ n ∈ d.weights P t, n ≤ reachBytes
/-- Whatever reads as data of type t, and is no more than a machine holds, holds a value of kind d that meets ok. -/
def Opens {α : Type} (P : Program) (t : TypeId) (d : Kd α) (ok : α → Prop) : Prop :=
  ∀ (H : Type) (enc : TypeId × Value → H) (w : World) (base : Nat) (spare : Nat → Bool) (held : Bool) (fuel : Nat) (cs : List Value) (x : DataW H × List MemPlace),
    DataW.trod enc P w base spare held fuel t cs = some x → Light P t x.1 → ∃ a, d.K w a cs ∧ ok a
theorem opens_int {P : Program} {t : TypeId} {k : IntKind} (ht : P.underlying t = some (.int k)) : Opens P t (Kd.int k) (fun n => (Lit.int k n).wf = true) :=
  fun _ _ _ _ _ _ _ _ _ hx _ => let ⟨n, h1, _, h2⟩ := DataW.trod_int ht hx; ⟨n, h1, h2⟩
theorem opens_bool {P : Program} {t : TypeId} (ht : P.underlying t = some .bool) : Opens P t Kd.bool (fun _ => True) :=
  fun _ _ _ _ _ _ _ _ _ hx _ => let ⟨n, h1, _⟩ := DataW.trod_bool ht hx; ⟨n, h1, trivial⟩
theorem opens_string {P : Program} {t : TypeId} (ht : P.underlying t = some .string) : Opens P t Kd.string (fun s => s.size ≤ 140737488351232) := by
  intro H enc w base spare held fuel cs x hx hz
  obtain ⟨n, h1, hx2, _⟩ := DataW.trod_string ht hx
  refine ⟨n, h1, ?_⟩
  have := hz n.data.toList.length (by rw [hx2]; simp [DataW.weights])
  rw [Array.length_toList] at this
  exact this
theorem light_all {H : Type} {P : Program} {e : TypeId} : ∀ {l : List (DataW H)}, (∀ n ∈ DataW.weightsAll P e l, n ≤ reachBytes) → ∀ d ∈ l, Light P e d
  | x :: l, h, d, hd => by
    rcases List.mem_cons.1 hd with rfl | hd
    · exact fun n hn => h n (by simp [DataW.weightsAll, hn])
    · exact light_all (fun n hn => h n (by simp [DataW.weightsAll, hn])) d hd
theorem light_each {H : Type} {P : Program} : ∀ {ts : List TypeId} {l : List (DataW H)}, (∀ n ∈ DataW.weightsEach P ts l, n ≤ reachBytes) → ∀ (i : Nat) t d, ts[i]? = some t → l[i]? = some d → Light P t d
  | t0 :: ts, x :: l, h, 0, t, d, ht, hd => by
    simp at ht hd
    subst ht hd
    exact fun n hn => h n (by simp [DataW.weightsEach, hn])
  | t0 :: ts, x :: l, h, i + 1, t, d, ht, hd => light_each (ts := ts) (l := l) (fun n hn => h n (by simp [DataW.weightsEach, hn])) i t d (by simpa using ht) (by simpa using hd)
theorem opens_slice {α : Type} {P : Program} {t e B : Nat} {d : Kd α} {ok : α → Prop} (ht : P.underlying t = some (.slice e)) (hc : P.cellsOf e = d.sz) (hB : P.bytesOf e = B) (h : Opens P e d ok) :
    Opens P t (Kd.slice e d) (fun l => l.length * B ≤ 140737488351232 ∧ ∀ a ∈ l, ok a) := by
  intro H enc w base spare held fuel cs x hx hz
  rcases open_slice ht hx with ⟨rfl, _⟩ | ⟨a, len, cap, m, n, D, Pl, rfl, _, hl, hm, hmm, hxe, hel⟩
  · exact ⟨[], ⟨none, 0, rfl, Nat.le_refl _, rfl, by simp, fun hn => absurd hn (by simp)⟩, by simp, by simp⟩
  have hlm : len ≤ m := by rw [hmm]; split <;> omega
  have hw : ∀ n ∈ (DataW.slice ((List.range len).map D) ((List.range (m - len)).map fun j => D (len + j))).weights P t, n ≤ reachBytes := by
    rw [hxe] at hz; exact hz
  simp only [DataW.weights, ht] at hw
  have hsz : len * B ≤ 140737488351232 := by
    have := hw _ (List.mem_cons_self ..)
    rw [hB] at this
    have h2 : len * B ≤ (((List.range len).map D).length + ((List.range (m - len)).map fun j => D (len + j)).length) * B := Nat.mul_le_mul_right _ (by simp)
    exact Nat.le_trans h2 this
  have hlt : ∀ i, i < len → Light P e (D i) := fun i hi => light_all (fun n hn => hw n (List.mem_cons_of_mem _ (List.mem_append_left _ hn))) (D i) (List.mem_map.2 ⟨i, by simpa using hi, rfl⟩)
  have each : ∀ i, i < len → ∃ y, (∃ cs', w.cells? base (a.add (i * P.cellsOf e)) (P.cellsOf e) = some cs' ∧ d.K w y cs') ∧ ok y := by
    intro i hi
    obtain ⟨cs', h1, h2⟩ := hel i (by omega)
    obtain ⟨y, h3, h4⟩ := h H enc w base spare held n cs' _ h2 (hlt i hi)
    exact ⟨y, ⟨cs', h1, h3⟩, h4⟩
  obtain ⟨f, hf⟩ : ∃ f : (i : Nat) → i < len → α, ∀ i hi, (∃ cs', w.cells? base (a.add (i * P.cellsOf e)) (P.cellsOf e) = some cs' ∧ d.K w (f i hi) cs') ∧ ok (f i hi) :=
    ⟨fun i hi => Classical.choose (each i hi), fun i hi => Classical.choose_spec (each i hi)⟩
  have hlen : (List.ofFn fun i : Fin len => f i.1 i.2).length = len := List.length_ofFn
  refine ⟨List.ofFn fun i : Fin len => f i.1 i.2, ⟨some a, cap, by rw [hlen], by rw [hlen]; exact hl, rfl, by rw [hlen]; simp only [maxLen] at hm; omega, ?_⟩, by rw [hlen]; exact hsz, ?_⟩
  · intro _
    refine ⟨a, rfl, fun j p hj => ?_⟩
    have hjl : j < len := by have := (List.getElem?_eq_some_iff.1 hj).1; rwa [hlen] at this
    have hp : p = f j hjl := by
      have := (List.getElem?_eq_some_iff.1 hj).2
      rw [← this, List.getElem_ofFn]
    obtain ⟨⟨cs', h1, h2⟩, _⟩ := hf j hjl
    obtain ⟨_, hcl, hcells⟩ := World.cells?_some h1
    refine ⟨cs', by rw [hcl, hc], by rw [hp]; exact h2, fun i u hu => ?_⟩
    have hi : i < cs'.length := (List.getElem?_eq_some_iff.1 hu).1
    have := hcells i (by omega)
    rw [hu, hc, Addr.add_add] at this
    exact this
  · intro y hy
    obtain ⟨i, hi⟩ := List.mem_ofFn.1 hy
    rw [← hi]
    exact (hf i.1 i.2).2
/-- The fields of a struct, from the cell o on. -/
def OpensF {α : Type} (P : Program) (fs : List Field) (o : Nat) (d : Kd α) (ok : α → Prop) : Prop :=
  ∀ (H : Type) (enc : TypeId × Value → H) (w : World) (base : Nat) (spare : Nat → Bool) (held : Bool) (n : Nat) (cs : List Value), cs.length = o + d.sz →
    (∀ f ∈ fs, ∃ x, DataW.trod enc P w base spare held n f.type ((cs.drop f.offset).take (P.cellsOf f.type)) = some x ∧ Light P f.type x.1) → ∃ a, d.K w a (cs.drop o) ∧ ok a
theorem opensF_last {α : Type} {P : Program} {f : Field} {o : Nat} {d : Kd α} {ok : α → Prop} (h : Opens P f.type d ok) (hs : P.cellsOf f.type = d.sz) (ho : f.offset = o) : OpensF P [f] o d ok := by
  intro H enc w base spare held n cs hl hx
  obtain ⟨x, hx, hz⟩ := hx f (by simp)
  rw [ho, List.take_of_length_le (by simp; omega)] at hx
  exact h H enc w base spare held n _ x hx hz
theorem opensF_cons {α β : Type} {P : Program} {f : Field} {fs : List Field} {o : Nat} {d : Kd α} {d1 : Kd β} {ok : α → Prop} {ok1 : β → Prop} (h : Opens P f.type d ok) (hs : P.cellsOf f.type = d.sz) (ho : f.offset = o)
    (h1 : OpensF P fs (o + d.sz) d1 ok1) : OpensF P (f :: fs) o (Kd.pair d d1) (fun x => ok x.1 ∧ ok1 x.2) := by
  intro H enc w base spare held n cs hl hx
  obtain ⟨x, hx0, hz⟩ := hx f (by simp)
  rw [ho, hs] at hx0
  obtain ⟨a, ha, hok⟩ := h H enc w base spare held n _ x hx0 hz
  have hl' : cs.length = o + (d.sz + d1.sz) := hl
  obtain ⟨b, hb, hokb⟩ := h1 H enc w base spare held n cs (by omega) (fun g hg => hx g (by simp [hg]))
  refine ⟨(a, b), ⟨_, _, ?_, ha, hb⟩, hok, hokb⟩
  rw [← List.drop_drop]
  exact (List.take_append_drop _ _).symm
theorem opens_struct {α β : Type} {P : Program} {t : TypeId} {fs : Array Field} {d : Kd α} {ok : α → Prop} (f : β → α) (g : α → β) (hfg : ∀ a, f (g a) = a) (ht : P.underlying t = some (.struct fs)) (hs : P.cellsOf t = d.sz) (h : OpensF P fs.toList 0 d ok) :
    Opens P t (Kd.iso d f) (fun x => ok (f x)) := by
  intro H enc w base spare held fuel cs x hx hz
  obtain ⟨xs, n, _, hxe, hl, hxl, hel⟩ := DataW.trod_struct ht hx
  rw [hxe] at hz
  simp only [Light, DataW.weights, ht] at hz
  obtain ⟨a, ha, hok⟩ := h H enc w base spare held n cs (by omega) (fun q hq => by
    obtain ⟨i, hi, e⟩ := List.getElem_of_mem hq
    have hi' : i < fs.size := by simpa using hi
    have e2 : fs[i]? = some q := by rw [Array.getElem?_eq_getElem hi']; exact congrArg some (by simpa using e)
    have := hel i q e2
    rw [List.getElem?_eq_getElem (by omega)] at this
    refine ⟨_, this, light_each hz i _ _ ?_ ?_⟩
    · simp [e2]
    · simp [List.getElem?_eq_getElem (show i < xs.length by omega)])
  exact ⟨g a, by show d.K w (f (g a)) cs; rw [hfg]; exact ha, by show ok (f (g a)); rw [hfg]; exact hok⟩
/-- An argument's own datum is light. -/
theorem light_arg {H : Type} {P : Program} {ts : List TypeId} {ds : List (DataW H)} (hsz : (DataW.weightsEach P ts ds).all (· ≤ reachBytes) = true) {j : Nat} {t : TypeId} {d : DataW H} (ht : ts[j]? = some t) (hd : ds[j]? = some d) : Light P t d :=
  light_each (fun n hn => by simpa using List.all_eq_true.1 hsz n hn) j t d ht hd
end Go.Proofs.Ytikninibkljnnaa.Opening
