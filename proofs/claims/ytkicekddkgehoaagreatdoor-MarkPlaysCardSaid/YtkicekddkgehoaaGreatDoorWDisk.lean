/- A disk in plain words, and what it is in memory: definitions and lemmas for contracts that are written by hand. -/
import Derived.Test.YtkicekddkgehoaaGreatDoorWHand
import Derived.Test.YtkicekddkgehoaaGreatDoorWKept
namespace Go.Proofs.YtkicekddkgehoaaGreatDoorW.Dk
open Go Go.RowKit Go.Proofs.YtkicekddkgehoaaGreatDoorW.PrintWords Go.Proofs.YtkicekddkgehoaaGreatDoorW.PrintLast
set_option linter.unusedVariables false
/-! A disk, in plain words: what each of its calls makes of it. -/
structure DS where
  S : List (List Int)
  P : List (Int × List Int)
  N : Int
  down : Bool
  armed : Bool
  at_ : Int
  left : List Int
namespace DS
/-- How many bytes are left of a pending write. -/
def keepN (left : List Int) (k : Nat) : Nat := (min (max (left.getD k 0) 0) 16).toNat
theorem keepN_le (left : List Int) (k : Nat) : keepN left k ≤ 16 := by unfold keepN; omega
/-- The first n bytes of b over those of s. -/
def lay (b s : List Int) (n : Nat) : List Int := b.take n ++ s.drop n
theorem lay_len {b s : List Int} {n m : Nat} (hb : b.length = m) (hs : s.length = m) (hn : n ≤ m) : (lay b s n).length = m := by
  unfold lay
  rw [List.length_append, List.length_take, List.length_drop]
  omega
def spill (left : List Int) : List (List Int) → List (Int × List Int) → Nat → List (List Int)
  | S, [], _ => S
  | S, p :: P, k => spill left (S.set p.1.toNat (lay p.2 (S.getD p.1.toNat []) (keepN left k))) P (k + 1)
def flushed : List (List Int) → List (Int × List Int) → List (List Int)
  | S, [] => S
  | S, p :: P => flushed (S.set p.1.toNat p.2) P
/-- Sectors of 16 bytes; what is pending is 16 bytes of a sector. -/
def Fit (S : List (List Int)) (P : List (Int × List Int)) : Prop := (∀ s ∈ S, s.length = 16) ∧ ∀ p ∈ P, 0 ≤ p.1 ∧ p.1 < (S.length : Int) ∧ p.2.length = 16
def Ok (d : DS) : Prop := Fit d.S d.P
theorem getD_len {S : List (List Int)} (h : ∀ s ∈ S, s.length = 16) {i : Nat} (hi : i < S.length) : (S.getD i []).length = 16 := by
  rw [List.getD_eq_getElem?_getD, List.getElem?_eq_getElem hi]
  exact h _ (List.getElem_mem hi)
theorem Fit.set {S : List (List Int)} {P : List (Int × List Int)} (h : Fit S P) (i : Nat) {b : List Int} (hb : b.length = 16) : Fit (S.set i b) P :=
  ⟨fun s hs => (List.mem_or_eq_of_mem_set hs).elim (h.1 s) (fun e => by rw [e]; exact hb), fun p hp => by rw [List.length_set]; exact h.2 p hp⟩
theorem Fit.tail {S : List (List Int)} {p : Int × List Int} {P : List (Int × List Int)} (h : Fit S (p :: P)) : Fit S P := ⟨h.1, fun q hq => h.2 q (List.mem_cons_of_mem _ hq)⟩
theorem Fit.head {S : List (List Int)} {p : Int × List Int} {P : List (Int × List Int)} (h : Fit S (p :: P)) : 0 ≤ p.1 ∧ p.1 < (S.length : Int) ∧ p.2.length = 16 := h.2 p List.mem_cons_self
theorem Fit.laid {S : List (List Int)} {p : Int × List Int} {P : List (Int × List Int)} (h : Fit S (p :: P)) (n : Nat) (hn : n ≤ 16) : Fit (S.set p.1.toNat (lay p.2 (S.getD p.1.toNat []) n)) P :=
  h.tail.set _ (lay_len h.head.2.2 (getD_len h.1 (by have := h.head; omega)) hn)
theorem spill_len (left : List Int) : ∀ (P : List (Int × List Int)) (S : List (List Int)) (k : Nat), (spill left S P k).length = S.length
  | [], S, k => rfl
  | p :: P, S, k => by rw [spill, spill_len left P, List.length_set]
theorem flushed_len : ∀ (P : List (Int × List Int)) (S : List (List Int)), (flushed S P).length = S.length
  | [], S => rfl
  | p :: P, S => by rw [flushed, flushed_len P, List.length_set]
theorem spill_fit (left : List Int) : ∀ (P : List (Int × List Int)) (S : List (List Int)) (k : Nat), Fit S P → Fit (spill left S P k) []
  | [], S, k, h => h
  | p :: P, S, k, h => spill_fit left P _ (k + 1) (h.laid _ (keepN_le _ _))
theorem flushed_fit : ∀ (P : List (Int × List Int)) (S : List (List Int)), Fit S P → Fit (flushed S P) []
  | [], S, h => h
  | p :: P, S, h => flushed_fit P _ (h.tail.set _ h.head.2.2)
/-- Does it crash ahead of its next operation? -/
def bad (d : DS) : Bool := d.armed && decide (d.at_ ≤ d.N)
def crashed (d : DS) : DS := { d with S := spill d.left d.S d.P 0, P := [], down := true }
def counted (d : DS) : DS := { d with N := wrap64 (d.N + 1) }
def next (d : DS) : DS := if d.bad = true then d.crashed else d.counted
def wr (d : DS) (i : Int) (b : List Int) : DS × Int :=
  if d.down = true then (d, 5) else if b.length ≠ 16 then (d, 1) else if i < 0 ∨ (d.S.length : Int) ≤ i then (d, 4) else
    if d.bad = true then (d.crashed, 5) else ({ d.counted with P := d.P ++ [(i, b)] }, 0)
def fl (d : DS) : DS × Int :=
  if d.down = true then (d, 5) else if d.bad = true then (d.crashed, 5) else ({ d.counted with S := flushed d.S d.P, P := [] }, 0)
/-- The last write to a sector. -/
def lastP (i : Int) : List (Int × List Int) → Option (List Int)
  | [] => none
  | p :: P => (lastP i P).or (if p.1 = i then some p.2 else none)
def rd (d : DS) (i : Int) : List Int := if 0 ≤ i ∧ i < (d.S.length : Int) then (lastP i d.P).getD (d.S.getD i.toNat []) else []
def arm (d : DS) (at_ : Int) (left : List Int) : DS := { d with armed := true, at_ := at_, left := left }
def restart (d : DS) : DS := { d with P := [], down := false, armed := false, N := 0 }
def new (n : Nat) : DS := ⟨List.replicate n (List.replicate 16 0), [], 0, false, false, 0, []⟩
theorem crashed_ok {d : DS} (h : d.Ok) : d.crashed.Ok := spill_fit _ _ _ _ h
theorem next_ok {d : DS} (h : d.Ok) : d.next.Ok := by
  unfold next
  split
  · exact crashed_ok h
  · exact h
theorem wr_ok {d : DS} (h : d.Ok) (i : Int) (b : List Int) : (d.wr i b).1.Ok := by
  unfold wr
  split
  · exact h
  split
  · exact h
  split
  · exact h
  split
  · exact crashed_ok h
  · refine ⟨h.1, fun p hp => ?_⟩
    rcases List.mem_append.1 hp with hp | hp
    · exact h.2 p hp
    · obtain rfl := List.mem_singleton.1 hp
      refine ⟨?_, ?_, ?_⟩
      all_goals (simp only [counted]; try omega)
theorem fl_ok {d : DS} (h : d.Ok) : d.fl.1.Ok := by
  unfold fl
  split
  · exact h
  split
  · exact crashed_ok h
  · exact flushed_fit _ _ h
theorem new_ok (n : Nat) : (new n).Ok := ⟨fun s hs => by rw [List.eq_of_mem_replicate hs]; simp, fun p hp => by cases hp⟩
theorem arm_ok {d : DS} (h : d.Ok) (a : Int) (l : List Int) : (d.arm a l).Ok := h
theorem restart_ok {d : DS} (h : d.Ok) : d.restart.Ok := ⟨h.1, fun p hp => by cases hp⟩
theorem lastP_len {S : List (List Int)} {i : Int} : ∀ {P : List (Int × List Int)} {b : List Int}, Fit S P → lastP i P = some b → b.length = 16
  | [], b, _, h => by cases h
  | p :: P, b, hf, h => by
    rw [lastP] at h
    cases hl : lastP i P with
    | some c => rw [hl] at h; simp at h; rw [← h]; exact lastP_len hf.tail hl
    | none =>
      rw [hl] at h
      simp at h
      rw [← h.2]
      exact hf.head.2.2
theorem rd_len {d : DS} (h : d.Ok) (i : Int) : (d.rd i).length = if 0 ≤ i ∧ i < (d.S.length : Int) then 16 else 0 := by
  unfold rd
  split
  · rename_i hi
    cases hl : lastP i d.P with
    | none => exact getD_len h.1 (by omega)
    | some b => exact lastP_len h hl
  · rfl
end DS

/-! What a disk is in memory. -/
open Go.RowKit
/-- All but the blocks of S, and what is new, stays. -/
structure KeptB (S : Nat → Prop) (w w' : World) : Prop where
  os : w'.os = w.os
  tape : w'.tape = w.tape
  output : w'.output = w.output
  size : w.heap.size ≤ w'.heap.size
  block : ∀ k, k < w.heap.size → ¬ S k → w'.heap[k]? = w.heap[k]?
namespace KeptB
variable {S S2 : Nat → Prop} {w w0 W W2 : World} {B : Nat}
theorem kept (h : KeptB S w W) : Kept w W S := ⟨h.size, h.block⟩
theorem refl (S : Nat → Prop) (w : World) : KeptB S w w := ⟨rfl, rfl, rfl, Nat.le_refl _, fun _ _ _ => rfl⟩
theorem then_ (h : KeptB S w W) (k : KeptB S2 W W2) (hs : ∀ k, S2 k → S k ∨ w.heap.size ≤ k) : KeptB S w W2 :=
  ⟨k.os.trans h.os, k.tape.trans h.tape, k.output.trans h.output, Nat.le_trans h.size k.size, fun i hi hn => (k.block i (Nat.lt_of_lt_of_le hi h.size) (fun h2 => (hs i h2).elim hn (fun h3 => by omega))).trans (h.block i hi hn)⟩
theorem trans (h : KeptB S w W) (k : KeptB S W W2) : KeptB S w W2 := h.then_ k (fun _ hk => .inl hk)
theorem mono (h : KeptB S w W) (hs : ∀ k, S k → S2 k) : KeptB S2 w W := ⟨h.os, h.tape, h.output, h.size, fun i hi hn => h.block i hi (fun hk => hn (hs i hk))⟩
theorem of_below (h : Below w.heap.size w W) (S : Nat → Prop) : KeptB S w W := ⟨h.os, h.tape, h.output, h.size, fun i hi _ => h.block i hi⟩
theorem after (h : KeptB S w W) (hb : Below W.heap.size W W2) : KeptB S w W2 := h.then_ (of_below hb (fun _ => False)) (fun _ hk => hk.elim)
theorem alloc (h : KeptB S w W) (o : Obj) : KeptB S w (W.alloc o) := h.after (below_alloc (Below.refl _ _) o)
theorem drew (h : KeptB S w W) : KeptB S w W.drew := h.after (below_drew1 (Below.refl _ _))
theorem drewN (h : KeptB S w W) (n : Nat) : KeptB S w (W.drewN n) := h.after (pw_below_drewN (Below.refl _ _) n)
theorem setCell (h : KeptB S w W) {p : Addr} (hp : S p.block ∨ w.heap.size ≤ p.block) (u : Value) : KeptB S w (W.setCell p u) :=
  h.then_ (S2 := fun k => k = p.block) ⟨rfl, rfl, rfl, by simp [World.setCell], fun i _ hn => Below.heap_setCell W p u i hn⟩ (fun k hk => by rw [hk]; exact hp)
theorem setCells (h : KeptB S w W) {g : Nat} (hg : S g ∨ w.heap.size ≤ g) : ∀ {vs : List Value} {o : Nat}, KeptB S w (W.setCells g o vs) := by
  intro vs
  induction vs generalizing W with
  | nil => intro o; exact h
  | cons v r ih => intro o; exact ih (h.setCell (p := ⟨g, o, none⟩) hg v)
theorem grown (h : KeptB S w W) {row : Option Nat} (hg : W.grownBy W2 row) (hr : ∀ k, row = some k → S k ∨ w.heap.size ≤ k) : KeptB S w W2 :=
  h.then_ (S2 := fun k => row = some k) ⟨hg.os, hg.tape, hg.output, hg.size, fun i hi hn => hg.block i hi (fun he => hn he.symm)⟩ hr
/-- What is kept from the call's begin on, where all that was written is new since. -/
theorem below (h : KeptB S w W) (hb : Below B w0 w) (hB : B ≤ w.heap.size) (hS : ∀ k, S k → B ≤ k) : Below B w0 W :=
  ⟨h.os.trans hb.os, h.tape.trans hb.tape, h.output.trans hb.output, Nat.le_trans hb.size h.size, fun k hk => (h.block k (by omega) (fun hs => by have := hS k hs; omega)).trans (hb.block k hk)⟩
end KeptB
/-- A sector's bytes fill a block of their own. -/
def SecAt (w : World) (k : Nat) (b : List Int) : Prop := w.heap[k]? = some (.cells (b.map (Value.int .u8)).toArray 5 (0, 0))
def secV (k : Nat) : Value := .slice (some ⟨k, 0, none⟩) 16 16
def SecsAt (w : World) (ss : List Nat) (S : List (List Int)) : Prop := ss.length = S.length ∧ ∀ (i k : Nat) (b : List Int), ss[i]? = some k → S[i]? = some b → SecAt w k b
theorem SecsAt.get {w : World} {ss : List Nat} {S : List (List Int)} (h : SecsAt w ss S) {k : Nat} (hk : k ∈ ss) : ∃ b, SecAt w k b := by
  obtain ⟨i, hi, e⟩ := List.getElem_of_mem hk
  have h1 : ss[i]? = some k := by rw [List.getElem?_eq_getElem hi, e]
  have h2 : i < S.length := by rw [← h.1]; exact hi
  exact ⟨_, h.2 i k _ h1 (List.getElem?_eq_getElem h2)⟩
theorem SecsAt.lt {w : World} {ss : List Nat} {S : List (List Int)} (h : SecsAt w ss S) {k : Nat} (hk : k ∈ ss) : k < w.heap.size := by
  obtain ⟨b, hb⟩ := h.get hk
  exact (Array.getElem?_eq_some_iff.1 hb).1
theorem SecsAt.step {w w1 : World} {ss : List Nat} {S : List (List Int)} (h : SecsAt w ss S) (hm : ∀ k, k ∈ ss → w1.heap[k]? = w.heap[k]?) : SecsAt w1 ss S :=
  ⟨h.1, fun i k b hk hb => (hm k (List.mem_of_getElem? hk)).trans (h.2 i k b hk hb)⟩
theorem SecsAt.set {w w1 : World} {ss : List Nat} {S : List (List Int)} (h : SecsAt w ss S) (hn : ss.Nodup) {i k : Nat} {b : List Int} (hk : ss[i]? = some k) (hb : SecAt w1 k b) (hm : ∀ j, j ∈ ss → j ≠ k → w1.heap[j]? = w.heap[j]?) : SecsAt w1 ss (S.set i b) := by
  refine ⟨by rw [List.length_set]; exact h.1, fun j q c hq hc => ?_⟩
  by_cases hij : i = j
  · subst hij
    rw [hk] at hq
    injection hq with hq
    subst hq
    rw [List.getElem?_set] at hc
    simp only [if_true] at hc
    split at hc
    · injection hc with hc
      subst hc
      exact hb
    · cases hc
  · rw [List.getElem?_set, if_neg hij] at hc
    have hne : q ≠ k := fun e => by
      subst e
      obtain ⟨h1, e1⟩ := List.getElem?_eq_some_iff.1 hk
      obtain ⟨h2, e2⟩ := List.getElem?_eq_some_iff.1 hq
      exact hij ((List.getElem_inj hn).1 (e1.trans e2.symm))
    exact (hm q (List.mem_of_getElem? hq) hne).trans (h.2 j q c hq hc)
def kW : Kd (Int × List Int) := Kd.pair (Kd.int .i64) (Kd.slice 5 (Kd.int .u8))
/-- A disk's rows. -/
def DiskIn (w : World) (base : Nat) (ok : Nat → Prop) (vS vP vL : Value) (S : List (List Int)) (P : List (Int × List Int)) (L : List Int) (ss : List Nat) : Prop :=
  w.ownsRow base 52 1 vS ss.length (ss.map secV) ∧ (∀ k, vS.ownBlock = some k → ok k ∧ k ∉ ss) ∧ SecsAt w ss S ∧ ss.Nodup ∧ (∀ k ∈ ss, base ≤ k ∧ ok k) ∧
    kW.R 105 w base (fun k => ok k ∧ k ∉ ss) vP P ∧ (Kd.int .i64).R 58 w base (fun k => ok k ∧ k ∉ ss) vL L
namespace DiskIn
variable {w w1 : World} {base base' : Nat} {ok ok' : Nat → Prop} {vS vP vL : Value} {S : List (List Int)} {P : List (Int × List Int)} {L : List Int} {ss : List Nat}
theorem mono (h : DiskIn w base ok vS vP vL S P L ss) (hs : ∀ k, ok k → ok' k) : DiskIn w base ok' vS vP vL S P L ss :=
  ⟨h.1, fun k e => ⟨hs k (h.2.1 k e).1, (h.2.1 k e).2⟩, h.2.2.1, h.2.2.2.1, fun k hk => ⟨(h.2.2.2.2.1 k hk).1, hs k (h.2.2.2.2.1 k hk).2⟩, Kd.R_mono h.2.2.2.2.2.1 (fun k hk => ⟨hs k hk.1, hk.2⟩), Kd.R_mono h.2.2.2.2.2.2 (fun k hk => ⟨hs k hk.1, hk.2⟩)⟩
theorem lower (h : DiskIn w base ok vS vP vL S P L ss) (hb : base' ≤ base) : DiskIn w base' ok vS vP vL S P L ss :=
  ⟨own_weaken h.1 hb, h.2.1, h.2.2.1, h.2.2.2.1, fun k hk => ⟨Nat.le_trans hb (h.2.2.2.2.1 k hk).1, (h.2.2.2.2.1 k hk).2⟩, Kd.R_lower h.2.2.2.2.2.1 hb, Kd.R_lower h.2.2.2.2.2.2 hb⟩
theorem step (h : DiskIn w base ok vS vP vL S P L ss) (hm : ∀ k, ok k → k < w.heap.size → w1.heap[k]? = w.heap[k]?) : DiskIn w1 base ok vS vP vL S P L ss :=
  ⟨own_move h.1 (fun k hk => hm k (h.2.1 k hk).1 (own_lt h.1 k hk)), h.2.1, h.2.2.1.step (fun k hk => hm k (h.2.2.2.2.1 k hk).2 (h.2.2.1.lt hk)), h.2.2.2.1, h.2.2.2.2.1, Kd.R_step h.2.2.2.2.2.1 (fun k hk => hm k hk.1), Kd.R_step h.2.2.2.2.2.2 (fun k hk => hm k hk.1)⟩
/-- Blocks of cells that lie there. -/
def Lies (w : World) (base k : Nat) : Prop := base ≤ k ∧ k < w.heap.size ∧ ∃ (cells : Array Value) (q : TypeId) (fr : Nat × Nat), w.heap[k]? = some (.cells cells q fr)
theorem bound (h : DiskIn w base ok vS vP vL S P L ss) : DiskIn w base (fun k => ok k ∧ Lies w base k) vS vP vL S P L ss :=
  ⟨h.1, fun k e => ⟨⟨(h.2.1 k e).1, own_base h.1 k e, own_lt h.1 k e, by obtain ⟨c, hc⟩ := own_typed h.1 k e; exact ⟨c, _, _, hc⟩⟩, (h.2.1 k e).2⟩, h.2.2.1, h.2.2.2.1,
    fun k hk => ⟨(h.2.2.2.2.1 k hk).1, (h.2.2.2.2.1 k hk).2, (h.2.2.2.2.1 k hk).1, h.2.2.1.lt hk, by obtain ⟨b, hb⟩ := h.2.2.1.get hk; exact ⟨_, _, _, hb⟩⟩,
    Kd.R_mono (Kd.R_bound h.2.2.2.2.2.1) (fun k hk => ⟨⟨hk.1.1, hk.2.1, hk.2.2.1, by obtain ⟨_, _, _, q, _, c, hc⟩ := hk; exact ⟨c, q, _, hc⟩⟩, hk.1.2⟩),
    Kd.R_mono (Kd.R_bound h.2.2.2.2.2.2) (fun k hk => ⟨⟨hk.1.1, hk.2.1, hk.2.2.1, by obtain ⟨_, _, _, q, _, c, hc⟩ := hk; exact ⟨c, q, _, hc⟩⟩, hk.1.2⟩)⟩
end DiskIn
def dcells (vS vP vL : Value) (d : DS) : Array Value := #[vS, vP, .int .i64 d.N, .bool d.down, .bool d.armed, .int .i64 d.at_, vL]
/-- A disk at g; its blocks are among those of ok, from base on. -/
def DiskAt (w : World) (base : Nat) (ok : Nat → Prop) (g : Nat) (d : DS) : Prop :=
  ∃ (vS vP vL : Value) (ss : List Nat), w.heap[g]? = some (.cells (dcells vS vP vL d) 51 (0, 0)) ∧ base ≤ g ∧ ok g ∧ DiskIn w base (fun k => ok k ∧ k ≠ g) vS vP vL d.S d.P d.left ss ∧ d.Ok
namespace DiskAt
variable {w w1 : World} {base base' : Nat} {ok ok' : Nat → Prop} {g : Nat} {d : DS}
theorem mono (h : DiskAt w base ok g d) (hs : ∀ k, ok k → ok' k) : DiskAt w base ok' g d := by
  obtain ⟨vS, vP, vL, ss, h1, h2, h3, h4, h5⟩ := h
  exact ⟨vS, vP, vL, ss, h1, h2, hs _ h3, h4.mono (fun k hk => ⟨hs k hk.1, hk.2⟩), h5⟩
theorem lower (h : DiskAt w base ok g d) (hb : base' ≤ base) : DiskAt w base' ok g d := by
  obtain ⟨vS, vP, vL, ss, h1, h2, h3, h4, h5⟩ := h
  exact ⟨vS, vP, vL, ss, h1, Nat.le_trans hb h2, h3, h4.lower hb, h5⟩
theorem step (h : DiskAt w base ok g d) (hm : ∀ k, ok k → k < w.heap.size → w1.heap[k]? = w.heap[k]?) : DiskAt w1 base ok g d := by
  obtain ⟨vS, vP, vL, ss, h1, h2, h3, h4, h5⟩ := h
  exact ⟨vS, vP, vL, ss, (hm g h3 (Array.getElem?_eq_some_iff.1 h1).1).trans h1, h2, h3, h4.step (fun k hk => hm k hk.1), h5⟩
theorem bound (h : DiskAt w base ok g d) : DiskAt w base (fun k => ok k ∧ DiskIn.Lies w base k) g d := by
  obtain ⟨vS, vP, vL, ss, h1, h2, h3, h4, h5⟩ := h
  exact ⟨vS, vP, vL, ss, h1, h2, ⟨h3, h2, (Array.getElem?_eq_some_iff.1 h1).1, _, _, _, h1⟩, h4.bound.mono (fun k hk => ⟨⟨hk.1.1, hk.2⟩, hk.1.2⟩), h5⟩
theorem below (h : DiskAt w base ok g d) (hb : Below w.heap.size w w1) : DiskAt w1 base ok g d := h.step (fun k _ hk => hb.block k hk)
theorem kept (h : DiskAt w base ok g d) {S : Nat → Prop} (hk : Kept w w1 S) (hne : ∀ k, ok k → ¬ S k) : DiskAt w1 base ok g d := h.step (fun k ho hlt => hk.2 k hlt (hne k ho))
theorem isOk (h : DiskAt w base ok g d) : d.Ok := by obtain ⟨_, _, _, _, _, _, _, _, h5⟩ := h; exact h5
theorem base_le (h : DiskAt w base ok g d) : base ≤ g := by obtain ⟨_, _, _, _, _, h2, _⟩ := h; exact h2
theorem lt (h : DiskAt w base ok g d) : g < w.heap.size := by obtain ⟨_, _, _, _, h1, _⟩ := h; exact (Array.getElem?_eq_some_iff.1 h1).1
/-- A scalar field is stored into. -/
theorem set {vS vP vL : Value} {ss : List Nat} {d' : DS} (h1 : w.heap[g]? = some (.cells (dcells vS vP vL d) 51 (0, 0))) (h2 : base ≤ g) (h3 : ok g) (h4 : DiskIn w base (fun k => ok k ∧ k ≠ g) vS vP vL d.S d.P d.left ss) (hd : d'.Ok)
    (hS : d'.S = d.S) (hP : d'.P = d.P) (hL : d'.left = d.left) {cs : Array Value} (hg : w1.heap[g]? = some (.cells cs 51 (0, 0))) (hcs : cs = dcells vS vP vL d') (hm : ∀ k, k ≠ g → w1.heap[k]? = w.heap[k]?) : DiskAt w1 base ok g d' :=
  ⟨vS, vP, vL, ss, by rw [hg, hcs], h2, h3, by rw [hS, hP, hL]; exact h4.step (fun k hk _ => hm k hk.2), hd⟩
end DiskAt
end Go.Proofs.YtkicekddkgehoaaGreatDoorW.Dk
