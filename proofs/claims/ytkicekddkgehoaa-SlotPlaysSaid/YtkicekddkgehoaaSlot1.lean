/- Contracts of the calls, by hand. -/
import Derived.Test.YtkicekddkgehoaaQSlotLastx1
import Derived.Test.YtkicekddkgehoaaSpan8
import Derived.RangeFuncNested
import Derived.RangeFuncBound
import Derived.RangeFuncCalls
import Derived.RangeFuncLeaves
import Derived.RangeFuncBox
import Derived.Shelf.Abstract
import Derived.Shelf.RegionOpen
import Derived.OwnWalkIn
import Derived.TacticsInMore
import Derived.LoopNIn
import Derived.LoopIn
import Derived.Sort.QuietIn
import Derived.Sort.CutIn
import Derived.Stop.RegionWithIn
namespace Go.Proofs.Ytkicekddkgehoaa.Hnd
open Go.RowKit Go.Proofs.Ytkicekddkgehoaa.QSlotLast Go.Proofs.YtkicekddkgehoaaW.PrintWords Go.Proofs.YtkicekddkgehoaaW.PrintLast Go.Proofs.YtkicekddkgehoaaW.Dk Go.Shelf
set_option linter.unusedVariables false
set_option linter.unusedSimpArgs false
end Go.Proofs.Ytkicekddkgehoaa.Hnd
namespace Go.Proofs.YtkicekddkgehoaaW.Dk
/-! Two places for what is saved, in plain words. -/
namespace DS
def room (d : DS) : Nat := d.S.length * 3 / 8
def zeros16 : List Int := List.replicate 16 0
def save (crc : List Int → Int) (d : DS) (gen : Int) (b : List Int) : DS × Int :=
  if gen < 1 ∨ gen > 2147483647 then (d, 1) else
    if (d.room : Int) < (need b.length : Int) then (d, 4) else
      if (puth d (gen % 2 * d.room) zeros16).2 = 0 then put crc (puth d (gen % 2 * d.room) zeros16).1 (gen % 2 * d.room) d.room gen b else puth d (gen % 2 * d.room) zeros16
def load1 (crc : List Int → Int) (d : DS) (i : Nat) (s : Int × List Int × Bool) : Int × List Int × Bool :=
  if (get crc d ((i : Int) * d.room) d.room).2.2 = true ∧ (get crc d ((i : Int) * d.room) d.room).1 ≤ 2147483647 ∧ s.1 < (get crc d ((i : Int) * d.room) d.room).1 then get crc d ((i : Int) * d.room) d.room else s
def load (crc : List Int → Int) (d : DS) : Int × List Int × Bool := load1 crc d 1 (load1 crc d 0 (0, [], false))
theorem zeros16_len : zeros16.length = 16 := rfl
theorem fl_len (d : DS) : d.fl.1.S.length = d.S.length := by
  unfold fl
  split
  · rfl
  split
  · exact spill_len _ _ _ _
  · exact flushed_len _ _
theorem wr_len (d : DS) (i : Int) (b : List Int) : (d.wr i b).1.S.length = d.S.length := by
  unfold wr
  split
  · rfl
  split
  · rfl
  split
  · rfl
  split
  · exact spill_len _ _ _ _
  · rfl
theorem puth_len (d : DS) (i : Int) (b : List Int) : (puth d i b).1.S.length = d.S.length := by
  unfold puth
  split
  · rw [fl_len, wr_len]
  · exact wr_len _ _ _
theorem putC_len : ∀ (cs : List (List Int)) (d : DS) (i : Int), (putC d i cs).1.S.length = d.S.length
  | [], _, _ => rfl
  | c :: cs, d, i => by
    rw [putC]
    split
    · rw [putC_len cs, wr_len]
    · exact wr_len _ _ _
theorem put_len (crc : List Int → Int) (d : DS) (i room tag : Int) (b : List Int) : (put crc d i room tag b).1.S.length = d.S.length := by
  unfold put
  split
  · rfl
  split
  · split
    · rw [puth_len, fl_len, putC_len]
    · rw [fl_len, putC_len]
  · exact putC_len _ _ _
theorem save_len (crc : List Int → Int) (d : DS) (gen : Int) (b : List Int) : (save crc d gen b).1.S.length = d.S.length := by
  unfold save
  split
  · rfl
  split
  · rfl
  split
  · rw [put_len, puth_len]
  · exact puth_len _ _ _
theorem save_bytes {crc : List Int → Int} {d : DS} (h : d.AllB) (gen : Int) {b : List Int} (hb : Bytes b) : (save crc d gen b).1.AllB := by
  unfold save
  split
  · exact h
  split
  · exact h
  split
  · exact put_bytes (puth_bytes h _ (bytes_zero 16)) _ _ _ hb
  · exact puth_bytes h _ (bytes_zero 16)
/-- Where a generation's slot begins. -/
def slotAt (d : DS) (gen : Int) : Nat := (gen % 2 * d.room).toNat
theorem slotAt_eq (d : DS) (gen : Int) : gen % 2 * d.room = (slotAt d gen : Int) := by
  unfold slotAt
  rcases Int.emod_two_eq gen with h | h <;> rw [h] <;> omega
theorem slotAt_le (d : DS) (gen : Int) : slotAt d gen ≤ d.room := by
  unfold slotAt
  rcases Int.emod_two_eq gen with h | h <;> rw [h] <;> omega
theorem room2 (d : DS) : d.room + d.room ≤ d.S.length := by unfold room; omega
theorem puth_P (d : DS) (i : Int) (h : List Int) (h0 : (puth d i h).2 = 0) : (puth d i h).1.P = [] := by
  unfold puth at h0 ⊢
  split
  · rename_i h1
    rw [if_pos h1] at h0
    exact fl_P _ h0
  · rename_i h1
    rw [if_neg h1] at h0
    exact absurd h0 h1
theorem save_ok (crc : List Int → Int) (d : DS) (hd : d.Calm) (gen : Int) (b : List Int) (h1 : 1 ≤ gen) (h2 : gen ≤ 2147483647) (hr : need b.length ≤ d.room) :
    ∃ e, save crc d gen b = (e, 0) ∧ e.Calm ∧ e.S.length = d.S.length ∧ Alike d.S e.S (slotAt d gen) (slotAt d gen + need b.length) ∧ Lies crc e (slotAt d gen) gen b := by
  have hs := slotAt_le d gen
  have h2r := room2 d
  have hn : 1 ≤ need b.length := by unfold need; omega
  obtain ⟨e1, p1, p2, p3, p4⟩ := puth_ok d hd (slotAt d gen) zeros16 zeros16_len (by omega)
  have hl : e1.S.length = d.S.length := p3.1
  obtain ⟨e2, q1, q2, q3, q4⟩ := put_ok crc e1 p2 (slotAt d gen) d.room gen b (by omega) (by omega)
  refine ⟨e2, ?_, q2, q3.1.trans hl, (p3.mono (Nat.le_refl _) (by omega)).trans q3, q4⟩
  unfold save
  rw [if_neg (by omega), if_neg (by omega), slotAt_eq, p1, if_pos rfl, q1]
theorem room_of {d e : DS} (h : e.S.length = d.S.length) : e.room = d.room := by unfold room; rw [h]
theorem load_two {crc : List Int → Int} {d : DS} {g0 g1 : Int × List Int × Bool} (h0 : get crc d 0 d.room = g0) (h1 : get crc d d.room d.room = g1) :
    load crc d = if g1.2.2 = true ∧ g1.1 ≤ 2147483647 ∧ (if g0.2.2 = true ∧ g0.1 ≤ 2147483647 ∧ 0 < g0.1 then g0 else (0, [], false)).1 < g1.1 then g1 else (if g0.2.2 = true ∧ g0.1 ≤ 2147483647 ∧ 0 < g0.1 then g0 else (0, [], false)) := by
  unfold load load1
  rw [show ((0 : Nat) : Int) * (d.room : Int) = 0 by omega, show ((1 : Nat) : Int) * (d.room : Int) = (d.room : Int) by omega, h0, h1]
end DS
end Go.Proofs.YtkicekddkgehoaaW.Dk
namespace Go.Proofs.Ytkicekddkgehoaa.Hnd
open Go.RowKit Go.Proofs.Ytkicekddkgehoaa.QSlotLast Go.Proofs.YtkicekddkgehoaaW.PrintWords Go.Proofs.YtkicekddkgehoaaW.PrintLast Go.Proofs.YtkicekddkgehoaaW.Dk Go.Shelf
end Go.Proofs.Ytkicekddkgehoaa.Hnd
namespace Go.Proofs.YtkicekddkgehoaaW.Dk
/-! What is saved last is what is loaded, whatever crashes. -/
namespace DS
theorem get4_small {t : Int} (h0 : 0 ≤ t) (h1 : t < 256) : four t = [0, 0, 0, t] := by
  unfold four
  rw [show t / 16777216 % 256 = 0 by omega, show t / 65536 % 256 = 0 by omega, show t / 256 % 256 = 0 by omega, show t % 256 = t by omega]
/-- The last four bytes of a head. -/
def tail4 (h : List Int) : List Int := h.drop 12
/-- Its last four bytes are a number below m, less than 256. -/
def Below4 (h : List Int) (m : Int) : Prop := h.length = 16 ∧ ∃ e, tail4 h = [0, 0, 0, e] ∧ 0 ≤ e ∧ e < 256 ∧ e < m
theorem lay_tail (h s : List Int) (n : Nat) (hh : h.length = 16) (hn : n ≤ 16) : tail4 (lay h s n) = if n ≤ 12 then tail4 s else (tail4 h).take (n - 12) ++ (tail4 s).drop (n - 12) := by
  unfold tail4 lay
  rw [List.drop_append, List.length_take, hh]
  split
  · rw [List.drop_of_length_le (by rw [List.length_take]; omega), List.nil_append, List.drop_drop]
    congr 1
    omega
  · rw [List.drop_take, List.drop_drop, List.drop_drop]
    congr 2
    omega
theorem tail_zeros : tail4 zeros16 = [0, 0, 0, 0] := rfl
theorem below_zeros {m : Int} (h : 0 < m) : Below4 zeros16 m := ⟨rfl, 0, rfl, by omega, by omega, h⟩
theorem Below4.mono {h : List Int} {m m' : Int} (k : Below4 h m) (hm : m ≤ m') : Below4 h m' := by
  obtain ⟨h1, e, h2, h3, h4, h5⟩ := k
  exact ⟨h1, e, h2, h3, h4, by omega⟩
/-- A head of noughts that is laid in part leaves it so. -/
theorem below_clear {h : List Int} {m : Int} (k : Below4 h m) (hm : 0 < m) (n : Nat) (hn : n ≤ 16) : Below4 (lay zeros16 h n) m := by
  obtain ⟨h1, e, h2, h3, h4, h5⟩ := k
  refine ⟨lay_len zeros16_len h1 hn, ?_⟩
  rw [lay_tail _ _ _ zeros16_len hn, h2, tail_zeros]
  split
  · exact ⟨e, rfl, h3, h4, h5⟩
  · have : n = 13 ∨ n = 14 ∨ n = 15 ∨ n = 16 := by omega
    rcases this with rfl | rfl | rfl | rfl
    · exact ⟨e, rfl, h3, h4, h5⟩
    · exact ⟨e, rfl, h3, h4, h5⟩
    · exact ⟨e, rfl, h3, h4, h5⟩
    · exact ⟨0, rfl, by omega, by omega, hm⟩
/-- A small head that is laid over noughts in part is whole, or of no number at its end. -/
theorem below_put {crc : List Int → Int} {t m : Int} {b : List Int} (t0 : 0 ≤ t) (t1 : t < 256) (hm : 0 < m) (n : Nat) (hn : n ≤ 16) : Below4 (lay (head crc t b) zeros16 n) m ∨ lay (head crc t b) zeros16 n = head crc t b := by
  have hh := head_len crc t b
  by_cases h16 : n = 16
  · right
    subst h16
    unfold lay
    rw [List.take_of_length_le (by omega), List.drop_of_length_le (by rw [zeros16_len]; omega), List.append_nil]
  · left
    refine ⟨lay_len hh zeros16_len hn, 0, ?_, by omega, by omega, hm⟩
    have ht : tail4 (head crc t b) = [0, 0, 0, t] := by
      unfold tail4 head
      rw [get4_small t0 t1]
      simp [four]
    rw [lay_tail _ _ _ hh hn, ht, tail_zeros]
    split
    · rfl
    · have : n = 13 ∨ n = 14 ∨ n = 15 := by omega
      rcases this with rfl | rfl | rfl <;> rfl
theorem below_head {crc : List Int → Int} {t m : Int} {b : List Int} (t0 : 0 ≤ t) (t1 : t < 256) (hm : t < m) : Below4 (head crc t b) m := by
  refine ⟨head_len _ _ _, t, ?_, t0, t1, hm⟩
  unfold tail4 head
  rw [get4_small t0 t1]
  simp [four]
/-- What is got there has a number below m; or nothing is got. -/
theorem below_get {crc : List Int → Int} {d : DS} {i : Nat} {room m : Int} (hP : d.P = []) (h : Below4 (d.S.getD i []) m) : get crc d i room = (0, [], false) ∨ ((get crc d i room).2.2 = true ∧ (get crc d i room).1 < m ∧ 0 < (get crc d i room).1 ∧ (get crc d i room).1 < 256) := by
  obtain ⟨h1, e, h2, h3, h4, h5⟩ := h
  rcases get_tag crc d i room with g | ⟨g1, g2, g3, g4, g5⟩
  · exact .inl g
  · right
    rw [rd_nil hP] at g1 g2 g3
    have : (d.S.getD i []).drop 12 = [0, 0, 0, e] := h2
    rw [this] at g2
    have he : get4 [0, 0, 0, e] = e := by simp [get4]
    rw [he] at g2
    exact ⟨g5, by omega, by omega, by omega⟩
/-- Of a row of saves: generation gen was the last that was well, with these bytes. -/
structure Kept (crc : List Int → Int) (d : DS) (gen : Int) (last : List Int) : Prop where
  calm : d.Calm
  len : d.S.length = 100
  lo : 0 ≤ gen
  hi : gen ≤ 20
  all : d.AllB
  short : last.length ≤ 300
  cur : 0 < gen → Lies crc d (slotAt d gen) gen last
  cur0 : gen = 0 → last = [] ∧ Below4 (d.S.getD (slotAt d gen) []) 1
  other : Below4 (d.S.getD (slotAt d (gen + 1)) []) (max gen 1)
theorem slot_flip (gen : Int) : (gen % 2 = 0 ∧ (gen + 1) % 2 = 1) ∨ (gen % 2 = 1 ∧ (gen + 1) % 2 = 0) := by omega
theorem room100 {d : DS} (h : d.S.length = 100) : d.room = 37 := by unfold room; rw [h]
theorem slotAt100 {d : DS} (h : d.S.length = 100) (gen : Int) : slotAt d gen = if gen % 2 = 0 then 0 else 37 := by
  unfold slotAt
  rw [room100 h]
  rcases Int.emod_two_eq gen with e | e <;> rw [e] <;> rfl
theorem kept_new (crc : List Int → Int) : Kept crc (new 100) 0 [] := by
  have hz : ∀ i, i < 100 → (new 100).S.getD i [] = zeros16 := fun i hi => by
    have := new_rd 100 i hi
    rw [rd_nil rfl] at this
    exact this
  refine ⟨new_calm _, new_len _, by omega, by omega, new_bytes _, by simp, fun h => by omega, fun _ => ⟨rfl, ?_⟩, ?_⟩
  · rw [slotAt100 (new_len 100), hz _ (by split <;> omega)]
    exact below_zeros (by omega)
  · rw [slotAt100 (new_len 100), hz _ (by split <;> omega)]
    exact below_zeros (by omega)
/-- What is loaded is what was saved last. -/
theorem Kept.load {crc : List Int → Int} (hc : ∀ b, 0 ≤ crc b ∧ crc b < 4294967296) {d : DS} {gen : Int} {last : List Int} (h : Kept crc d gen last) : DS.load crc d = (gen, last, decide (0 < gen)) := by
  obtain ⟨G0, e0⟩ : ∃ g, get crc d 0 d.room = g := ⟨_, rfl⟩
  obtain ⟨G1, e1⟩ : ∃ g, get crc d d.room d.room = g := ⟨_, rfl⟩
  have hl := load_two e0 e1
  have hr := room100 h.len
  have hlen := h.len
  have hlo := h.lo
  have hhi := h.hi
  have hn : need last.length ≤ 20 := by have := h.short; unfold need; omega
  rw [hr] at e0 e1
  by_cases h0 : gen = 0
  · subst h0
    obtain ⟨c1, c2⟩ := h.cur0 rfl
    have o := h.other
    rw [slotAt100 h.len] at c2 o
    simp only [Int.zero_emod, if_true] at c2
    rw [if_neg (by omega)] at o
    subst c1
    have b0 := below_get (crc := crc) (room := 37) h.calm.1 c2
    have b1 := below_get (crc := crc) (room := 37) h.calm.1 o
    have q0 : G0 = (0, [], false) := by
      rcases b0 with g | ⟨_, g1, g2, _⟩
      · exact e0.symm.trans g
      · omega
    have q1 : G1 = (0, [], false) := by
      rcases b1 with g | ⟨_, g1, g2, _⟩
      · exact e1.symm.trans g
      · omega
    rw [hl, q0, q1]
    rfl
  · have c := h.cur (by omega)
    have o := h.other
    rw [slotAt100 h.len] at c o
    have hd : decide (0 < gen) = true := decide_eq_true (by omega)
    rw [hd]
    rcases slot_flip gen with ⟨f1, f2⟩ | ⟨f1, f2⟩
    · rw [if_pos f1] at c
      rw [if_neg (by omega)] at o
      have g0 := c.get (room := 37) h.calm.1 (hc _).1 (hc _).2 (by omega) (by omega) (by have := h.short; omega) (by omega) (by omega)
      have q0 : G0 = (gen, last, true) := e0.symm.trans g0
      have b1 := below_get (crc := crc) (room := 37) h.calm.1 o
      have q0' : (if G0.2.2 = true ∧ G0.1 ≤ 2147483647 ∧ 0 < G0.1 then G0 else ((0 : Int), ([] : List Int), false)) = (gen, last, true) := by
        rw [q0]
        exact if_pos ⟨rfl, by show gen ≤ _; omega, by show 0 < gen; omega⟩
      rw [hl, q0']
      rcases b1 with g | ⟨_, g1, g2, _⟩
      · have q1 : G1 = (0, [], false) := e1.symm.trans g
        rw [q1]
        rfl
      · have e1' : get crc d ((37 : Nat) : Int) 37 = G1 := e1
        rw [e1'] at g1
        rw [if_neg (by rintro ⟨_, _, h3⟩; have h3 : gen < G1.1 := h3; omega)]
    · rw [if_neg (by omega)] at c
      rw [if_pos f2] at o
      have g1 := c.get (room := 37) h.calm.1 (hc _).1 (hc _).2 (by omega) (by omega) (by have := h.short; omega) (by omega) (by omega)
      have q1 : G1 = (gen, last, true) := e1.symm.trans g1
      have b0 := below_get (crc := crc) (room := 37) h.calm.1 o
      rw [hl, q1]
      have hlt : (if G0.2.2 = true ∧ G0.1 ≤ 2147483647 ∧ 0 < G0.1 then G0 else ((0 : Int), ([] : List Int), false)).1 < gen := by
        rcases b0 with g | ⟨_, g2, g3, _⟩
        · have q0 : G0 = (0, [], false) := e0.symm.trans g
          rw [q0]
          show (0 : Int) < gen
          omega
        · have e0' : get crc d ((0 : Nat) : Int) 37 = G0 := e0
          rw [e0'] at g2
          split
          · omega
          · show (0 : Int) < gen
            omega
      rw [if_pos ⟨rfl, by show gen ≤ _; omega, hlt⟩]
/-- Behind a save of the next generation, crash or none: it is the last, or the one ahead of it is as it was. -/
theorem kept_save {crc : List Int → Int} {d : DS} {gen : Int} {last : List Int} (h : Kept crc d gen last) (hg : gen < 20) (armed : Bool) (at_ : Int) (left : List Int) (b : List Int) (hb : b.length ≤ 300) (hbb : Bytes b) (d0 : DS) (hd0 : d0 = { d with armed := armed, at_ := at_, left := left }) :
    ∃ e E, save crc d0 (gen + 1) b = (e, E) ∧ ((E = 0 ∧ Kept crc e.restart (gen + 1) b) ∨ (E = 5 ∧ Kept crc e.restart gen last) ∨ (E = 5 ∧ Kept crc e.restart (gen + 1) b)) := by
  have hlo := h.lo
  have hlen := h.len
  have hr : d0.room = 37 := room100 (by rw [hd0]; exact h.len)
  have hl0 : d0.S.length = 100 := by rw [hd0]; exact h.len
  have hS0 : d0.S = d.S := by rw [hd0]
  have hn : need b.length ≤ 20 := by unfold need; omega
  have hn1 : 1 ≤ need b.length := by unfold need; omega
  have hall0 : d0.AllB := by rw [hd0]; exact h.all
  have hP0 : d0.P = [] := by rw [hd0]; exact h.calm.1
  have hdn0 : d0.down = false := by rw [hd0]; exact h.calm.2.1
  obtain ⟨a, ha⟩ : ∃ a, slotAt d0 (gen + 1) = a := ⟨_, rfl⟩
  have haq : slotAt d (gen + 1) = a := by rw [← ha]; unfold slotAt room; rw [hS0]
  have hca : ∀ e : DS, e.S.length = 100 → ∀ g, slotAt e g = slotAt d g := fun e he g => by unfold slotAt room; rw [he, h.len]
  have hal : a ≤ 37 := by rw [← hr, ← ha]; exact slotAt_le _ _
  obtain ⟨c, hcq⟩ : ∃ c, slotAt d gen = c := ⟨_, rfl⟩
  have hac : (a = 0 ∧ c = 37) ∨ (a = 37 ∧ c = 0) := by
    rw [slotAt100 h.len] at haq hcq
    rcases slot_flip gen with ⟨f1, f2⟩ | ⟨f1, f2⟩
    · rw [if_pos f1] at hcq
      rw [if_neg (by omega)] at haq
      omega
    · rw [if_neg (by omega)] at hcq
      rw [if_pos f2] at haq
      omega
  have hnl : need last.length ≤ 20 := by have := h.short; unfold need; omega
  have ho := h.other
  rw [haq] at ho
  -- the slot of generation gen is not touched
  have other : ∀ e : DS, Alike d.S e.S a (a + need b.length) → e.restart.Calm → e.restart.AllB → (Below4 (e.S.getD a []) (max gen 1) → Kept crc e.restart gen last) := fun e he hc hab hb4 => by
    have hel : e.S.length = 100 := he.1.trans h.len
    refine ⟨hc, hel, h.lo, h.hi, hab, h.short, fun hp => ?_, fun hz => ⟨(h.cur0 hz).1, ?_⟩, ?_⟩
    · rw [hca e.restart hel, hcq]
      have := h.cur hp
      rw [hcq] at this
      exact Lies.away (e := e.restart) this he (by omega)
    · rw [hca e.restart hel, hcq]
      have := (h.cur0 hz).2
      rw [hcq] at this
      rw [show e.restart.S.getD c [] = d.S.getD c [] from he.2 c (by omega)]
      exact this
    · rw [hca e.restart hel, haq]
      exact hb4
  have whole : ∀ e : DS, Alike d.S e.S a (a + need b.length) → e.restart.Calm → e.restart.AllB → Lies crc e a (gen + 1) b → Kept crc e.restart (gen + 1) b := fun e he hc hab hli => by
    have hel : e.S.length = 100 := he.1.trans h.len
    refine ⟨hc, hel, by omega, by omega, hab, hb, fun _ => ?_, fun hz => by omega, ?_⟩
    · rw [hca e.restart hel, haq]
      exact hli
    · have h2 : slotAt d (gen + 1 + 1) = c := by
        rw [← hcq, slotAt100 h.len, slotAt100 h.len]
        have : (gen + 1 + 1) % 2 = gen % 2 := by omega
        rw [this]
      rw [hca e.restart hel, h2, show e.restart.S.getD c [] = d.S.getD c [] from he.2 c (by omega)]
      by_cases hz : gen = 0
      · have := (h.cur0 hz).2
        rw [hcq] at this
        exact this.mono (by omega)
      · have := (h.cur (by omega)).1
        rw [hcq] at this
        rw [this]
        exact below_head (by omega) (by omega) (by omega)
  have hsv : save crc d0 (gen + 1) b = if (puth d0 (a : Int) zeros16).2 = 0 then put crc (puth d0 (a : Int) zeros16).1 (a : Int) (d0.room : Int) (gen + 1) b else puth d0 (a : Int) zeros16 := by
    unfold save
    rw [if_neg (by omega), if_neg (by omega), slotAt_eq, ha]
  have hall : (save crc d0 (gen + 1) b).1.AllB := save_bytes hall0 _ hbb
  obtain ⟨r, hrq⟩ : ∃ r, save crc d0 (gen + 1) b = r := ⟨_, rfl⟩
  rw [hrq] at hall
  refine ⟨r.1, r.2, hrq, ?_⟩
  obtain ⟨q1, q2, q3, q4, q5, q6⟩ := puth_res d0 hdn0 hP0 a zeros16 zeros16_len (by omega)
  obtain ⟨p, hp⟩ : ∃ p, puth d0 (a : Int) zeros16 = p := ⟨_, rfl⟩
  rw [hp] at q1 q2 q3 q4 q5 q6 hsv
  rw [hS0] at q5
  rw [hrq] at hsv
  have hm1 : 0 < max gen 1 := by omega
  rcases q6 with ⟨c1, c2, c3⟩ | ⟨c0, c1, c2, n, c3, c4⟩
  · rw [if_pos c1] at hsv
    have hz : p.1.S.getD a [] = zeros16 := c3
    obtain ⟨r1, r2, r3, r4, r5, r6⟩ := put_res crc p.1 c2 q1 a d0.room (gen + 1) b (by omega) (by have := q5.1; omega)
    rw [← hsv] at r1 r2 r3 r4 r5 r6
    have hA : Alike d.S r.1.S a (a + need b.length) := (q5.mono (Nat.le_refl _) (by omega)).trans r5
    have hcalm : r.1.restart.Calm := restart_calm _
    rcases r6 with ⟨k1, k2, k3, k4⟩ | ⟨k0, k1, k2, k3⟩
    · exact .inl ⟨k1, whole _ hA hcalm (restart_bytes hall) ⟨k3, k4⟩⟩
    · rcases k3 with k3 | ⟨⟨n, kn, k3⟩, k4⟩
      · refine .inr (.inl ⟨k1, other _ hA hcalm (restart_bytes hall) ?_⟩)
        rw [k3, hz]
        exact below_zeros hm1
      · rw [hz] at k3
        rcases below_put (crc := crc) (t := gen + 1) (m := max gen 1) (b := b) (by omega) (by omega) hm1 n kn with k | k
        · refine .inr (.inl ⟨k1, other _ hA hcalm (restart_bytes hall) ?_⟩)
          rw [k3]
          exact k
        · exact .inr (.inr ⟨k1, whole _ hA hcalm (restart_bytes hall) ⟨k3.trans k, k4⟩⟩)
  · rw [if_neg (by omega)] at hsv
    refine .inr (.inl ⟨by rw [hsv]; exact c1, other _ (by rw [hsv]; exact q5.mono (Nat.le_refl _) (by omega)) (restart_calm _) (restart_bytes hall) ?_⟩)
    rw [hsv, c4, hS0]
    exact below_clear ho hm1 n c3
end DS
end Go.Proofs.YtkicekddkgehoaaW.Dk
namespace Go.Proofs.Ytkicekddkgehoaa.Hnd
open Go.RowKit Go.Proofs.Ytkicekddkgehoaa.QSlotLast Go.Proofs.YtkicekddkgehoaaW.PrintWords Go.Proofs.YtkicekddkgehoaaW.PrintLast Go.Proofs.YtkicekddkgehoaaW.Dk Go.Shelf
end Go.Proofs.Ytkicekddkgehoaa.Hnd
