/- Contracts of the calls, by hand. -/
import Derived.Test.YtkicekddkgehoaaGreatDoorQMarkPlaysx
import Derived.Test.YtkicekddkgehoaaGreatDoorDkB
import Derived.RangeFuncNested
import Derived.RangeFuncBound
import Derived.RangeFuncCalls
import Derived.RangeFuncLeaves
import Derived.RangeFuncBox
import Derived.Shelf.Abstract
import Derived.Shelf.RegionOpen
import Derived.OwnWalkIn
import Derived.TacticsInMore
import Derived.LoopNIn
import Derived.LoopIn
import Derived.Sort.QuietIn
import Derived.Sort.CutIn
import Derived.Stop.RegionWithIn
import Derived.StillTailTactics
namespace Go.Proofs.YtkicekddkgehoaaGreatDoor.Dsk
open Go.RowKit Go.Proofs.YtkicekddkgehoaaGreatDoor.QMarkPlays Go.Proofs.YtkicekddkgehoaaGreatDoorW.PrintWords Go.Proofs.YtkicekddkgehoaaGreatDoorW.PrintLast Go.Proofs.YtkicekddkgehoaaGreatDoorW.Dk Go.Shelf
set_option linter.unusedVariables false
set_option linter.unusedSimpArgs false
set_option linter.unusedVariables false
set_option linter.unusedSimpArgs false

attribute [local go_sem] Oper.semAt_some
/-! The document's disk: the same in plain words, another struct in memory. -/
theorem C_blkI {k : IntKind} {w W : World} {A : Option Addr} {n : Nat} {b : List Int} (h : (Kd.int k).C w A n b) (hm : ∀ ad, A = some ad → 0 < n → W.heap[ad.block]? = w.heap[ad.block]?) : (Kd.int k).C W A n b :=
  ⟨h.1, h.2.1, fun hp => by
    obtain ⟨ad, e, hc⟩ := h.2.2 hp
    refine ⟨ad, e, fun j p hj => ?_⟩
    obtain ⟨c, g1, g2, g3⟩ := hc j p hj
    exact ⟨c, g1, g2, fun i u hu => (cell_of_heap (by rw [add_block]; exact hm ad e hp)).trans (g3 i u hu)⟩⟩
def LeftC (w : World) (base : Nat) (A : Option Addr) (l : List Int) : Prop := (Kd.int .i64).C w A l.length l ∧ ∀ ad, A = some ad → 0 < l.length → ad.block < base
def RIn (w : World) (base : Nat) (ok : Nat → Prop) (vS vP : Value) (S : List (List Int)) (P : List (Int × List Int)) (ss : List Nat) : Prop :=
  DiskIn w base ok vS (.slice none 0 0) (.slice none 0 0) S [] [] ss ∧ kW.R 109 w base (fun k => ok k ∧ k ∉ ss) vP P
namespace RIn
variable {w w1 : World} {base : Nat} {ok ok' : Nat → Prop} {vS vP : Value} {S : List (List Int)} {P : List (Int × List Int)} {ss : List Nat}
theorem mono (h : RIn w base ok vS vP S P ss) (hs : ∀ k, ok k → ok' k) : RIn w base ok' vS vP S P ss := ⟨h.1.mono hs, Kd.R_mono h.2 (fun k hk => ⟨hs k hk.1, hk.2⟩)⟩
theorem step (h : RIn w base ok vS vP S P ss) (hm : ∀ k, ok k → k < w.heap.size → w1.heap[k]? = w.heap[k]?) : RIn w1 base ok vS vP S P ss := ⟨h.1.step hm, Kd.R_step h.2 (fun k hk => hm k hk.1)⟩
theorem bound (h : RIn w base ok vS vP S P ss) : RIn w base (fun k => ok k ∧ DiskIn.Lies w base k) vS vP S P ss :=
  ⟨h.1.bound, Kd.R_mono (Kd.R_bound h.2) (fun k hk => ⟨⟨hk.1.1, hk.2.1, hk.2.2.1, by obtain ⟨_, _, _, q, _, c, hc⟩ := hk; exact ⟨c, q, _, hc⟩⟩, hk.1.2⟩)⟩
end RIn
def rcells (vS vP : Value) (A : Option Addr) (c : Nat) (d : DS) : Array Value := #[vS, vP, .int .i64 d.at_, .slice A d.left.length c, .int .i64 d.N, .bool d.armed, .bool d.down]
/-- The document's disk at g. -/
def RAt (w : World) (base : Nat) (ok : Nat → Prop) (g : Nat) (d : DS) : Prop :=
  ∃ (vS vP : Value) (A : Option Addr) (c : Nat) (ss : List Nat), w.heap[g]? = some (.cells (rcells vS vP A c d) 55 (0, 0)) ∧ base ≤ g ∧ ok g ∧ RIn w base (fun k => ok k ∧ k ≠ g) vS vP d.S d.P ss ∧ d.Ok ∧ d.left.length ≤ c ∧ LeftC w base A d.left
namespace RAt
variable {w w1 : World} {base : Nat} {ok ok' : Nat → Prop} {g : Nat} {d : DS}
theorem mono (h : RAt w base ok g d) (hs : ∀ k, ok k → ok' k) : RAt w base ok' g d := by
  obtain ⟨vS, vP, A, c, ss, h1, h2, h3, h4, h5, h6, h7⟩ := h
  exact ⟨vS, vP, A, c, ss, h1, h2, hs _ h3, h4.mono (fun k hk => ⟨hs k hk.1, hk.2⟩), h5, h6, h7⟩
theorem step (h : RAt w base ok g d) (hm : ∀ k, ok k → k < w.heap.size → w1.heap[k]? = w.heap[k]?) (hb : ∀ k, k < base → w1.heap[k]? = w.heap[k]?) : RAt w1 base ok g d := by
  obtain ⟨vS, vP, A, c, ss, h1, h2, h3, h4, h5, h6, h7⟩ := h
  exact ⟨vS, vP, A, c, ss, (hm g h3 (Array.getElem?_eq_some_iff.1 h1).1).trans h1, h2, h3, h4.step (fun k hk => hm k hk.1), h5, h6, C_blkI h7.1 (fun ad e hp => hb _ (h7.2 ad e hp)), h7.2⟩
theorem bound (h : RAt w base ok g d) : RAt w base (fun k => ok k ∧ DiskIn.Lies w base k) g d := by
  obtain ⟨vS, vP, A, c, ss, h1, h2, h3, h4, h5, h6, h7⟩ := h
  exact ⟨vS, vP, A, c, ss, h1, h2, ⟨h3, h2, (Array.getElem?_eq_some_iff.1 h1).1, _, _, _, h1⟩, h4.bound.mono (fun k hk => ⟨⟨hk.1.1, hk.2⟩, hk.1.2⟩), h5, h6, h7⟩
theorem isOk (h : RAt w base ok g d) : d.Ok := by obtain ⟨_, _, _, _, _, _, _, _, _, h5, _⟩ := h; exact h5
theorem base_le (h : RAt w base ok g d) : base ≤ g := by obtain ⟨_, _, _, _, _, _, h2, _⟩ := h; exact h2
theorem lt (h : RAt w base ok g d) : g < w.heap.size := by obtain ⟨_, _, _, _, _, h1, _⟩ := h; exact (Array.getElem?_eq_some_iff.1 h1).1
theorem below (h : RAt w base ok g d) (hb : Below w.heap.size w w1) : RAt w1 base ok g d := h.step (fun k _ hk => hb.block k hk) (fun k hk => hb.block k (by have := h.base_le; have := h.lt; omega))
end RAt
theorem r_slice {w : World} {base : Nat} {ok : Nat → Prop} {vS vP : Value} {S : List (List Int)} {P : List (Int × List Int)} {ss : List Nat} (h : RIn w base ok vS vP S P ss) : ∃ A c, vS = .slice A S.length c := slice_of h.1
theorem r_room {w : World} {base g : Nat} {ok : Nat → Prop} {d : DS} (h : RAt w base ok g d) (hS : d.S.length ≤ 4000) : Calls Tryz.prog 17 #[.pointer (some ⟨g, 0, none⟩)] w fun e w' => e = .returned (.int .i64 (d.room : Int)) ∧ w = w' := by
  obtain ⟨vS, vP, A, c, ss, h1, h2, h3, h4, h5, h6, h7⟩ := h
  obtain ⟨AS, cS, hv⟩ := r_slice h4
  subst hv
  have hc0 : w.cell? ⟨g, 0, none⟩ = some (.slice AS d.S.length cS) := (blk_cell h1 0).trans rfl
  have hp0 : (0 : Int) ≤ (d.S.length : Int) := by omega
  have hp1 : (d.S.length : Int) ≤ 4000 := by omega
  have HR : Aside0 ((3 * (d.S.length : Int)) / 8 = (d.room : Int)) := ⟨by unfold DS.room; omega⟩
  clear h1 h2 h3 h4 h5 h6 h7 hS
  go_enter Tryz.func17, Tryz.ntmps17
  go_wp2
  go_ret
  exact ⟨ret_i HR.out, rfl⟩
set_option maxHeartbeats 1000000 in
theorem r_restart {w : World} {base g : Nat} {ok : Nat → Prop} {d : DS} (h : RAt w base ok g d) (hob : ∀ k, ok k → base ≤ k) :
    Calls Tryz.prog 12 #[.pointer (some ⟨g, 0, none⟩)] w fun e w' => e = .returned (.tuple #[]) ∧ RAt w' base ok g d.restart ∧ KeptB ok w w' := by
  obtain ⟨vS, vP, A, c, ss, h1, h2, h3, h4, h5, h6, h7⟩ := h
  have hc1 : w.cell? ⟨g, 1, none⟩ = some vP := (blk_cell h1 1).trans rfl
  have hc4 : w.cell? ⟨g, 4, none⟩ = some (.int .i64 d.N) := (blk_cell h1 4).trans rfl
  have hc5 : w.cell? ⟨g, 5, none⟩ = some (.bool d.armed) := (blk_cell h1 5).trans rfl
  have hc6 : w.cell? ⟨g, 6, none⟩ = some (.bool d.down) := (blk_cell h1 6).trans rfl
  have hf : ∀ i, w.frozen? ⟨g, i, none⟩ = false := fun i => blk_frozen h1 i
  have hf1 := hf 1
  have hf4 := hf 4
  have hf5 := hf 5
  have hf6 := hf 6
  have HF : Aside0 (RAt ((((w.setCell ⟨g, 1, none⟩ (.slice none 0 0)).setCell ⟨g, 5, none⟩ (.bool false)).setCell ⟨g, 6, none⟩ (.bool false)).setCell ⟨g, 4, none⟩ (.int .i64 0)) base ok g d.restart ∧ KeptB ok w ((((w.setCell ⟨g, 1, none⟩ (.slice none 0 0)).setCell ⟨g, 5, none⟩ (.bool false)).setCell ⟨g, 6, none⟩ (.bool false)).setCell ⟨g, 4, none⟩ (.int .i64 0))) := by
    have hst : ∀ q, q ≠ g → ((((w.setCell ⟨g, 1, none⟩ (.slice none 0 0)).setCell ⟨g, 5, none⟩ (.bool false)).setCell ⟨g, 6, none⟩ (.bool false)).setCell ⟨g, 4, none⟩ (.int .i64 0)).heap[q]? = w.heap[q]? := fun q hq => (((Below.heap_setCell _ _ _ _ hq).trans (Below.heap_setCell _ _ _ _ hq)).trans (Below.heap_setCell _ _ _ _ hq)).trans (Below.heap_setCell _ _ _ _ hq)
    refine ⟨⟨vS, .slice none 0 0, A, c, ss, blk_put (blk_put (blk_put (blk_put h1 1 _ rfl) 5 _ rfl) 6 _ rfl) 4 _ rfl, h2, h3, ⟨h4.1.step (fun q hq _ => hst q hq.2), Kd.R_nil _ _ _ _ _⟩, DS.restart_ok h5, h6, C_blkI h7.1 (fun ad e hp => hst _ (by have := h7.2 ad e hp; omega)), h7.2⟩, ((((KeptB.refl ok w).setCell (.inl h3) _).setCell (.inl h3) _).setCell (.inl h3) _).setCell (.inl h3) _⟩
  clear h1 h2 h3 h4 h5 h6 h7 hf
  go_enter Tryz.func12, Tryz.ntmps12
  go_wp2
  go_end0
  exact ⟨rfl, HF.out⟩
set_option maxHeartbeats 1000000 in
theorem r_arm {w : World} {base g : Nat} {ok : Nat → Prop} {d : DS} (h : RAt w base ok g d) (a : Int) (A : Option Addr) (c : Nat) (l : List Int) (hl : l.length ≤ c) (hr : LeftC w base A l) :
    Calls Tryz.prog 8 #[.pointer (some ⟨g, 0, none⟩), .agg #[.int .i64 a, .slice A l.length c]] w fun e w' => e = .returned (.tuple #[]) ∧ RAt w' base ok g (d.arm a l) ∧ KeptB ok w w' := by
  have hlt := h.lt
  obtain ⟨vS, vP, A1, c1, ss, h1, h2, h3, h4, h5, h6, h7⟩ := h
  have HB := below_alloc (Below.refl w.heap.size w) (.cells #[.int .i64 a, .slice A l.length c] 26)
  obtain ⟨W, hW⟩ : ∃ W, W = w.alloc (.cells #[.int .i64 a, .slice A l.length c] 26) := ⟨_, rfl⟩
  have hx := blk_new w (.cells #[.int .i64 a, .slice A l.length c] 26)
  rw [← hW] at HB hx
  have g1 := blk_below h1 HB
  have g4 := h4.step (w1 := W) (fun k _ hk => HB.block k hk)
  have hc2 : W.cell? ⟨g, 2, none⟩ = some (.int .i64 d.at_) := (blk_cell g1 2).trans rfl
  have hc3 : W.cell? ⟨g, 3, none⟩ = some (.slice A1 d.left.length c1) := (blk_cell g1 3).trans rfl
  have hc5 : W.cell? ⟨g, 5, none⟩ = some (.bool d.armed) := (blk_cell g1 5).trans rfl
  have hx0 : W.cell? ⟨w.heap.size, 0, none⟩ = some (.int .i64 a) := (blk_cell hx 0).trans rfl
  have hx1 : W.cell? ⟨w.heap.size, 1, none⟩ = some (.slice A l.length c) := (blk_cell hx 1).trans rfl
  have hf2 := blk_frozen g1 2
  have hf3 := blk_frozen g1 3
  have hf5 := blk_frozen g1 5
  have HF : Aside0 (RAt (((W.setCell ⟨g, 2, none⟩ (.int .i64 a)).setCell ⟨g, 3, none⟩ (.slice A l.length c)).setCell ⟨g, 5, none⟩ (.bool true)) base ok g (d.arm a l) ∧ KeptB ok w (((W.setCell ⟨g, 2, none⟩ (.int .i64 a)).setCell ⟨g, 3, none⟩ (.slice A l.length c)).setCell ⟨g, 5, none⟩ (.bool true))) := by
    have hst : ∀ q, q ≠ g → (((W.setCell ⟨g, 2, none⟩ (.int .i64 a)).setCell ⟨g, 3, none⟩ (.slice A l.length c)).setCell ⟨g, 5, none⟩ (.bool true)).heap[q]? = W.heap[q]? := fun q hq => ((Below.heap_setCell _ _ _ _ hq).trans (Below.heap_setCell _ _ _ _ hq)).trans (Below.heap_setCell _ _ _ _ hq)
    refine ⟨⟨vS, vP, A, c, ss, blk_put (blk_put (blk_put g1 2 _ rfl) 3 _ rfl) 5 _ rfl, h2, h3, g4.step (fun q hq _ => hst q hq.2), DS.arm_ok h5 _ _, hl, C_blkI hr.1 (fun ad e hp => ?_), hr.2⟩, ((((KeptB.refl ok w).after HB).setCell (.inl h3) _).setCell (.inl h3) _).setCell (.inl h3) _⟩
    have := hr.2 ad e hp
    exact (hst _ (by omega)).trans (HB.block _ (by omega))
  clear h1 h2 h3 h4 h5 h6 h7 g1 g4 hr hl hlt HB hx
  go_enter Tryz.func8, Tryz.ntmps8
  go_upto_region 1 with (fail)
  rw [← hW]
  clear hW
  go_wp2
  go_end0
  exact ⟨rfl, HF.out⟩

attribute [local go_sem] Oper.semAt_some
set_option maxHeartbeats 2000000 in
theorem rcrash_not {w : World} {base g : Nat} {ok : Nat → Prop} {d : DS} (h : RAt w base ok g d) (hn : d.bad = false) :
    Calls Tryz.prog 71 #[.pointer (some ⟨g, 0, none⟩)] w fun e w' => e = .returned (.bool false) ∧ RAt w' base ok g d ∧ Below w.heap.size w w' := by
  have HH := Aside0.mk h
  obtain ⟨vS, vP, A, c, ss, h1, h2, h3, h4, h5, h6, h7⟩ := h
  have hc2 : w.cell? ⟨g, 2, none⟩ = some (.int .i64 d.at_) := (blk_cell h1 2).trans rfl
  have hc4 : w.cell? ⟨g, 4, none⟩ = some (.int .i64 d.N) := (blk_cell h1 4).trans rfl
  have hc5 : w.cell? ⟨g, 5, none⟩ = some (.bool d.armed) := (blk_cell h1 5).trans rfl
  cases ha : d.armed with
  | false =>
    rw [ha] at hc5
    clear h1 h2 h3 h4 h5 h6 h7 hn ha
    go_enter Tryz.func71, Tryz.ntmps71
    go_wp2_with fail
    go_quiet (fail)
    go_wp2
    go_ret
    exact ⟨rfl, HH.out.below (pw_below_drewN (Below.refl _ _) _), pw_below_drewN (Below.refl _ _) _⟩
  | true =>
    rw [ha] at hc5
    have hlt : d.N < d.at_ := by
      unfold DS.bad at hn
      rw [ha, Bool.true_and, decide_eq_false_iff_not] at hn
      omega
    have hd : decide (d.N < d.at_) = true := decide_eq_true hlt
    clear h1 h2 h3 h4 h5 h6 h7 hn ha
    go_enter Tryz.func71, Tryz.ntmps71
    go_wp2_with fail
    go_quiet (fail)
    go_wp2
    go_ret
    exact ⟨rfl, HH.out.below (pw_below_drewN (Below.refl _ _) _), pw_below_drewN (Below.refl _ _) _⟩
def RCrInv (w wr : World) (base g : Nat) (ok : Nat → Prop) (d : DS) (vS vP : Value) (A : Option Addr) (c : Nat) (ss : List Nat) (k : Nat) (S' : List (List Int)) : Prop :=
  DS.spill d.left S' (d.P.drop k) k = DS.spill d.left d.S d.P 0 ∧ DS.Fit S' (d.P.drop k) ∧ wr.heap[g]? = some (.cells (rcells vS vP A c d) 55 (0, 0)) ∧ RIn wr base (fun k => ok k ∧ k ≠ g) vS vP S' d.P ss ∧ KeptB ok w wr
/-- The first n bytes of what is read are laid over a sector's; the rows that are pending stay. -/
theorem rcopied {w : World} {base : Nat} {ok : Nat → Prop} {vS vP : Value} {S : List (List Int)} {P : List (Int × List Int)} {ss : List Nat} (h : RIn w base ok vS vP S P ss) (hS : ∀ s ∈ S, s.length = 16) (i k n sc : Nat) (hi : i < S.length) (hk : ss[i]? = some k)
    (ad : Addr) (b : List Int) (hb : b.length = 16) (hn : n ≤ 16) (hC : (Kd.int .u8).C w (some ad) b.length b) (ty : TypeId) :
    (Builtin.copy_ #[52, 52] ty #[secV k, .slice (some ad) n sc]).run Tryz.prog w = .ok (goInt n) (w.setCells k 0 ((b.map (Value.int .u8)).take n)) ∧
      RIn (w.setCells k 0 ((b.map (Value.int .u8)).take n)) base ok vS vP (S.set i (DS.lay b (S.getD i []) n)) P ss ∧ ok k ∧ base ≤ k ∧ k < w.heap.size := by
  obtain ⟨h1, h2, h3, h4, h5⟩ := copied h.1 hS i k n sc hi hk ad b hb hn hC ty
  exact ⟨h1, ⟨h2, Kd.R_step h.2 (fun q hq _ => setCells_far _ _ q (fun e => hq.2 (e ▸ List.mem_of_getElem? hk)))⟩, h3, h4, h5⟩
set_option maxHeartbeats 4000000 in
set_option maxRecDepth 100000 in
theorem rcrash_bad {w : World} {base g : Nat} {ok : Nat → Prop} {d : DS} (h : RAt w base ok g d) (hob : ∀ k, ok k → base ≤ k) (hn : d.bad = true) :
    Calls Tryz.prog 71 #[.pointer (some ⟨g, 0, none⟩)] w fun e w' => e = .returned (.bool true) ∧ RAt w' base ok g d.crashed ∧ KeptB ok w w' := by
  have hgl := h.lt
  obtain ⟨vS, vP, A, c, ss, h1, h2, h3, h4, h5, h6, h7⟩ := h
  obtain ⟨AP, cP, rfl, hlc, hC⟩ := Kd.R_reads h4.2
  have hc1 : w.cell? ⟨g, 1, none⟩ = some (.slice AP d.P.length cP) := (blk_cell h1 1).trans rfl
  have hc2 : w.cell? ⟨g, 2, none⟩ = some (.int .i64 d.at_) := (blk_cell h1 2).trans rfl
  have hc4 : w.cell? ⟨g, 4, none⟩ = some (.int .i64 d.N) := (blk_cell h1 4).trans rfl
  have hc5 : w.cell? ⟨g, 5, none⟩ = some (.bool true) := by
    unfold DS.bad at hn
    rw [Bool.and_eq_true] at hn
    exact (blk_cell h1 5).trans (by rw [← hn.1]; rfl)
  have hd : decide (d.N < d.at_) = false := by
    unfold DS.bad at hn
    rw [Bool.and_eq_true, decide_eq_true_eq] at hn
    exact decide_eq_false (by omega)
  have H2 := Aside0.mk h2
  have H3 := Aside0.mk h3
  have H6 := Aside0.mk h6
  have H7 := Aside0.mk h7
  have HI : Aside0 (RCrInv w w base g ok d vS (.slice AP d.P.length cP) A c ss 0 d.S) := ⟨rfl, h5, h1, h4, KeptB.refl _ _⟩
  have H5 := Aside0.mk h5
  clear h1 h2 h3 h4 h5 h6 h7 hn hlc hC
  go_enter Tryz.func71, Tryz.ntmps71
  go_wp2_with fail
  go_quiet (fail)
  go_wp2
  go_loopw [3] (fun u3 wr => ∃ (k : Nat) (S' : List (List Int)), u3 = .int .i64 (k : Int) ∧ Aside0 (k ≤ d.P.length) ∧ Aside0 (RCrInv w wr base g ok d vS (.slice AP d.P.length cP) A c ss k S')) (fun u3 _ => d.P.length + 1 - (intOf u3).toNat)
  case atStart => exact ⟨0, d.S, rfl, ⟨Nat.zero_le _⟩, ⟨HI.out.1, HI.out.2.1, HI.out.2.2.1, HI.out.2.2.2.1.step (fun k _ _ => rfl), HI.out.2.2.2.2.drewN _⟩⟩
  case round =>
    clear hc1 hc2 hc4 hc5 HI
    obtain ⟨k, S', rfl, HK, HI⟩ := hrel
    have hg1 : wr.cell? ⟨g, 1, none⟩ = some (.slice AP d.P.length cP) := (blk_cell HI.out.2.2.1 1).trans rfl
    by_cases hlt : k < d.P.length
    · have hp : d.P.drop k = d.P.getD k (0, []) :: d.P.drop (k + 1) := by
        rw [List.drop_eq_getElem_cons hlt, List.getD_eq_getElem?_getD, List.getElem?_eq_getElem hlt]
        rfl
      obtain ⟨i1, i2, i3, i4, i5⟩ := HI.out
      rw [hp] at i1 i2
      obtain ⟨f1, f2, f3⟩ := i2.head
      obtain ⟨A', c', hv, hlc, hC⟩ := Kd.R_reads i4.2
      injection hv with hA hl0 hc0
      subst hA hc0
      clear hl0
      obtain ⟨ad, ad', cb, rfl, hx0, hx1, hcb, hCb⟩ := write_at hC k hlt f3
      obtain ⟨i, hi⟩ : ∃ i : Nat, (d.P.getD k (0, [])).1 = (i : Int) := ⟨(d.P.getD k (0, [])).1.toNat, by omega⟩
      have hiS : i < S'.length := by omega
      obtain ⟨kq, q, cap, hkq, rfl, hq, hsec⟩ := sec_value i4.1 i hiS
      generalize hpp : d.P.getD k (0, []) = p at *
      rw [hi] at hx0
      have hg0 : wr.cell? ⟨g, 0, none⟩ = some (.slice (some ⟨q, 0, none⟩) S'.length cap) := (blk_cell i3 0).trans rfl
      have hg3 : wr.cell? ⟨g, 3, none⟩ = some (.slice A d.left.length c) := (blk_cell i3 3).trans rfl
      have hd : decide ((k : Int) < (d.P.length : Int)) = true := decide_eq_true (by omega)
      have hd' : decide (k < d.P.length) = true := decide_eq_true hlt
      have hp8 : (k : Int) + 1 ≤ 9223372036854775807 := by have := hC.2.1; omega
      have hp1 : (0 : Int) ≤ (k : Int) := by omega
      have hp2 : (k : Int) < (d.P.length : Int) := by omega
      have hp3 : (0 : Int) ≤ (i : Int) := by omega
      have hp4 : (i : Int) < (S'.length : Int) := by omega
      have hk16 := DS.keepN_le d.left k
      have hp5 : (0 : Int) ≤ (DS.keepN d.left k : Int) := by omega
      have hp6 : (DS.keepN d.left k : Int) ≤ (16 : Int) := by omega
      have hp7 : (DS.keepN d.left k : Int) ≤ (cb : Int) := by omega
      have HSP : Aside0 (DS.spill d.left (S'.set i (DS.lay p.2 (S'.getD i []) (DS.keepN d.left k))) (d.P.drop (k + 1)) (k + 1) = DS.spill d.left d.S d.P 0) := ⟨by rw [← i1, DS.spill, hi, Int.toNat_natCast]⟩
      have HFT : Aside0 (DS.Fit (S'.set i (DS.lay p.2 (S'.getD i []) (DS.keepN d.left k))) (d.P.drop (k + 1))) := ⟨by have := i2.laid (DS.keepN d.left k) hk16; rwa [hi, Int.toNat_natCast] at this⟩
      have hwrl : g < wr.heap.size := (Array.getElem?_eq_some_iff.1 i3).1
      have hLC : (Kd.int .i64).C wr A d.left.length d.left := C_blkI H7.out.1 (fun a e hp => by
        have h0 := H7.out.2 a e hp
        exact i5.block a.block (by have := H2.out; omega) (fun ho => by have := hob _ ho; omega))
      obtain ⟨hcp, J5, hokk, hbk, hltk⟩ := rcopied (w := wr.drew) (i4.step (fun _ _ _ => rfl)) i2.1 i kq (DS.keepN d.left k) cb hiS hkq ad' p.2 f3 hk16 (Kd.C_drew hCb) 3
      unfold secV at hcp
      have HD := Aside0.mk (i5.then_ (KeptB.setCells ((KeptB.refl ok wr).drew) (.inl hokk.1) (vs := (p.2.map (Value.int .u8)).take (DS.keepN d.left k)) (o := 0)) (fun _ hk => .inl hk))
      have J3d : (wr.drew.setCells kq 0 ((p.2.map (Value.int .u8)).take (DS.keepN d.left k))).heap[g]? = some (.cells (rcells (.slice (some ⟨q, 0, none⟩) S'.length cap) (.slice (some ad) d.P.length cP) A c d) 55 (0, 0)) := (setCells_far _ _ g (Ne.symm hokk.2)).trans i3
      have HINV : Aside0 (RCrInv w (wr.drew.setCells kq 0 ((p.2.map (Value.int .u8)).take (DS.keepN d.left k))) base g ok d (.slice (some ⟨q, 0, none⟩) S'.length cap) (.slice (some ad) d.P.length cP) A c ss (k + 1) (S'.set i (DS.lay p.2 (S'.getD i []) (DS.keepN d.left k)))) := ⟨HSP.out, HFT.out, J3d, J5, HD.out⟩
      have hkn : DS.keepN d.left k = (min (max (d.left.getD k 0) 0) 16).toNat := rfl
      have HKN := Aside0.mk hkn
      have HLC := Aside0.mk hLC
      have HLT := Aside0.mk hlt
      clear i1 i2 i3 i4 i5 f1 f2 f3 hlc hC hkq hCb hsec hpp hp HI hi J5 J3d hokk hbk hltk HD hwrl hLC HSP HFT hkn
      by_cases hkl : k < d.left.length
      · have l1 : decide ((k : Int) < (d.left.length : Int)) = true := decide_eq_true (by omega)
        have l2 : decide (k < d.left.length) = true := decide_eq_true hkl
        obtain ⟨adl, e0, hxl⟩ := Kd.at_int HLC.out (k : Int) (by omega) (by omega)
        subst e0
        rw [Int.toNat_natCast] at hxl
        have hp9 : (k : Int) < (d.left.length : Int) := by omega
        have er : rd d.left (k : Int) = d.left.getD k 0 := rfl
        rw [er] at hxl
        generalize d.left.getD k 0 = x at hxl HKN
        generalize DS.keepN d.left k = kn at *
        clear hkl er
        go_upto_region 9 with (fail)
        have em : (if (16 : Int) < (if x < 0 then 0 else x) then 16 else if x < 0 then 0 else x) = (kn : Int) := by
          have := HKN.out
          split <;> split <;> omega
        simp only [em]
        clear em
        go_still_tail 24, (by kernel_rfl)
        change wpList _ _ _ _ _ wr.drew
        generalize wr.drew.setCells kq 0 _ = W2 at hcp HINV
        generalize wr.drew = w2 at hcp ⊢
        clear hx0 hx1 hq hg0 hg1 hg3
        refine Kd.wpList_copy_run w2 rfl (.tmp 63) (.tmp 73) 52 52 rfl _ _ rfl rfl hcp ?_
        simp only [Act.put, List.setIfInBounds_toArray, List.set_cons_zero, List.set_cons_succ]
        clear hcp
        go_wp2
        all_goals exact ⟨⟨k + 1, _, by go_num, ⟨by have := HLT.out; omega⟩, HINV⟩, by have := HLT.out; simp [intOf]; omega⟩
      · have l1 : decide ((k : Int) < (d.left.length : Int)) = false := decide_eq_false (by omega)
        have l2 : decide (k < d.left.length) = false := decide_eq_false hkl
        have hk0 : DS.keepN d.left k = 0 := by rw [HKN.out, List.getD_eq_getElem?_getD, List.getElem?_eq_none (by omega)]; rfl
        rw [hk0] at hcp HINV hp5 hp6 hp7
        clear hkl hk0
        go_upto_region 9 with (fail)
        go_still_tail 24, (by kernel_rfl)
        change wpList _ _ _ _ _ wr.drew
        generalize wr.drew.setCells kq 0 _ = W2 at hcp HINV
        generalize wr.drew = w2 at hcp ⊢
        clear hx0 hx1 hq hg0 hg1 hg3
        refine Kd.wpList_copy_run w2 rfl (.tmp 63) (.tmp 73) 52 52 rfl _ _ rfl rfl hcp ?_
        simp only [Act.put, List.setIfInBounds_toArray, List.set_cons_zero, List.set_cons_succ]
        clear hcp
        go_wp2
        all_goals exact ⟨⟨k + 1, _, by go_num, ⟨by have := HLT.out; omega⟩, HINV⟩, by have := HLT.out; simp [intOf]; omega⟩
    · obtain rfl : k = d.P.length := by have := HK.out; omega
      obtain ⟨i1, i2, i3, i4, i5⟩ := HI.out
      rw [List.drop_of_length_le (Nat.le_refl _), DS.spill] at i1
      subst i1
      have hd : decide ((d.P.length : Int) < (d.P.length : Int)) = false := decide_eq_false (by omega)
      have hd' : decide (d.P.length < d.P.length) = false := decide_eq_false (by omega)
      have hf1 : wr.frozen? ⟨g, 1, none⟩ = false := blk_frozen i3 1
      have hf6 : wr.frozen? ⟨g, 6, none⟩ = false := blk_frozen i3 6
      have hc6 : wr.cell? ⟨g, 6, none⟩ = some (.bool d.down) := (blk_cell i3 6).trans rfl
      have hst : ∀ q, q ≠ g → ((wr.setCell ⟨g, 1, none⟩ (.slice none 0 0)).setCell ⟨g, 6, none⟩ (.bool true)).heap[q]? = wr.heap[q]? := fun q hq => (Below.heap_setCell _ _ _ _ hq).trans (Below.heap_setCell _ _ _ _ hq)
      have hfin : RAt ((wr.setCell ⟨g, 1, none⟩ (.slice none 0 0)).setCell ⟨g, 6, none⟩ (.bool true)) base ok g d.crashed ∧ KeptB ok w ((wr.setCell ⟨g, 1, none⟩ (.slice none 0 0)).setCell ⟨g, 6, none⟩ (.bool true)) := by
        have hk := (i5.setCell (p := ⟨g, 1, none⟩) (.inl H3.out) (.slice none 0 0)).setCell (p := ⟨g, 6, none⟩) (.inl H3.out) (.bool true)
        refine ⟨⟨vS, .slice none 0 0, A, c, ss, blk_put (blk_put i3 1 _ rfl) 6 _ rfl, H2.out, H3.out, ⟨i4.1.step (fun q hq _ => hst q hq.2), Kd.R_nil _ _ _ _ _⟩, DS.crashed_ok H5.out, H6.out, C_blkI H7.out.1 (fun a e hp => ?_), H7.out.2⟩, hk⟩
        have h0 := H7.out.2 a e hp
        exact hk.block a.block (by have := H2.out; have := hgl; omega) (fun ho => by have := hob _ ho; omega)
      have HFIN := Aside0.mk hfin
      clear i2 i3 i4 i5 hlt HI hfin HK hst
      go_wp2
      go_ret
      exact ⟨rfl, HFIN.out⟩
theorem rcrash_any {w : World} {base g : Nat} {ok : Nat → Prop} {d : DS} (h : RAt w base ok g d) (hob : ∀ k, ok k → base ≤ k) :
    Calls Tryz.prog 71 #[.pointer (some ⟨g, 0, none⟩)] w fun e w' => e = .returned (.bool d.bad) ∧ RAt w' base ok g (if d.bad = true then d.crashed else d) ∧ KeptB ok w w' := by
  cases hb : d.bad with
  | false => exact (rcrash_not h hb).mono fun e w' ⟨h1, h2, h3⟩ => ⟨h1, by rw [if_neg (by simp)]; exact h2, KeptB.of_below h3 _⟩
  | true => exact (rcrash_bad h hob hb).mono fun e w' ⟨h1, h2, h3⟩ => ⟨h1, by rw [if_pos rfl]; exact h2, h3⟩

attribute [local go_sem] Oper.semAt_some
theorem rappended {W w3 : World} {base : Nat} {ok : Nat → Prop} {vS vP v1 : Value} {S : List (List Int)} {P P' : List (Int × List Int)} {ss : List Nat} (h : RIn W base ok vS vP S P ss) (hg : W.grownBy w3 vP.ownBlock)
    (hO : kW.R 109 w3 base (fun k => ok k ∧ k ∉ ss) v1 P') : RIn w3 base ok vS v1 S P' ss := by
  obtain ⟨inner, hown⟩ := Kd.R_own h.2
  exact ⟨⟨own_other h.1.1 hg (own_type_ne h.1.1 hown (by decide)), h.1.2.1, h.1.2.2.1.step (fun k hk => hg.block k (h.1.2.2.1.lt hk) (fun e => (h.2.1 k e.symm).2 hk)), h.1.2.2.2.1, h.1.2.2.2.2.1, Kd.R_nil _ _ _ _ _, Kd.R_nil _ _ _ _ _⟩, hO⟩
theorem rinfo : (Tryz.prog.info? 109).map (fun i => (i.zero, i.size, i.bytes)) = some (some (.agg #[.int .i64 0, .slice none 0 0]), kW.sz, 32) := by kernel_rfl
/-- An empty row of bytes that is new. -/
theorem R_empty {W : World} (base : Nat) (hb : base ≤ W.heap.size) : (Kd.int .u8).R 5 (W.alloc (.cells #[] 5)) base (fun k => base ≤ k) (.slice (some ⟨W.heap.size, 0, none⟩) 0 0) [] :=
  Kd.R_of_row (d := Kd.int .u8) (w0 := W) (b0 := base) (ok0 := fun _ => True) (xs := []) (inner := []) (cap := 0) (cur := #[]) (fun _ _ _ _ _ _ _ h => h) ⟨rfl, fun j p hj => by simp at hj⟩ (blk_new W _) hb (Nat.le_refl _) (by decide) rfl rfl hb rfl
set_option maxHeartbeats 4000000 in
set_option maxRecDepth 100000 in
theorem r_write {w : World} {base g : Nat} {ok : Nat → Prop} {d : DS} (h : RAt w base ok g d) (hob : ∀ k, ok k → base ≤ k) (i : Int) (A : Option Addr) (c : Nat) (b : List Int) (hr : ∀ W_, Kept w W_ ok → (Kd.int .u8).C W_ A b.length b) (hc : b.length ≤ c) (hP : d.P.length < 1099511627776) :
    Calls Tryz.prog 48 #[.pointer (some ⟨g, 0, none⟩), .int .i64 i, .slice A b.length c] w fun e w' => e = .returned (.int .i64 (d.wr i b).2) ∧ RAt w' base (fun k => ok k ∨ w.heap.size ≤ k) g (d.wr i b).1 ∧ KeptB ok w w' := by
  have HD := Aside0.mk h
  have HM := Aside0.mk (h.mono (ok' := fun k => ok k ∨ w.heap.size ≤ k) (fun k hk => .inl hk))
  have HR := Aside0.mk hr
  have HC := Aside0.mk hc
  have HP := Aside0.mk hP
  have HOB := Aside0.mk hob
  have hbg := h.base_le
  have hgl := h.lt
  obtain ⟨vS, vP, Al, cl, ss, g1, g2, g3, g4, g5, g6, g7⟩ := h
  obtain ⟨AS, cS, hv⟩ := r_slice g4
  subst hv
  have hc0 : w.cell? ⟨g, 0, none⟩ = some (.slice AS d.S.length cS) := (blk_cell g1 0).trans rfl
  have hc6 : w.cell? ⟨g, 6, none⟩ = some (.bool d.down) := (blk_cell g1 6).trans rfl
  clear hr hc hP g1 g2 g3 g4 g6 g7 hob
  by_cases h1 : d.down = true
  · have e : d.wr i b = (d, 5) := by unfold DS.wr; rw [if_pos h1]
    rw [h1] at hc6
    rw [e]
    clear e h1 g5
    go_enter Tryz.func48, Tryz.ntmps48
    go_wp2
    go_ret
    exact ⟨rfl, HM.out, KeptB.refl _ _⟩
  have h1f : d.down = false := by simpa using h1
  rw [h1f] at hc6
  by_cases h2 : b.length = 16
  · have hl : ((b.length : Int) == 16) = true := by simp [h2]
    have hl2 : ((b.length : Int) != 16) = false := by simp [h2]
    by_cases h3 : i < 0 ∨ (d.S.length : Int) ≤ i
    · have e : d.wr i b = (d, 4) := by unfold DS.wr; rw [if_neg h1, if_neg (by omega), if_pos h3]
      rw [e]
      by_cases h4 : i < 0
      · have hd : decide (i < 0) = true := decide_eq_true h4
        clear e h1 h1f h2 h3 h4 g5
        go_enter Tryz.func48, Tryz.ntmps48
        go_wp2
        go_ret
        exact ⟨rfl, HM.out, KeptB.refl _ _⟩
      · have hd : decide (i < 0) = false := decide_eq_false h4
        have hd4 : decide (i ≥ (d.S.length : Int)) = true := decide_eq_true (by omega)
        have hd5 : decide ((d.S.length : Int) ≤ i) = true := decide_eq_true (by omega)
        clear e h1 h1f h2 h3 h4 g5
        go_enter Tryz.func48, Tryz.ntmps48
        go_wp2
        go_ret
        exact ⟨rfl, HM.out, KeptB.refl _ _⟩
    · have hd : decide (i < 0) = false := decide_eq_false (by omega)
      have hd4 : decide (i ≥ (d.S.length : Int)) = false := decide_eq_false (by omega)
      have hd5 : decide ((d.S.length : Int) ≤ i) = false := decide_eq_false (by omega)
      by_cases h5 : d.bad = true
      · have e : d.wr i b = (d.crashed, 5) := by unfold DS.wr; rw [if_neg h1, if_neg (by omega), if_neg h3, if_pos h5]
        rw [e]
        have HBD := Aside0.mk h5
        clear e h1 h1f h2 h3 h5 g5
        go_enter Tryz.func48, Tryz.ntmps48
        go_wp2_with (go_at_call 71; refine (rcrash_bad HD.out HOB.out HBD.out).mono ?_; rintro e w1 ⟨rfl, hd1, hk1⟩; have HD1 := Aside0.mk hd1; have HK1 := Aside0.mk hk1; clear hd1 hk1)
        go_ret
        exact ⟨rfl, HD1.out.mono (fun k hk => .inl hk), HK1.out⟩
      · have h5f : d.bad = false := by simpa using h5
        have e : d.wr i b = ({ d.counted with P := d.P ++ [(i, b)] }, 0) := by unfold DS.wr; rw [if_neg h1, if_neg (by omega), if_neg h3, if_neg h5]
        have HOK := Aside0.mk (DS.wr_ok g5 i b)
        rw [e] at HOK ⊢
        have HBD := Aside0.mk h5f
        have HBL := Aside0.mk h2
        clear e h1 h1f h2 h3 g5 h5 h5f
        go_enter Tryz.func48, Tryz.ntmps48
        go_upto_region 9 with (go_at_call 71; refine (rcrash_not HD.out HBD.out).mono ?_; rintro e w1 ⟨rfl, hd1, hb1⟩; have HD1 := Aside0.mk hd1; have HB1 := Aside0.mk hb1; clear hd1 hb1)
        clear hc0 hc6
        obtain ⟨vS1, vP1, Al1, cl1, ss1, q1, q2, q3, q4, q5, q6, q7⟩ := HD1.out
        have hL1 : g < w1.heap.size := (Array.getElem?_eq_some_iff.1 q1).1
        have hcg : w1.cell? ⟨g, 1, none⟩ = some vP1 := (blk_cell q1 1).trans rfl
        have Q1 := Aside0.mk q1
        have Q4 := Aside0.mk q4
        have Q2 := Aside0.mk q2
        have Q3 := Aside0.mk q3
        have Q6 := Aside0.mk q6
        have Q7 := Aside0.mk q7
        have HL1 := Aside0.mk hL1
        have HBB : Aside0 ((d.P.length + 1) * 32 ≤ 140737488355328) := ⟨by have := HP.out; omega⟩
        have HCb : Aside0 ((Kd.int .u8).C w1 A b.length b) := ⟨HR.out _ (KeptB.of_below HB1.out ok).kept⟩
        have hcga : (w1.alloc (.cells #[] 5)).cell? ⟨g, 1, none⟩ = some vP1 := (blk_cell (blk_alloc q1 _) 1).trans rfl
        clear q1 q2 q3 q4 q5 q6 q7 hL1
        have hWS : base ≤ w1.heap.size := by have := HB1.out.size; omega
        have HWS := Aside0.mk hWS
        have HWL := Aside0.mk (show w.heap.size ≤ w1.heap.size from HB1.out.size)
        clear hWS
        go_region_law (first
          | (refine Kd.R_append_rows_step (Kd.int .u8) (w0 := w1) w1.heap.size (by simp [Region.wanted]) (.tmp 37) (.tmp 38) 52 5 (.int .u8 0) 1 rfl Tryz.underlying52 infoU8 rfl (by decide) (by decide) (.slice (some ⟨w1.heap.size, 0, none⟩) 0 0) [] b A b.length c (fun k => w1.heap.size ≤ k) (fun _ => False) (by simp [Act.eval, Act.put]) (by simp [Act.eval, Act.put]) (R_empty (W := w1.drew) w1.heap.size (Nat.le_refl _)) (Kd.C_below HCb.out ((below_drew1 (Below.refl w1.heap.size w1)).alloc (by simp) _)) (fun _ _ h => h) (fun _ h => h.elim) (fun k hk => by simp at hk; omega) ((below_drew1 (Below.refl w1.heap.size w1)).alloc (by simp) _) (by simp) (by have := HBL.out; simp; omega) ?_; intro v1 w2 ho hb hg hat; rw [List.nil_append] at ho; (obtain ⟨A0, c0, hv0, hlc0, hC0⟩ := Kd.R_reads ho); subst hv0; have HB2 := Aside0.mk hb; have HO2 := Aside0.mk ho; (have J1 := Aside0.mk (blk_below Q1.out hb)); (have hcg2 : w2.cell? ⟨g, 1, none⟩ = some vP1 := (blk_cell J1.out 1).trans rfl); (have hcg2a : (w2.alloc (.cells #[.int .i64 i, .slice A0 b.length c0] 109)).cell? ⟨g, 1, none⟩ = some vP1 := (blk_cell (blk_alloc J1.out _) 1).trans rfl); (have J4 := Aside0.mk ((Q4.out.step (w1 := w2) (fun k _ hk => hb.block k hk)).mono (ok' := fun k => (ok k ∨ w.heap.size ≤ k) ∧ k ≠ g) (fun k hk => ⟨.inl hk.1, hk.2⟩))); clear hb ho hg hat hlc0 hC0)
          | (refine Kd.R_append_step kW base (by simp [Region.wanted]) (.tmp 35) (.tmp 41) 53 109 _ 32 rfl Tryz.underlying53 rinfo rfl (by decide) (by decide) vP1 d.P (i, b) [.int .i64 i, .slice A0 b.length c0] (fun k => ((ok k ∨ w.heap.size ≤ k) ∧ k ≠ g) ∧ k ∉ ss1) (fun k => w1.heap.size ≤ k ∧ k < w2.heap.size) (by simp [Act.eval, Act.put]) (by simp [Act.eval, Act.put]) ?a1 ?a2 ?a3 J4.out.2 (Below.refl base _) ?a4 HBB.out ?_; (case a1 => exact ⟨[.int .i64 i], [.slice A0 b.length c0], rfl, rfl, _, rfl, Kd.R_lower (Kd.R_mono (Kd.R_bound HO2.out) (fun k hk => ⟨hk.2.1, hk.2.2.1⟩)) HWS.out⟩); (case a2 => exact fun k hk => ⟨⟨⟨.inr (Nat.le_trans HWL.out hk.1), by have := HL1.out; omega⟩, fun e => by have := Q4.out.1.2.2.1.lt e; omega⟩, fun e => by obtain ⟨_, hown⟩ := Kd.R_own Q4.out.2; have := own_lt hown k e.symm; omega⟩); (case a3 => exact fun k hk => ⟨⟨.inr (by have := HWL.out; have := HB2.out.size; omega), by have := HL1.out; have := HB2.out.size; omega⟩, fun e => by have := Q4.out.1.2.2.1.lt e; have := HB2.out.size; omega⟩); (case a4 => have := HWS.out; have := HB2.out.size; omega); intro v1 w3 hO1 hB1' hG1 hA1; (obtain ⟨g1, cap1, hv1, hcap1⟩ := Kd.own_some hO1 (by simp)); (rw [List.length_append, List.length_singleton] at hv1); subst hv1; (have K4 := Aside0.mk (rappended J4.out hG1 hO1)); (have K1 := Aside0.mk ((hG1.block g (by have := HL1.out; have := HB2.out.size; omega) (fun e => (J4.out.2.1 g e.symm).1.2 rfl)).trans J1.out)); (have hcg3 : w3.cell? ⟨g, 1, none⟩ = some vP1 := (blk_cell K1.out 1).trans rfl); (have hfg3 : w3.frozen? ⟨g, 1, none⟩ = false := blk_frozen K1.out 1); (have hcn3 : w3.cell? ⟨g, 4, none⟩ = some (.int .i64 d.N) := (blk_cell K1.out 4).trans rfl); (have hfn3 : w3.frozen? ⟨g, 4, none⟩ = false := blk_frozen K1.out 4); (have HK3 := Aside0.mk (((KeptB.of_below (HB1.out.trans (HB2.out.mono HB1.out.size)) ok)).grown hG1 (fun k hk => (J4.out.2.1 k hk).1.1))); clear hO1 hB1' hG1 hA1 hcap1))
        all_goals
          go_wp2
          go_ret
          have HKF := (HK3.out.setCell (p := ⟨g, 1, none⟩) (.inl Q3.out) (.slice (some ⟨g1, 0, none⟩) (d.P.length + 1) cap1)).setCell (p := ⟨g, 4, none⟩) (.inl Q3.out) (.int .i64 (wrap64 (d.N + 1)))
          exact ⟨rfl, ⟨vS1, _, Al1, cl1, ss1, blk_put (blk_put K1.out 1 _ rfl) 4 _ rfl, Q2.out, .inl Q3.out, K4.out.step (fun k hk _ => (Below.heap_setCell _ _ _ _ hk.2).trans (Below.heap_setCell _ _ _ _ hk.2)), HOK.out, Q6.out, C_blkI Q7.out.1 (fun a e hp => by
            have h0 := Q7.out.2 a e hp
            exact (HKF.block a.block (by omega) (fun ho => by have := HOB.out _ ho; omega)).trans (HB1.out.block a.block (by omega)).symm), Q7.out.2⟩, HKF⟩
  · have e : d.wr i b = (d, 1) := by unfold DS.wr; rw [if_neg h1, if_pos h2]
    have hl : ((b.length : Int) == 16) = false := by rw [beq_eq_false_iff_ne]; omega
    have hl2 : ((b.length : Int) != 16) = true := by rw [bne_iff_ne]; omega
    rw [e]
    clear e h1 h1f h2 g5
    go_enter Tryz.func48, Tryz.ntmps48
    go_wp2
    go_ret
    exact ⟨rfl, HM.out, KeptB.refl _ _⟩

attribute [local go_sem] Oper.semAt_some
def RFlInv (w wr : World) (base g : Nat) (ok : Nat → Prop) (d : DS) (vS vP : Value) (A : Option Addr) (c : Nat) (ss : List Nat) (k : Nat) (S' : List (List Int)) : Prop :=
  DS.flushed S' (d.P.drop k) = DS.flushed d.S d.P ∧ DS.Fit S' (d.P.drop k) ∧ wr.heap[g]? = some (.cells (rcells vS vP A c d) 55 (0, 0)) ∧ RIn wr base (fun k => ok k ∧ k ≠ g) vS vP S' d.P ss ∧ KeptB ok w wr
set_option maxHeartbeats 4000000 in
set_option maxRecDepth 100000 in
theorem r_flush {w : World} {base g : Nat} {ok : Nat → Prop} {d : DS} (h : RAt w base ok g d) (hob : ∀ k, ok k → base ≤ k) :
    Calls Tryz.prog 49 #[.pointer (some ⟨g, 0, none⟩)] w fun e w' => e = .returned (.int .i64 d.fl.2) ∧ RAt w' base ok g d.fl.1 ∧ KeptB ok w w' := by
  have HD := Aside0.mk h
  have hgl := h.lt
  have hbg := h.base_le
  have hc6 : w.cell? ⟨g, 6, none⟩ = some (.bool d.down) := by obtain ⟨vS, vP, A, c, ss, h1, _⟩ := h; exact (blk_cell h1 6).trans rfl
  by_cases h1 : d.down = true
  · have e : d.fl = (d, 5) := by unfold DS.fl; rw [if_pos h1]
    rw [h1] at hc6
    rw [e]
    clear e h h1
    go_enter Tryz.func49, Tryz.ntmps49
    go_wp2
    go_ret
    exact ⟨rfl, HD.out, KeptB.refl _ _⟩
  have h1f : d.down = false := by simpa using h1
  rw [h1f] at hc6
  by_cases h5 : d.bad = true
  · have e : d.fl = (d.crashed, 5) := by unfold DS.fl; rw [if_neg h1, if_pos h5]
    have HBD := Aside0.mk h5
    rw [e]
    clear e h h1 h1f h5
    go_enter Tryz.func49, Tryz.ntmps49
    go_wp2_with (go_at_call 71; refine (rcrash_bad HD.out hob HBD.out).mono ?_; rintro e w1 ⟨rfl, hd1, hk1⟩; have HD1 := Aside0.mk hd1; have HK1 := Aside0.mk hk1; clear hd1 hk1)
    go_ret
    exact ⟨rfl, HD1.out, HK1.out⟩
  have h5f : d.bad = false := by simpa using h5
  have e : d.fl = ({ d.counted with S := DS.flushed d.S d.P, P := [] }, 0) := by unfold DS.fl; rw [if_neg h1, if_neg h5]
  have HOK := Aside0.mk (DS.fl_ok h.isOk)
  rw [e] at HOK ⊢
  have HBD := Aside0.mk h5f
  have HOB := Aside0.mk hob
  clear e h h1 h1f h5 h5f hob
  go_enter Tryz.func49, Tryz.ntmps49
  go_upto_region 3 with (go_at_call 71; refine (rcrash_not HD.out HBD.out).mono ?_; rintro e w1 ⟨rfl, hd1, hb1⟩; have HD1 := Aside0.mk hd1; have HB1 := Aside0.mk hb1; clear hd1 hb1)
  clear HD HBD hc6
  obtain ⟨vS, vP, Al, cl, ss, q1, q2, q3, q4, q5, q6, q7⟩ := HD1.out
  obtain ⟨A, c, rfl, hlc, hC⟩ := Kd.R_reads q4.2
  have H2 := Aside0.mk q2
  have H3 := Aside0.mk q3
  have H6 := Aside0.mk q6
  have H7 := Aside0.mk q7
  have HI : Aside0 (RFlInv w w1 base g ok d vS (.slice A d.P.length c) Al cl ss 0 d.S) := ⟨rfl, q5, q1, q4, KeptB.of_below HB1.out _⟩
  clear q1 q2 q3 q4 q5 q6 q7 hlc hC HD1
  go_wp2
  go_loopw [3] (fun u3 wr => ∃ (k : Nat) (S' : List (List Int)), u3 = .int .i64 (k : Int) ∧ Aside0 (k ≤ d.P.length) ∧ Aside0 (RFlInv w wr base g ok d vS (.slice A d.P.length c) Al cl ss k S')) (fun u3 _ => d.P.length + 1 - (intOf u3).toNat)
  case atStart => exact ⟨0, d.S, rfl, ⟨Nat.zero_le _⟩, HI⟩
  case round =>
    clear HI
    obtain ⟨k, S', rfl, HK, HI⟩ := hrel
    have hg1 : wr.cell? ⟨g, 1, none⟩ = some (.slice A d.P.length c) := (blk_cell HI.out.2.2.1 1).trans rfl
    by_cases hlt : k < d.P.length
    · have hp : d.P.drop k = d.P.getD k (0, []) :: d.P.drop (k + 1) := by
        rw [List.drop_eq_getElem_cons hlt, List.getD_eq_getElem?_getD, List.getElem?_eq_getElem hlt]
        rfl
      obtain ⟨i1, i2, i3, i4, i5⟩ := HI.out
      rw [hp] at i1 i2
      obtain ⟨f1, f2, f3⟩ := i2.head
      obtain ⟨A', c', hv, hlc, hC⟩ := Kd.R_reads i4.2
      injection hv with hA hl0 hc0
      subst hA hc0
      clear hl0
      obtain ⟨ad, ad', cb, rfl, hx0, hx1, hcb, hCb⟩ := write_at hC k hlt f3
      obtain ⟨i, hi⟩ : ∃ i : Nat, (d.P.getD k (0, [])).1 = (i : Int) := ⟨(d.P.getD k (0, [])).1.toNat, by omega⟩
      have hiS : i < S'.length := by omega
      obtain ⟨kq, q, cap, hkq, rfl, hq, hsec⟩ := sec_value i4.1 i hiS
      generalize hpp : d.P.getD k (0, []) = p at *
      rw [hi] at hx0
      have hg0 : wr.cell? ⟨g, 0, none⟩ = some (.slice (some ⟨q, 0, none⟩) S'.length cap) := (blk_cell i3 0).trans rfl
      have hd : decide ((k : Int) < (d.P.length : Int)) = true := decide_eq_true (by omega)
      have hd' : decide (k < d.P.length) = true := decide_eq_true hlt
      have hp8 : (k : Int) + 1 ≤ 9223372036854775807 := by have := hC.2.1; omega
      have hp1 : (0 : Int) ≤ (k : Int) := by omega
      have hp2 : (k : Int) < (d.P.length : Int) := by omega
      have hp3 : (0 : Int) ≤ (i : Int) := by omega
      have hp4 : (i : Int) < (S'.length : Int) := by omega
      have hs16 : (S'.getD i []).length = 16 := DS.getD_len i2.1 hiS
      have hly : DS.lay p.2 (S'.getD i []) 16 = p.2 := lay_all f3 hs16
      have HFL : Aside0 (DS.flushed (S'.set i p.2) (d.P.drop (k + 1)) = DS.flushed d.S d.P) := ⟨by rw [← i1, DS.flushed, hi, Int.toNat_natCast]⟩
      have HFT : Aside0 (DS.Fit (S'.set i p.2) (d.P.drop (k + 1))) := ⟨by have := i2.laid 16 (Nat.le_refl _); rw [hi, Int.toNat_natCast, hly] at this; exact this⟩
      obtain ⟨hcp, J5, hokk, hbk, hltk⟩ := rcopied (w := wr.drew) (i4.step (fun _ _ _ => rfl)) i2.1 i kq 16 cb hiS hkq ad' p.2 f3 (Nat.le_refl _) (Kd.C_drew hCb) 3
      rw [hly] at J5
      unfold secV at hcp
      have HD := Aside0.mk (i5.then_ (KeptB.setCells ((KeptB.refl ok wr).drew) (.inl hokk.1) (vs := (p.2.map (Value.int .u8)).take 16) (o := 0)) (fun _ hk => .inl hk))
      have J3d : (wr.drew.setCells kq 0 ((p.2.map (Value.int .u8)).take 16)).heap[g]? = some (.cells (rcells (.slice (some ⟨q, 0, none⟩) S'.length cap) (.slice (some ad) d.P.length c) Al cl d) 55 (0, 0)) := (setCells_far _ _ g (Ne.symm hokk.2)).trans i3
      have HINV : Aside0 (RFlInv w (wr.drew.setCells kq 0 ((p.2.map (Value.int .u8)).take 16)) base g ok d (.slice (some ⟨q, 0, none⟩) S'.length cap) (.slice (some ad) d.P.length c) Al cl ss (k + 1) (S'.set i p.2)) := ⟨HFL.out, HFT.out, J3d, J5, HD.out⟩
      have HLT := Aside0.mk hlt
      clear i1 i2 i3 i4 i5 f1 f2 f3 hlc hC hkq hCb hsec hpp hp HI hi J5 J3d hokk hbk hltk HD HFL HFT hly hs16 hlt
      go_upto_region 6 with (fail)
      go_still_tail 22, (by kernel_rfl)
      change wpList _ _ _ _ _ wr.drew
      generalize wr.drew.setCells kq 0 _ = W2 at hcp HINV
      generalize wr.drew = w2 at hcp ⊢
      clear hx0 hx1 hq hg0 hg1
      refine Kd.wpList_copy_run w2 rfl (.tmp 34) (.tmp 42) 52 52 rfl _ _ rfl rfl hcp ?_
      simp only [Act.put, List.setIfInBounds_toArray, List.set_cons_zero, List.set_cons_succ]
      clear hcp
      go_wp2
      all_goals exact ⟨⟨k + 1, _, by go_num, ⟨by have := HLT.out; omega⟩, HINV⟩, by have := HLT.out; simp [intOf]; omega⟩
    · obtain rfl : k = d.P.length := by have := HK.out; omega
      obtain ⟨i1, i2, i3, i4, i5⟩ := HI.out
      rw [List.drop_of_length_le (Nat.le_refl _), DS.flushed] at i1
      subst i1
      have hd : decide ((d.P.length : Int) < (d.P.length : Int)) = false := decide_eq_false (by omega)
      have hd' : decide (d.P.length < d.P.length) = false := decide_eq_false (by omega)
      have hf1 : wr.frozen? ⟨g, 1, none⟩ = false := blk_frozen i3 1
      have hf4 : wr.frozen? ⟨g, 4, none⟩ = false := blk_frozen i3 4
      have hc4 : wr.cell? ⟨g, 4, none⟩ = some (.int .i64 d.N) := (blk_cell i3 4).trans rfl
      have hst : ∀ q, q ≠ g → ((wr.setCell ⟨g, 1, none⟩ (.slice none 0 0)).setCell ⟨g, 4, none⟩ (.int .i64 (wrap64 (d.N + 1)))).heap[q]? = wr.heap[q]? := fun q hq => (Below.heap_setCell _ _ _ _ hq).trans (Below.heap_setCell _ _ _ _ hq)
      have hfin : RAt ((wr.setCell ⟨g, 1, none⟩ (.slice none 0 0)).setCell ⟨g, 4, none⟩ (.int .i64 (wrap64 (d.N + 1)))) base ok g { d.counted with S := DS.flushed d.S d.P, P := [] } ∧ KeptB ok w ((wr.setCell ⟨g, 1, none⟩ (.slice none 0 0)).setCell ⟨g, 4, none⟩ (.int .i64 (wrap64 (d.N + 1)))) := by
        have hk := (i5.setCell (p := ⟨g, 1, none⟩) (.inl H3.out) (.slice none 0 0)).setCell (p := ⟨g, 4, none⟩) (.inl H3.out) (.int .i64 (wrap64 (d.N + 1)))
        refine ⟨⟨vS, .slice none 0 0, Al, cl, ss, blk_put (blk_put i3 1 _ rfl) 4 _ rfl, H2.out, H3.out, ⟨i4.1.step (fun q hq _ => hst q hq.2), Kd.R_nil _ _ _ _ _⟩, HOK.out, H6.out, C_blkI H7.out.1 (fun a e hp => ?_), H7.out.2⟩, hk⟩
        have h0 := H7.out.2 a e hp
        exact (hk.block a.block (by omega) (fun ho => by have := HOB.out _ ho; omega)).trans (HB1.out.block a.block (by omega)).symm
      have HFIN := Aside0.mk hfin
      clear i2 i3 i4 i5 hlt HI hfin HK hst
      go_wp2
      go_ret
      exact ⟨rfl, HFIN.out⟩

attribute [local go_sem] Oper.semAt_some
theorem lastP_snoc (i : Int) (p : Int × List Int) : ∀ Q : List (Int × List Int), DS.lastP i (Q ++ [p]) = if p.1 = i then some p.2 else DS.lastP i Q
  | [] => by
    rw [List.nil_append, DS.lastP, DS.lastP]
    split <;> rfl
  | q :: Q => by
    rw [List.cons_append, DS.lastP, lastP_snoc i p Q, DS.lastP]
    split <;> rfl
theorem lastP_take (i : Int) (P : List (Int × List Int)) (k : Nat) (hk : k < P.length) : DS.lastP i (P.take (k + 1)) = if (P.getD k (0, [])).1 = i then some (P.getD k (0, [])).2 else DS.lastP i (P.take k) := by
  have e : P.take (k + 1) = P.take k ++ [P.getD k (0, [])] := by
    rw [List.take_add_one, List.getElem?_eq_getElem hk, List.getD_eq_getElem?_getD, List.getElem?_eq_getElem hk]
    rfl
  rw [e, lastP_snoc]
set_option maxHeartbeats 1000000 in
theorem r_read_out {w : World} {base g : Nat} {ok : Nat → Prop} {d : DS} (h : RAt w base ok g d) (i : Int) (hi : i < 0 ∨ (d.S.length : Int) ≤ i) :
    Calls Tryz.prog 59 #[.pointer (some ⟨g, 0, none⟩), .int .i64 i] w fun e w' => e = .returned (.slice none 0 0) ∧ w = w' := by
  obtain ⟨vS, vP, A, c, ss, h1, h2, h3, h4, h5, h6, h7⟩ := h
  obtain ⟨AS, cS, hv⟩ := r_slice h4
  subst hv
  have hc0 : w.cell? ⟨g, 0, none⟩ = some (.slice AS d.S.length cS) := (blk_cell h1 0).trans rfl
  clear h1 h2 h3 h4 h5 h6 h7
  by_cases h0 : i < 0
  · have hd : decide (i < 0) = true := decide_eq_true h0
    clear hi h0
    go_enter Tryz.func59, Tryz.ntmps59
    go_wp2
    go_ret
    exact ⟨rfl, rfl⟩
  · have hd : decide (i < 0) = false := decide_eq_false h0
    have hd1 : decide ((d.S.length : Int) ≤ i) = true := decide_eq_true (by omega)
    have hd2 : decide (i ≥ (d.S.length : Int)) = true := decide_eq_true (by omega)
    clear hi h0
    go_enter Tryz.func59, Tryz.ntmps59
    go_wp2
    go_ret
    exact ⟨rfl, rfl⟩
set_option maxHeartbeats 4000000 in
set_option maxRecDepth 100000 in
theorem r_read_in {w : World} {base g : Nat} {ok : Nat → Prop} {d : DS} (h : RAt w base ok g d) (i : Nat) (hi : i < d.S.length) :
    Calls Tryz.prog 59 #[.pointer (some ⟨g, 0, none⟩), .int .i64 (i : Int)] w fun e w' => ∃ v0, e = .returned v0 ∧ (Kd.int .u8).R 5 w' w.heap.size (fun _ => True) v0 (d.rd (i : Int)) ∧ Below w.heap.size w w' := by
  have hrd : d.rd (i : Int) = (DS.lastP (i : Int) d.P).getD (d.S.getD i []) := by unfold DS.rd; rw [if_pos (by omega), Int.toNat_natCast]
  have hR16 : (d.rd (i : Int)).length = 16 := by rw [DS.rd_len h.isOk, if_pos (by omega)]
  obtain ⟨vS, vP, A, c, ss, h1, h2, h3, h4, h5, h6, h7⟩ := h
  obtain ⟨AP, cP, rfl, hlc, hC⟩ := Kd.R_reads h4.2
  obtain ⟨kq, q, cap, hkq, rfl, hq, hsec⟩ := sec_value h4.1 i hi
  have hS16 : (d.S.getD i []).length = 16 := DS.getD_len h5.1 hi
  have hc0 : w.cell? ⟨g, 0, none⟩ = some (.slice (some ⟨q, 0, none⟩) d.S.length cap) := (blk_cell h1 0).trans rfl
  have hc1 : w.cell? ⟨g, 1, none⟩ = some (.slice AP d.P.length cP) := (blk_cell h1 1).trans rfl
  have hd : decide ((i : Int) < 0) = false := decide_eq_false (by omega)
  have hd1 : decide ((d.S.length : Int) ≤ (i : Int)) = false := decide_eq_false (by omega)
  have hd2 : decide ((i : Int) ≥ (d.S.length : Int)) = false := decide_eq_false (by omega)
  have hd3 : decide (d.S.length ≤ i) = false := decide_eq_false (by omega)
  have hp3 : (0 : Int) ≤ (i : Int) := by omega
  have hp4 : (i : Int) < (d.S.length : Int) := by omega
  have HCS : Aside0 ((Kd.int .u8).C w (some ⟨kq, 0, none⟩) (d.S.getD i []).length (d.S.getD i [])) := ⟨Kd.C_int_cells hsec rfl (by omega)⟩
  have HCP := Aside0.mk hC
  have HRD := Aside0.mk hrd
  have HR16 := Aside0.mk hR16
  have H5 := Aside0.mk h5
  have HS16 := Aside0.mk hS16
  clear h1 h2 h3 h4 h5 h6 h7 hlc hC hkq hsec hrd hR16 hi hS16
  unfold secV at hq
  go_enter Tryz.func59, Tryz.ntmps59
  go_wp2
  clear hd hd1 hd2 hd3
  go_loopw [5, 6] (fun u5 u6 wr => wr = w ∧ ∃ (k : Nat) (a : Addr) (cb : Nat), u6 = .int .i64 (k : Int) ∧ u5 = .slice (some a) 16 cb ∧ Aside0 (k ≤ d.P.length) ∧ Aside0 (16 ≤ cb) ∧ Aside0 ((Kd.int .u8).C w (some a) 16 ((DS.lastP (i : Int) (d.P.take k)).getD (d.S.getD i [])))) (fun u5 u6 _ => d.P.length + 1 - (intOf u6).toNat)
  case atStart => exact ⟨rfl, 0, _, _, rfl, rfl, ⟨Nat.zero_le _⟩, ⟨Nat.le_refl _⟩, ⟨by have := HCS.out; rw [HS16.out] at this; exact this⟩⟩
  case round =>
    obtain ⟨rfl, k, a, cb, rfl, rfl, HK, HCB, HV⟩ := hrel
    by_cases hlt : k < d.P.length
    · have hdk : decide ((k : Int) < (d.P.length : Int)) = true := decide_eq_true (by omega)
      have hdk2 : decide (k < d.P.length) = true := decide_eq_true hlt
      have hm : d.P.getD k (0, []) ∈ d.P := by rw [List.getD_eq_getElem?_getD, List.getElem?_eq_getElem hlt]; exact List.getElem_mem hlt
      have hb16 := (H5.out.2 _ hm).2.2
      obtain ⟨ad, ad', cw, rfl, hx0, hx1, hcw, hCw⟩ := write_at HCP.out k hlt hb16
      have hls := lastP_take (i : Int) d.P k hlt
      have hk0 : (0 : Int) ≤ (k : Int) := by omega
      have hk1 : (k : Int) < (d.P.length : Int) := by omega
      have hk2 : (k : Int) + 1 ≤ 9223372036854775807 := by have := HCP.out.2.1; omega
      generalize hpp : d.P.getD k (0, []) = p at *
      have HLS := Aside0.mk hls
      have HCW := Aside0.mk hCw
      have HCW2 := Aside0.mk hcw
      have HB16 := Aside0.mk hb16
      have HLT := Aside0.mk hlt
      by_cases he : p.1 = (i : Int)
      · have e1 : (p.1 == (i : Int)) = true := beq_iff_eq.2 he
        have e2 : decide (p.1 = (i : Int)) = true := decide_eq_true he
        have HN : Aside0 ((Kd.int .u8).C wr (some ad') 16 ((DS.lastP (i : Int) (d.P.take (k + 1))).getD (d.S.getD i []))) := ⟨by
          rw [HLS.out, if_pos he]
          have := HCW.out
          rw [HB16.out] at this
          exact this⟩
        clear hls hCw hcw hb16 hlt hm hpp he
        go_wp2
        all_goals exact ⟨⟨by first | rfl | trivial, k + 1, ad', cw, by go_num, rfl, ⟨by have := HLT.out; omega⟩, HCW2, HN⟩, by have := HLT.out; simp [intOf]; omega⟩
      · have e1 : (p.1 == (i : Int)) = false := beq_eq_false_iff_ne.2 he
        have e2 : decide (p.1 = (i : Int)) = false := decide_eq_false he
        have HN : Aside0 ((Kd.int .u8).C wr (some a) 16 ((DS.lastP (i : Int) (d.P.take (k + 1))).getD (d.S.getD i []))) := ⟨by
          rw [HLS.out, if_neg he]
          exact HV.out⟩
        clear hls hCw hcw hb16 hlt hm hpp he
        go_wp2
        all_goals exact ⟨⟨by first | rfl | trivial, k + 1, a, cb, by go_num, rfl, ⟨by have := HLT.out; omega⟩, HCB, HN⟩, by have := HLT.out; simp [intOf]; omega⟩
    · obtain rfl : k = d.P.length := by have := HK.out; omega
      have hdk : decide ((d.P.length : Int) < (d.P.length : Int)) = false := decide_eq_false (by omega)
      have hdk2 : decide (d.P.length < d.P.length) = false := decide_eq_false (by omega)
      have hv := HV.out
      rw [List.take_length, ← HRD.out] at hv
      have HV2 := Aside0.mk hv
      clear hlt hv hq hc0 HV
      obtain ⟨W0, hW0⟩ : ∃ W0, W0 = wr := ⟨_, rfl⟩
      subst hW0
      go_wp2_with ((with_reducible refine gate_builtin (b := .append) (xs := #[.tmp 52, .tmp 53]) rfl ?_); at_builtin; go_must (refine Kd.R_append_rows (Kd.int .u8) (w0 := W0) W0.heap.size rfl (.tmp 52) (.tmp 53) 52 5 (.int .u8 0) 1 rfl Tryz.underlying52 infoU8 rfl (by decide) (by decide) _ [] (d.rd (i : Int)) _ _ _ (fun k => W0.heap.size ≤ k) (fun _ => False) rfl rfl (R_empty W0.heap.size (Nat.le_refl _)) (Kd.C_below HV2.out (below_alloc (Below.refl _ _) _)) (fun _ _ h => h) (fun _ h => h.elim) (fun k hk => by simp at hk; omega) (below_alloc (Below.refl _ _) _) (by simp) (by simp) ?_; intro v3 w3 ho hb hg hat; rw [List.nil_append] at ho; have HO3 := Aside0.mk ho; have HB3 := Aside0.mk hb; clear ho hb hg hat))
      go_ret
      exact ⟨_, rfl, Kd.R_mono HO3.out (fun _ _ => trivial), HB3.out⟩
theorem r_read {w : World} {base g : Nat} {ok : Nat → Prop} {d : DS} (h : RAt w base ok g d) (i : Int) :
    Calls Tryz.prog 59 #[.pointer (some ⟨g, 0, none⟩), .int .i64 i] w fun e w' => ∃ v0, e = .returned v0 ∧ (Kd.int .u8).R 5 w' w.heap.size (fun _ => True) v0 (d.rd i) ∧ Below w.heap.size w w' := by
  by_cases hi : 0 ≤ i ∧ i < (d.S.length : Int)
  · obtain ⟨m, rfl⟩ : ∃ m : Nat, i = (m : Int) := ⟨i.toNat, by omega⟩
    exact r_read_in h m (by omega)
  · have e : d.rd i = [] := by unfold DS.rd; rw [if_neg hi]
    rw [e]
    exact (r_read_out h i (by omega)).mono fun e w' ⟨h1, h2⟩ => ⟨_, h1, Kd.R_nil _ _ _ _ _, h2 ▸ Below.refl _ _⟩

attribute [local go_sem] Oper.semAt_some
def RNewInv (w wr : World) (k : Nat) : Prop :=
  ∃ (vS : Value) (ss : List Nat), wr.heap[w.heap.size]? = some (.cells (rcells vS (.slice none 0 0) none 0 (DS.new k)) 55 (0, 0)) ∧ DiskIn wr w.heap.size (fun q => w.heap.size ≤ q ∧ q ≠ w.heap.size) vS (.slice none 0 0) (.slice none 0 0) (DS.new k).S [] [] ss ∧ Below w.heap.size w wr
set_option maxHeartbeats 2000000 in
set_option maxRecDepth 100000 in
theorem r_new (n : Nat) (hn : n ≤ 4000) (w : World) :
    Calls Tryz.prog 5 #[.int .i64 (n : Int)] w fun e w' => e = .returned (.pointer (some ⟨w.heap.size, 0, none⟩)) ∧ RAt w' w.heap.size (fun k => w.heap.size ≤ k) w.heap.size (DS.new n) ∧ Below w.heap.size w w' := by
  have hd0 : decide ((n : Int) < 0) = false := decide_eq_false (by omega)
  have hd1 : decide ((n : Int) > 4000) = false := decide_eq_false (by omega)
  have hd2 : decide (4000 < n) = false := decide_eq_false (by omega)
  have hmk := make16
  have hn0 : (0 : Int) ≤ (n : Int) := by omega
  have hn1 : (n : Int) ≤ 4000 := by omega
  go_enter Tryz.func5, Tryz.ntmps5
  go_wp2
  go_loopw [4] (fun u wr => ∃ k : Nat, u = .int .i64 (k : Int) ∧ Aside0 (k ≤ n) ∧ Aside0 (RNewInv w wr k)) (fun u _ => n + 1 - (intOf u).toNat)
  case atStart => exact ⟨0, rfl, ⟨Nat.zero_le _⟩, ⟨.slice none 0 0, [], blk_new w _, ⟨World.ownsRow_nil _ _ _ _, fun k hk => by simp [Value.ownBlock] at hk, ⟨rfl, fun i k b hk => by simp at hk⟩, by simp, fun k hk => by simp at hk, Kd.R_nil _ _ _ _ _, Kd.R_nil _ _ _ _ _⟩, below_alloc (Below.refl _ _) _⟩⟩
  case round =>
    obtain ⟨k, rfl, HK, HI⟩ := hrel
    obtain ⟨vS, ss, h1, h4, hb⟩ := HI.out
    by_cases hlt : k < n
    · have hd : decide ((k : Int) < (n : Int)) = true := decide_eq_true (by omega)
      have hd3 : decide (k < n) = true := decide_eq_true hlt
      have hgl : w.heap.size < wr.heap.size := (Array.getElem?_eq_some_iff.1 h1).1
      have hc0 : wr.cell? ⟨w.heap.size, 0, none⟩ = some vS := (blk_cell h1 0).trans rfl
      have hk1 : (k : Int) + 1 ≤ 4000 := by omega
      have hk0 : (0 : Int) ≤ (k : Int) := by omega
      have hssl : ss.length = k := by rw [h4.2.2.1.1]; simp [DS.new]
      have hcA : (wr.alloc (.cells z16 5)).cell? ⟨w.heap.size, 0, none⟩ = some vS := (blk_cell (blk_alloc h1 _) 0).trans rfl
      have hcB : ((wr.alloc (.cells z16 5)).alloc (.cells #[.slice (some ⟨wr.heap.size, 0, none⟩) 16 16] 52)).cell? ⟨w.heap.size, 0, none⟩ = some vS := (blk_cell (blk_alloc (blk_alloc h1 _) _) 0).trans rfl
      have G1 := Aside0.mk h1
      have G4 := Aside0.mk h4
      have GB := Aside0.mk hb
      have GL := Aside0.mk hgl
      have SSL := Aside0.mk hssl
      have HKN := Aside0.mk hlt
      clear h1 h4 hb HI hgl hssl hlt
      go_upto_region 7 with (fail)
      go_region_law (refine step_append_cells (w0 := wr.drew.alloc (.cells z16 5)) w.heap.size (by simp [Region.wanted]) (.tmp 22) (.tmp 24) 48 52 _ 1 24 rfl Tryz.underlying48 info26 rfl (by decide) (by decide) vS ss.length (ss.map secV) [.slice (some ⟨wr.heap.size, 0, none⟩) 16 16] (by simp [Act.eval, Act.put]) (by simp [Act.eval, Act.put]) rfl (by simp [Value.oneCell']) ?a1 (Below.refl _ _) ?a2 ?a3 ?_; (case a1 => exact own_move G4.out.1 (fun q hq => Below.heap_alloc wr.drew _ q (own_lt G4.out.1 q hq))); (case a2 => have := GL.out; simp; omega); (case a3 => have := SSL.out; have := HKN.out; omega); intro v1 w1 hO1 hB1 hG1 hA1; (have hO1' := Aside0.mk hO1); (rw [SSL.out] at hO1); (obtain ⟨g1, cap1, hv1⟩ : ∃ g1 cap1, v1 = .slice (some ⟨g1, 0, none⟩) (k + 1) cap1 := by rcases hO1.2 with ⟨_, h0⟩ | ⟨g1, cap1, _, e, _⟩; (· omega); (· exact ⟨g1, cap1, e⟩)); subst hv1; (have K4 := Aside0.mk (new_step G4.out GL.out hO1'.out hG1 hA1)); (have K1 := Aside0.mk ((hG1.block w.heap.size (by have := GL.out; simp; omega) (fun e => (G4.out.2.1 _ e.symm).1.2 rfl)).trans (blk_alloc (blk_drew G1.out) (.cells z16 5)))); (have hcg3 : w1.cell? ⟨w.heap.size, 0, none⟩ = some vS := (blk_cell K1.out 0).trans rfl); (have hfg3 : w1.frozen? ⟨w.heap.size, 0, none⟩ = false := blk_frozen K1.out 0); (have HB3 := Aside0.mk (((GB.out.drew).alloc (by have := GL.out; show w.heap.size ≤ wr.heap.size; omega) (.cells z16 5)).grown hG1 (by have := GL.out; simp; omega) (fun q hq => own_base G4.out.1 q hq))); clear hO1 hO1' hB1 hG1 hA1)
      all_goals
        go_wp2
        all_goals exact ⟨⟨k + 1, by go_num, ⟨by have := HKN.out; omega⟩, ⟨_, ss ++ [wr.heap.size], blk_put K1.out 0 _ rfl, K4.out.step (fun q hq _ => Below.heap_setCell _ _ _ _ hq.2), HB3.out.setCell (Nat.le_refl _) _⟩⟩, by have := HKN.out; simp [intOf]; omega⟩
    · obtain rfl : k = n := by have := HK.out; omega
      have hd : decide ((k : Int) < (k : Int)) = false := decide_eq_false (by omega)
      have HF : Aside0 (RAt wr w.heap.size (fun q => w.heap.size ≤ q) w.heap.size (DS.new k) ∧ Below w.heap.size w wr) := ⟨⟨vS, .slice none 0 0, none, 0, ss, h1, Nat.le_refl _, Nat.le_refl _, ⟨h4, Kd.R_nil _ _ _ _ _⟩, DS.new_ok k, Nat.le_refl _, Kd.C_nil _ _, fun ad e => by cases e⟩, hb⟩
      clear h1 h4 hb HI hlt
      go_wp2
      go_ret
      exact ⟨rfl, HF.out⟩
/-! The document's disk, made since w0, that meets no block of xs. -/
def SR (w0 : World) (xs : List Nat) (W : World) (g : Nat) (d : DS) : Prop :=
  RAt W w0.heap.size (fun k => w0.heap.size ≤ k ∧ k ∉ xs) g d ∧ Below w0.heap.size w0 W ∧ ∀ x, x ∈ xs → x < W.heap.size
namespace SR
variable {w0 W W' : World} {xs ys : List Nat} {g : Nat} {d d' : DS}
theorem after (h : SR w0 xs W g d) (hb : Below W.heap.size W W') : SR w0 xs W' g d := ⟨h.1.below hb, h.2.1.trans (hb.mono h.2.1.size), fun x hx => Nat.lt_of_lt_of_le (h.2.2 x hx) hb.size⟩
theorem mores (h : SR w0 xs W g d) (hb : Below W.heap.size W W') (zs : List Nat) (hy : ∀ y, y ∈ zs → W.heap.size ≤ y ∧ y < W'.heap.size) : SR w0 (zs ++ xs) W' g d :=
  ⟨(h.1.bound.mono (ok' := fun k => w0.heap.size ≤ k ∧ k ∉ zs ++ xs) (fun k hk => ⟨hk.1.1, fun e => (List.mem_append.1 e).elim (fun e => by have := (hy k e).1; have := hk.2.2.1; omega) hk.1.2⟩)).below hb, h.2.1.trans (hb.mono h.2.1.size),
    fun y e => (List.mem_append.1 e).elim (fun e => (hy y e).2) (fun e => Nat.lt_of_lt_of_le (h.2.2 y e) hb.size)⟩
theorem less (h : SR w0 xs W g d) (hs : ∀ x, x ∈ ys → x ∈ xs) : SR w0 ys W g d := ⟨h.1.mono (fun k hk => ⟨hk.1, fun e => hk.2 (hs k e)⟩), h.2.1, fun y hy => h.2.2 y (hs y hy)⟩
theorem kept (h : SR w0 xs W g d) (hd : RAt W' w0.heap.size (fun k => (w0.heap.size ≤ k ∧ k ∉ xs) ∨ W.heap.size ≤ k) g d') (hk : KeptB (fun k => w0.heap.size ≤ k ∧ k ∉ xs) W W') : SR w0 xs W' g d' ∧ Sm xs W W' :=
  ⟨⟨hd.mono (fun k hk2 => hk2.elim id (fun e => ⟨Nat.le_trans h.2.1.size e, fun ex => by have := h.2.2 k ex; omega⟩)), hk.below h.2.1 h.2.1.size (fun _ e => e.1), fun x hx => Nat.lt_of_lt_of_le (h.2.2 x hx) hk.size⟩,
    fun x hx => hk.block x (h.2.2 x hx) (fun e => e.2 hx)⟩
theorem kept2 (h : SR w0 xs W g d) (hd : RAt W' w0.heap.size (fun k => w0.heap.size ≤ k ∧ k ∉ xs) g d') (hk : KeptB (fun k => w0.heap.size ≤ k ∧ k ∉ xs) W W') : SR w0 xs W' g d' ∧ Sm xs W W' := h.kept (hd.mono (fun _ e => .inl e)) hk
end SR
theorem sr_write {w0 W : World} {xs : List Nat} {g : Nat} {d : DS} (h : SR w0 xs W g d) (i : Int) (x c : Nat) (b : List Int) (hx : x ∈ xs) (hs : RowAt W x b) (hc : b.length ≤ c) (hP : d.P.length < 1099511627776) :
    Calls Tryz.prog 48 #[.pointer (some ⟨g, 0, none⟩), .int .i64 i, .slice (some ⟨x, 0, none⟩) b.length c] W fun e w' => e = .returned (.int .i64 (d.wr i b).2) ∧ SR w0 xs w' g (d.wr i b).1 ∧ Sm xs W w' :=
  (r_write h.1 (fun _ hk => hk.1) i (some ⟨x, 0, none⟩) c b (fun _ hk => (RowAt.move hs (hk.2 x (h.2.2 x hx) (fun z => z.2 hx))).choose_spec.2) hc hP).mono fun _ _ ⟨h1, h2, h3⟩ => ⟨h1, h.kept h2 h3⟩
theorem sr_flush {w0 W : World} {xs : List Nat} {g : Nat} {d : DS} (h : SR w0 xs W g d) :
    Calls Tryz.prog 49 #[.pointer (some ⟨g, 0, none⟩)] W fun e w' => e = .returned (.int .i64 d.fl.2) ∧ SR w0 xs w' g d.fl.1 ∧ Sm xs W w' :=
  (r_flush h.1 (fun _ hk => hk.1)).mono fun _ _ ⟨h1, h2, h3⟩ => ⟨h1, h.kept2 h2 h3⟩
theorem sr_restart {w0 W : World} {xs : List Nat} {g : Nat} {d : DS} (h : SR w0 xs W g d) :
    Calls Tryz.prog 12 #[.pointer (some ⟨g, 0, none⟩)] W fun e w' => e = .returned (.tuple #[]) ∧ SR w0 xs w' g d.restart ∧ Sm xs W w' :=
  (r_restart h.1 (fun _ hk => hk.1)).mono fun _ _ ⟨h1, h2, h3⟩ => ⟨h1, h.kept2 h2 h3⟩
theorem sr_arm {w0 W : World} {xs : List Nat} {g : Nat} {d : DS} (h : SR w0 xs W g d) (a : Int) (A : Option Addr) (c : Nat) (l : List Int) (hl : l.length ≤ c) (hr : LeftC W w0.heap.size A l) :
    Calls Tryz.prog 8 #[.pointer (some ⟨g, 0, none⟩), .agg #[.int .i64 a, .slice A l.length c]] W fun e w' => e = .returned (.tuple #[]) ∧ SR w0 xs w' g (d.arm a l) ∧ Sm xs W w' :=
  (r_arm h.1 a A c l hl hr).mono fun _ _ ⟨h1, h2, h3⟩ => ⟨h1, h.kept2 h2 h3⟩
theorem sr_read {w0 W : World} {xs : List Nat} {g : Nat} {d : DS} (h : SR w0 xs W g d) (i : Int) :
    Calls Tryz.prog 59 #[.pointer (some ⟨g, 0, none⟩), .int .i64 i] W fun e w' => ∃ v0, e = .returned v0 ∧ (Kd.int .u8).R 5 w' W.heap.size (fun _ => True) v0 (d.rd i) ∧ SR w0 xs w' g d ∧ Sm xs W w' ∧ Below W.heap.size W w' :=
  (r_read h.1 i).mono fun _ _ ⟨v0, h1, h2, h3⟩ => ⟨v0, h1, h2, h.after h3, fun x hx => h3.block x (h.2.2 x hx), h3⟩
end Go.Proofs.YtkicekddkgehoaaGreatDoor.Dsk
