/- Contracts of the calls, by hand. -/
import Derived.Test.YtkicekddkgehoaaQSlotLastx1
import Derived.Test.YtkicekddkgehoaaDisk7
namespace Go.Proofs.Ytkicekddkgehoaa.Hnd
open Go.RowKit Go.Proofs.Ytkicekddkgehoaa.QSlotLast Go.Proofs.YtkicekddkgehoaaW.PrintWords Go.Proofs.YtkicekddkgehoaaW.PrintLast Go.Proofs.YtkicekddkgehoaaW.Dk 
set_option linter.unusedVariables false
set_option linter.unusedSimpArgs false
/-! What a law needs: a disk of its own and rows beside it. -/
/-- A disk at g, made since w0; no block of it is among xs. -/
def St (w0 : World) (xs : List Nat) (W : World) (g : Nat) (d : DS) : Prop :=
  DiskAt W w0.heap.size (fun k => w0.heap.size ≤ k ∧ k ∉ xs) g d ∧ Below w0.heap.size w0 W ∧ ∀ x, x ∈ xs → x < W.heap.size
def Sm (xs : List Nat) (W W' : World) : Prop := ∀ x, x ∈ xs → W'.heap[x]? = W.heap[x]?
theorem St.after {w0 W W' : World} {xs : List Nat} {g : Nat} {d : DS} (h : St w0 xs W g d) (hb : Below W.heap.size W W') : St w0 xs W' g d :=
  ⟨h.1.below hb, h.2.1.trans (hb.mono h.2.1.size), fun x hx => Nat.lt_of_lt_of_le (h.2.2 x hx) hb.size⟩
theorem St.drew {w0 W : World} {xs : List Nat} {g : Nat} {d : DS} (h : St w0 xs W g d) : St w0 xs W.drew g d := h.after (below_drew1 (Below.refl _ _))
theorem St.more {w0 W W' : World} {xs : List Nat} {g : Nat} {d : DS} (h : St w0 xs W g d) (hb : Below W.heap.size W W') (x : Nat) (h1 : W.heap.size ≤ x) (h2 : x < W'.heap.size) : St w0 (x :: xs) W' g d :=
  ⟨(h.1.bound.mono (ok' := fun k => w0.heap.size ≤ k ∧ k ∉ x :: xs) (fun k hk => ⟨hk.1.1, fun e => (List.mem_cons.1 e).elim (fun e => by have := hk.2.2.1; omega) hk.1.2⟩)).below hb, h.2.1.trans (hb.mono h.2.1.size),
    fun y hy => (List.mem_cons.1 hy).elim (fun e => by rw [e]; exact h2) (fun e => Nat.lt_of_lt_of_le (h.2.2 y e) hb.size)⟩
theorem St.kept {w0 W W' : World} {xs : List Nat} {g : Nat} {d d' : DS} (h : St w0 xs W g d) (hd : DiskAt W' w0.heap.size (fun k => (w0.heap.size ≤ k ∧ k ∉ xs) ∨ W.heap.size ≤ k) g d') (hk : KeptB (fun k => w0.heap.size ≤ k ∧ k ∉ xs) W W') : St w0 xs W' g d' ∧ Sm xs W W' :=
  ⟨⟨hd.mono (fun k hk2 => hk2.elim id (fun e => ⟨Nat.le_trans h.2.1.size e, fun ex => by have := h.2.2 k ex; omega⟩)), hk.below h.2.1 h.2.1.size (fun _ e => e.1), fun x hx => Nat.lt_of_lt_of_le (h.2.2 x hx) hk.size⟩,
    fun x hx => hk.block x (h.2.2 x hx) (fun e => e.2 hx)⟩
theorem St.kept2 {w0 W W' : World} {xs : List Nat} {g : Nat} {d d' : DS} (h : St w0 xs W g d) (hd : DiskAt W' w0.heap.size (fun k => w0.heap.size ≤ k ∧ k ∉ xs) g d') (hk : KeptB (fun k => w0.heap.size ≤ k ∧ k ∉ xs) W W') : St w0 xs W' g d' ∧ Sm xs W W' := h.kept (hd.mono (fun _ e => .inl e)) hk
theorem st_new (n : Nat) (hn : n ≤ 4000) (w0 w : World) (hb : Below w0.heap.size w0 w) (xs : List Nat) (hx : ∀ x, x ∈ xs → x < w.heap.size) :
    Calls Try.prog 7 #[.int .i64 (n : Int)] w fun e w' => e = .returned (.pointer (some ⟨w.heap.size, 0, none⟩)) ∧ St w0 xs w' w.heap.size (DS.new n) ∧ Sm xs w w' :=
  (new_any n hn w).mono fun e w' ⟨h1, h2, h3⟩ => ⟨h1, ⟨(h2.lower hb.size).mono (fun k hk => ⟨Nat.le_trans hb.size hk, fun e => by have := hx k e; omega⟩), hb.trans (h3.mono hb.size), fun x e => Nat.lt_of_lt_of_le (hx x e) h3.size⟩, fun x e => h3.block x (hx x e)⟩
theorem st_write {w0 W : World} {xs : List Nat} {g : Nat} {d : DS} (h : St w0 xs W g d) (i : Int) (x c : Nat) (b : List Int) (hx : x ∈ xs) (hs : SecAt W x b) (hc : b.length ≤ c) (hl : b.length ≤ 9223372036854775807) (hP : d.P.length < 1099511627776) :
    Calls Try.prog 33 #[.pointer (some ⟨g, 0, none⟩), .int .i64 i, .slice (some ⟨x, 0, none⟩) b.length c] W fun e w' => e = .returned (.int .i64 (d.wr i b).2) ∧ St w0 xs w' g (d.wr i b).1 ∧ Sm xs W w' :=
  (write_any h.1 i (some ⟨x, 0, none⟩) c b (fun W_ hk => Kd.C_int_cells (T := 5) (fr := (0, 0)) ((hk.2 x (h.2.2 x hx) (fun e => e.2 hx)).trans hs) rfl hl) hc hP).mono fun e w' ⟨h1, h2, h3⟩ => ⟨h1, h.kept h2 h3⟩
theorem st_write16 {w0 W : World} {xs : List Nat} {g : Nat} {d : DS} (h : St w0 xs W g d) (i : Int) (x : Nat) (b : List Int) (hx : x ∈ xs) (hs : SecAt W x b) (hl : b.length = 16) (hP : d.P.length < 1099511627776) :
    Calls Try.prog 33 #[.pointer (some ⟨g, 0, none⟩), .int .i64 i, .slice (some ⟨x, 0, none⟩) 16 16] W fun e w' => e = .returned (.int .i64 (d.wr i b).2) ∧ St w0 xs w' g (d.wr i b).1 ∧ Sm xs W w' := by
  have h1 := st_write h i x 16 b hx hs (by omega) (by omega) hP
  rwa [hl] at h1
theorem st_flush {w0 W : World} {xs : List Nat} {g : Nat} {d : DS} (h : St w0 xs W g d) :
    Calls Try.prog 34 #[.pointer (some ⟨g, 0, none⟩)] W fun e w' => e = .returned (.int .i64 d.fl.2) ∧ St w0 xs w' g d.fl.1 ∧ Sm xs W w' :=
  (flush_any h.1).mono fun e w' ⟨h1, h2, h3⟩ => ⟨h1, h.kept2 h2 h3⟩
theorem st_restart {w0 W : World} {xs : List Nat} {g : Nat} {d : DS} (h : St w0 xs W g d) :
    Calls Try.prog 18 #[.pointer (some ⟨g, 0, none⟩)] W fun e w' => e = .returned (.tuple #[]) ∧ St w0 xs w' g d.restart ∧ Sm xs W w' :=
  (restart_any h.1).mono fun e w' ⟨h1, h2, h3⟩ => ⟨h1, h.kept2 h2 h3⟩
theorem st_arm {w0 W : World} {xs : List Nat} {g : Nat} {d : DS} (h : St w0 xs W g d) (a : Int) (A : Option Addr) (c : Nat) (l : List S63) (hr : Kd.C k63 W A l.length l) (hc : l.length ≤ c) (hl : l.length < 17592186044416) :
    Calls Try.prog 13 #[.pointer (some ⟨g, 0, none⟩), .agg #[.int .i64 a, .slice A l.length c]] W fun e w' => e = .returned (.tuple #[]) ∧ St w0 xs w' g (d.arm a (l.map fun x => x.f0)) ∧ Sm xs W w' :=
  (arm_any h.1 a A c l hr hc hl).mono fun e w' ⟨h1, h2, h3⟩ => ⟨h1, h.kept h2 h3⟩
theorem st_arm1 {w0 W : World} {xs : List Nat} {g : Nat} {d : DS} (h : St w0 xs W g d) (a x : Int) (k : Nat) (hr : W.heap[k]? = some (.cells #[.int .i64 x] 63 (0, 0))) :
    Calls Try.prog 13 #[.pointer (some ⟨g, 0, none⟩), .agg #[.int .i64 a, .slice (some ⟨k, 0, none⟩) 1 1]] W fun e w' => e = .returned (.tuple #[]) ∧ St w0 xs w' g (d.arm a [x]) ∧ Sm xs W w' :=
  st_arm h a (some ⟨k, 0, none⟩) 1 [⟨x⟩] (Kd.C_cells1 (xs := [(⟨x⟩ : S63)]) hr rfl (by simp) (fun j p hj => by
    cases j with
    | zero => injection hj with hj; subst hj; exact ⟨_, rfl, rfl⟩
    | succ j => simp at hj)) (by simp) (by simp)
theorem st_arm0 {w0 W : World} {xs : List Nat} {g : Nat} {d : DS} (h : St w0 xs W g d) (a : Int) :
    Calls Try.prog 13 #[.pointer (some ⟨g, 0, none⟩), .agg #[.int .i64 a, .slice none 0 0]] W fun e w' => e = .returned (.tuple #[]) ∧ St w0 xs w' g (d.arm a []) ∧ Sm xs W w' :=
  st_arm h a none 0 [] (Kd.C_nil _ _) (by simp) (by simp)
theorem st_read {w0 W : World} {xs : List Nat} {g : Nat} {d : DS} (h : St w0 xs W g d) (i : Int) :
    Calls Try.prog 36 #[.pointer (some ⟨g, 0, none⟩), .int .i64 i] W fun e w' => ∃ v0, e = .returned v0 ∧ (Kd.int .u8).R 5 w' W.heap.size (fun _ => True) v0 (d.rd i) ∧ St w0 xs w' g d ∧ Sm xs W w' ∧ Below W.heap.size W w' :=
  (read_any h.1 i).mono fun e w' ⟨v0, h1, h2, h3⟩ => ⟨v0, h1, h2, h.after h3, fun x hx => h3.block x (h.2.2 x hx), h3⟩
theorem st_down {w0 W : World} {xs : List Nat} {g : Nat} {d : DS} (h : St w0 xs W g d) :
    Calls Try.prog 48 #[.pointer (some ⟨g, 0, none⟩)] W fun e w' => e = .returned (.bool d.down) ∧ W = w' := down_any h.1
theorem st_ops {w0 W : World} {xs : List Nat} {g : Nat} {d : DS} (h : St w0 xs W g d) :
    Calls Try.prog 11 #[.pointer (some ⟨g, 0, none⟩)] W fun e w' => e = .returned (.int .i64 d.N) ∧ W = w' := ops_any h.1
theorem st_size {w0 W : World} {xs : List Nat} {g : Nat} {d : DS} (h : St w0 xs W g d) :
    Calls Try.prog 29 #[.pointer (some ⟨g, 0, none⟩)] W fun e w' => e = .returned (.int .i64 (d.S.length : Int)) ∧ W = w' := size_any h.1
/-! No disk at all. -/
theorem ops_nil (w : World) : Calls Try.prog 11 #[.pointer none] w fun e w' => e = .returned (.int .i64 0) ∧ w = w' := by
  go_enter Try.func11, Try.ntmps11
  go_wp2
  go_ret
  exact ⟨rfl, rfl⟩
theorem size_nil (w : World) : Calls Try.prog 29 #[.pointer none] w fun e w' => e = .returned (.int .i64 0) ∧ w = w' := by
  go_enter Try.func29, Try.ntmps29
  go_wp2
  go_ret
  exact ⟨rfl, rfl⟩
theorem write_nil (w : World) (i : Int) (v : Value) : Calls Try.prog 33 #[.pointer none, .int .i64 i, v] w fun e w' => e = .returned (.int .i64 5) ∧ Below w.heap.size w w' := by
  go_enter Try.func33, Try.ntmps33
  go_wp2_with (go_at_call 48; refine (down_nil _).mono ?_; rintro e w' ⟨rfl, rfl⟩)
  go_ret
  exact ⟨rfl, Below.refl _ _⟩
theorem flush_nil (w : World) : Calls Try.prog 34 #[.pointer none] w fun e w' => e = .returned (.int .i64 5) ∧ Below w.heap.size w w' := by
  go_enter Try.func34, Try.ntmps34
  go_wp2_with (go_at_call 48; refine (down_nil _).mono ?_; rintro e w' ⟨rfl, rfl⟩)
  go_ret
  exact ⟨rfl, Below.refl _ _⟩
theorem restart_nil (w : World) : Calls Try.prog 18 #[.pointer none] w fun e w' => e = .returned (.tuple #[]) ∧ Below w.heap.size w w' := by
  go_enter Try.func18, Try.ntmps18
  go_wp2
  go_end0
  exact ⟨rfl, Below.refl _ _⟩
theorem arm_nil (w : World) (a : Int) (u : Value) : Calls Try.prog 13 #[.pointer none, .agg #[.int .i64 a, u]] w fun e w' => e = .returned (.tuple #[]) ∧ Below w.heap.size w w' := by
  go_enter Try.func13, Try.ntmps13
  go_wp2
  go_end0
  exact ⟨rfl, below_alloc (Below.refl _ _) _⟩
theorem read_nil (w : World) (i : Int) : Calls Try.prog 36 #[.pointer none, .int .i64 i] w fun e w' => e = .returned (.slice none 0 0) ∧ Below w.heap.size w w' := by
  have hB : Aside0 (Below w.heap.size w ((w.alloc (.cells #[.int .i64 i] 3)).alloc (.cells #[.slice none 0 0] 22))) := ⟨below_alloc (below_alloc (Below.refl _ _) _) _⟩
  go_enter Try.func36, Try.ntmps36
  go_wp2_with fail
  go_quiet (fail)
  go_wp2
  refine bodyPost_ret (v := .slice none 0 0) (by simp [results, Try.results36, go_sem]) rfl ⟨rfl, ?_⟩
  exact below_set (pw_below_drewN hB.out _) (Nat.le_succ _)
/-! A whole sector of some bytes. -/
def wh (l : List Int) : List Int := l.take 16 ++ List.replicate (16 - l.length) 0
theorem wh_len (l : List Int) : (wh l).length = 16 := by unfold wh; rw [List.length_append, List.length_take, List.length_replicate]; omega
theorem wh_copied' (w : World) (g : Nat) (hg : w.heap[g]? = some (.cells z16 5 (0, 0))) (A : Option Addr) (c : Nat) (l : List Int) (ty : TypeId) (hC : (Kd.int .u8).C w A l.length l) :
    (Builtin.copy_ #[22, 22] ty #[.slice (some ⟨g, 0, none⟩) 16 16, .slice A l.length c]).run Try.prog w = .ok (goInt (Nat.min l.length 16)) (w.setCells g 0 ((l.take 16).map (Value.int .u8))) ∧ SecAt (w.setCells g 0 ((l.take 16).map (Value.int .u8))) g (wh l) := by
  have hlen : ((l.take 16).map (Value.int .u8)).length = Nat.min l.length 16 := by rw [List.length_map, List.length_take]; exact Nat.min_comm _ _
  have hsz : z16.size = 16 := by kernel_rfl
  have hmin : Nat.min l.length 16 ≤ 16 := Nat.min_le_right _ _
  obtain ⟨cur', h1, h2, h3⟩ := setCells_row ((l.take 16).map (Value.int .u8)) 0 w _ hg (by rw [hlen, hsz]; omega)
  refine ⟨?_, ?_⟩
  · cases A with
    | none =>
      have h0 : l = [] := by
        cases l with
        | nil => rfl
        | cons a r => obtain ⟨ad, e, _⟩ := hC.2.2 (by simp); cases e
      subst h0
      exact run_copy_none w _ _ ty 5 _ _ 16 16 _ c Try.underlying22 size5 rfl
    | some ad =>
      exact Kd.run_copy_cells_sz w _ _ ty 5 g 0 16 16 ad l.length c (Nat.min l.length 16) 1 _ Try.underlying22 size5 rfl (by rw [hlen, Nat.mul_one]) (fun j v hj => by
          have hjn : j < Nat.min l.length 16 := by rw [← hlen]; exact (List.getElem?_eq_some_iff.1 hj).1
          have hjl : j < l.length := Nat.lt_of_lt_of_le hjn (Nat.min_le_left _ _)
          obtain ⟨ad', e, hc⟩ := Kd.at_int hC (j : Int) (by omega) (by omega)
          injection e with e
          subst e
          rw [Int.toNat_natCast] at hc
          rw [hc, ← hj, List.getElem?_map, List.getElem?_take, if_pos (by omega), rd, Int.toNat_natCast, List.getD_eq_getElem?_getD, List.getElem?_eq_getElem hjl]
          rfl)
        (fun j hj => by rw [Nat.zero_add, cell_of_row w g j _ _ (0, 0) hg, Array.getElem?_eq_getElem (by rw [hsz]; rw [hlen] at hj; omega)]; rfl) (fun j hj => blk_frozen hg _) (fun v hv => by obtain ⟨x, _, rfl⟩ := List.mem_map.1 hv; rfl)
  · show _ = _
    rw [h1]
    congr 2
    apply Array.toList_inj.1
    rw [h3, hlen, wh]
    have e : ((l.take 16) ++ List.replicate (16 - l.length) 0).map (Value.int .u8) = (l.take 16).map (Value.int .u8) ++ (List.replicate (16 - l.length) 0).map (Value.int .u8) := List.map_append
    rw [List.toList_toArray, e, z16]
    have hm : 16 - Nat.min l.length 16 = 16 - l.length := by rw [show Nat.min l.length 16 = min l.length 16 from rfl]; omega
    simp
    show List.drop _ (List.replicate 16 (Value.int .u8 0)) = _
    rw [List.drop_replicate, hm]
theorem wh_copied (w : World) (g : Nat) (hg : w.heap[g]? = some (.cells z16 5 (0, 0))) (A : Option Addr) (c : Nat) (l : List Int) (ty : TypeId) (hC : (Kd.int .u8).C w A l.length l) :
    (Builtin.copy_ #[22, 22] ty #[.slice (some ⟨g, 0, none⟩) 16 16, .slice A l.length c]).run Try.prog w = .ok (goInt (Nat.min l.length 16)) (w.setCells g 0 ((l.map (Value.int .u8)).take 16)) ∧ SecAt (w.setCells g 0 ((l.map (Value.int .u8)).take 16)) g (wh l) := by
  rw [← List.map_take]
  exact wh_copied' w g hg A c l ty hC
attribute [local go_sem] Oper.semAt_some
/-- A fresh row of bytes has a block of its own. -/
theorem R_plain {e base : Nat} {ok : Nat → Prop} {w : World} {v : Value} {b : List Int} (h : (Kd.int .u8).R e w base ok v b) (hn : 0 < b.length) :
    ∃ q c, v = .slice (some ⟨q, 0, none⟩) b.length c ∧ b.length ≤ c ∧ base ≤ q ∧ q < w.heap.size ∧ w.frozen? ⟨q, 0, none⟩ = false ∧ (Kd.int .u8).C w (some ⟨q, 0, none⟩) b.length b ∧ ∀ i : Nat, i < b.length → w.cell? ⟨q, i, none⟩ = some (.int .u8 (b.getD i 0)) := by
  obtain ⟨q, c, hv, hlc⟩ := Kd.own_some h hn
  obtain ⟨A', c', hv', hlc', hC⟩ := Kd.R_reads h
  rw [hv] at hv'
  injection hv' with e1 _ e2
  subst e1
  have hob : v.ownBlock = some q := by rw [hv]; rfl
  obtain ⟨cells, hce⟩ := own_typed h.2.choose_spec.1 q hob
  refine ⟨q, c, hv, hlc, own_base h.2.choose_spec.1 q hob, own_lt h.2.choose_spec.1 q hob, blk_frozen hce 0, hC, fun i hi => ?_⟩
  obtain ⟨ad, e3, hx⟩ := Kd.at_int hC (i : Int) (by omega) (by omega)
  injection e3 with e3
  subst e3
  rw [Int.toNat_natCast, Kd.add_plain2, Nat.zero_add] at hx
  rw [hx, rd, Int.toNat_natCast]
end Go.Proofs.Ytkicekddkgehoaa.Hnd
