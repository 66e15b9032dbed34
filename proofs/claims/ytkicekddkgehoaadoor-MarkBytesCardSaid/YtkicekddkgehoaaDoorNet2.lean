/- Contracts of the calls, by hand. -/
import Derived.Test.YtkicekddkgehoaaDoorQMarkBytesx2
import Derived.Test.YtkicekddkgehoaaDoorNet1
import Derived.RangeFuncNested
import Derived.RangeFuncBound
import Derived.RangeFuncCalls
import Derived.RangeFuncLeaves
import Derived.RangeFuncBox
import Derived.Shelf.Abstract
import Derived.Shelf.RegionOpen
import Derived.OwnWalkIn
import Derived.TacticsInMore
import Derived.LoopNIn
import Derived.LoopIn
import Derived.Sort.QuietIn
import Derived.Sort.CutIn
import Derived.Stop.RegionWithIn
import Derived.StillTailTactics
import Derived.Shelf.Strconv.AppendIntPublic10
import Derived.Shelf.Strconv.ErrVarParseInt
import Derived.Shelf.Bytes.IndexByte
import Derived.Lib.ItoaLen
import Derived.Lib.ParseIntBTie
import Derived.Lib.AtoiBound
namespace Go.Proofs.YtkicekddkgehoaaDoor.Hnd
open Go.RowKit Go.Proofs.YtkicekddkgehoaaDoor.QMarkBytes Go.Proofs.YtkicekddkgehoaaDoorW.PrintWords Go.Proofs.YtkicekddkgehoaaDoorW.PrintLast  Go.Shelf
set_option linter.unusedVariables false
set_option linter.unusedSimpArgs false
/-- All but the blocks of S, and what is new, stays. -/
structure KeptB (S : Nat → Prop) (w w' : World) : Prop where
  os : w'.os = w.os
  tape : w'.tape = w.tape
  output : w'.output = w.output
  size : w.heap.size ≤ w'.heap.size
  block : ∀ k, k < w.heap.size → ¬ S k → w'.heap[k]? = w.heap[k]?
namespace KeptB
variable {S S2 : Nat → Prop} {w w0 W W2 : World} {B : Nat}
theorem kept (h : KeptB S w W) : Kept w W S := ⟨h.size, h.block⟩
theorem refl (S : Nat → Prop) (w : World) : KeptB S w w := ⟨rfl, rfl, rfl, Nat.le_refl _, fun _ _ _ => rfl⟩
theorem then_ (h : KeptB S w W) (k : KeptB S2 W W2) (hs : ∀ k, S2 k → S k ∨ w.heap.size ≤ k) : KeptB S w W2 :=
  ⟨k.os.trans h.os, k.tape.trans h.tape, k.output.trans h.output, Nat.le_trans h.size k.size, fun i hi hn => (k.block i (Nat.lt_of_lt_of_le hi h.size) (fun h2 => (hs i h2).elim hn (fun h3 => by omega))).trans (h.block i hi hn)⟩
theorem trans (h : KeptB S w W) (k : KeptB S W W2) : KeptB S w W2 := h.then_ k (fun _ hk => .inl hk)
theorem mono (h : KeptB S w W) (hs : ∀ k, S k → S2 k) : KeptB S2 w W := ⟨h.os, h.tape, h.output, h.size, fun i hi hn => h.block i hi (fun hk => hn (hs i hk))⟩
theorem of_below (h : Below w.heap.size w W) (S : Nat → Prop) : KeptB S w W := ⟨h.os, h.tape, h.output, h.size, fun i hi _ => h.block i hi⟩
theorem after (h : KeptB S w W) (hb : Below W.heap.size W W2) : KeptB S w W2 := h.then_ (of_below hb (fun _ => False)) (fun _ hk => hk.elim)
theorem alloc (h : KeptB S w W) (o : Obj) : KeptB S w (W.alloc o) := h.after (below_alloc (Below.refl _ _) o)
theorem drew (h : KeptB S w W) : KeptB S w W.drew := h.after (below_drew1 (Below.refl _ _))
theorem drewN (h : KeptB S w W) (n : Nat) : KeptB S w (W.drewN n) := h.after (pw_below_drewN (Below.refl _ _) n)
theorem setCell (h : KeptB S w W) {p : Addr} (hp : S p.block ∨ w.heap.size ≤ p.block) (u : Value) : KeptB S w (W.setCell p u) :=
  h.then_ (S2 := fun k => k = p.block) ⟨rfl, rfl, rfl, by simp [World.setCell], fun i _ hn => Below.heap_setCell W p u i hn⟩ (fun k hk => by rw [hk]; exact hp)
theorem setCells (h : KeptB S w W) {g : Nat} (hg : S g ∨ w.heap.size ≤ g) : ∀ {vs : List Value} {o : Nat}, KeptB S w (W.setCells g o vs) := by
  intro vs
  induction vs generalizing W with
  | nil => intro o; exact h
  | cons v r ih => intro o; exact ih (h.setCell (p := ⟨g, o, none⟩) hg v)
theorem grown (h : KeptB S w W) {row : Option Nat} (hg : W.grownBy W2 row) (hr : ∀ k, row = some k → S k ∨ w.heap.size ≤ k) : KeptB S w W2 :=
  h.then_ (S2 := fun k => row = some k) ⟨hg.os, hg.tape, hg.output, hg.size, fun i hi hn => hg.block i hi (fun he => hn he.symm)⟩ hr
/-- What is kept from the call's begin on, where all that was written is new since. -/
theorem below (h : KeptB S w W) (hb : Below B w0 w) (hB : B ≤ w.heap.size) (hS : ∀ k, S k → B ≤ k) : Below B w0 W :=
  ⟨h.os.trans hb.os, h.tape.trans hb.tape, h.output.trans hb.output, Nat.le_trans hb.size h.size, fun k hk => (h.block k (by omega) (fun hs => by have := hS k hs; omega)).trans (hb.block k hk)⟩
end KeptB
theorem cell_of_heap {w W : World} {p : Addr} (h : W.heap[p.block]? = w.heap[p.block]?) : W.cell? p = w.cell? p := by
  unfold World.cell?
  rw [h]
theorem C_blk {w W : World} {A : Option Addr} {n : Nat} {b : List Int} (h : (Kd.int .u8).C w A n b) (hm : ∀ ad, A = some ad → 0 < n → W.heap[ad.block]? = w.heap[ad.block]?) : (Kd.int .u8).C W A n b :=
  ⟨h.1, h.2.1, fun hp => by
    obtain ⟨ad, e, hc⟩ := h.2.2 hp
    refine ⟨ad, e, fun j p hj => ?_⟩
    obtain ⟨c, g1, g2, g3⟩ := hc j p hj
    exact ⟨c, g1, g2, fun i u hu => (cell_of_heap (by rw [add_block]; exact hm ad e hp)).trans (g3 i u hu)⟩⟩
attribute [local go_sem] Oper.semAt_some
/-! Numbers, texts, and the number that bytes begin with. -/
theorem conv_str {w : World} {A : Option Addr} {n c : Nat} {xs : List Int} (h : (Kd.int .u8).C w A n xs) : (convert 26 9 (.slice A n c)).run Tryd.prog w = .ok (.string (strOfNums xs)) w :=
  Kd.C_string (P := Tryd.prog) (A := A) (c := c) Tryd.underlying26 Tryd.underlying5 Tryd.underlying9 h
def cutA (A : Option Addr) (c m : Nat) : Option Addr := if c = m then A else A.map (·.add m)
theorem elemB : (Tryd.prog).elem 26 = 5 := by simp [Program.elem, Tryd.underlying26]
theorem underB : (Tryd.prog).underlying 26 = some (.slice ((Tryd.prog).elem 26)) := by rw [elemB]; exact Tryd.underlying26
theorem run_take (A : Option Addr) (c n m : Nat) (hm : m ≤ c) (W : World) : (Instr.slice 26 (.slice A n c) none (some (.int .i64 (m : Int))) none).run Tryd.prog W = .ok (.slice A m c) W := by
  obtain ⟨i0, hi, hz0, hz1, hz2⟩ := info_parts info5
  have ha : (A.map fun x => x.add 0) = A := by cases A <;> simp [Addr.add]
  rw [run_slice_h W 26 A n c underB .i64 m (by omega) (by omega), elemB]
  simp [sizeOf, typeInfo, hi, hz1, sliced, Result.andThen, ha]
theorem run_drop (A : Option Addr) (c n m : Nat) (hm : m ≤ n) (W : World) : (Instr.slice 26 (.slice A n c) (some (.int .i64 (m : Int))) none none).run Tryd.prog W = .ok (.slice (cutA A c m) (n - m) (c - m)) W := by
  obtain ⟨i0, hi, hz0, hz1, hz2⟩ := info_parts info5
  rw [run_slice_l W 26 A n c underB .i64 m (by omega) (by omega), elemB]
  simp [sizeOf, typeInfo, hi, hz1, sliced, Result.andThen, cutA]
theorem cut_C {w : World} {A : Option Addr} {c m : Nat} {b : List Int} (h : (Kd.int .u8).C w A b.length b) (hm : m ≤ b.length) (hc : b.length ≤ c) : (Kd.int .u8).C w (cutA A c m) (b.drop m).length (b.drop m) := by
  have h2 := Kd.C_drop (m := m) (c := c) h hm hc
  rw [show (Kd.int .u8).sz = 1 from rfl, Nat.mul_one] at h2
  exact h2
theorem cut_plain {A : Option Addr} {c m : Nat} (h : Plain A c) : Plain (cutA A c m) (c - m) := by
  unfold cutA
  rcases h with ⟨rfl, rfl⟩ | ⟨g, o, rfl⟩
  · left
    refine ⟨?_, by omega⟩
    split <;> rfl
  · right
    split
    · exact ⟨g, o, rfl⟩
    · exact ⟨g, o + m, by rw [Option.map_some, Kd.add_plain2]⟩
theorem cut_block {A : Option Addr} {c m : Nat} {ad : Addr} (h : cutA A c m = some ad) : ∃ ad0, A = some ad0 ∧ ad.block = ad0.block := by
  unfold cutA at h
  split at h
  · exact ⟨ad, h, rfl⟩
  · cases A with
    | none => cases h
    | some a =>
      rw [Option.map_some] at h
      injection h with h
      exact ⟨a, rfl, by rw [← h, add_block]⟩
theorem take_C {w : World} {A : Option Addr} {m : Nat} {b : List Int} (h : (Kd.int .u8).C w A b.length b) (hm : m ≤ b.length) : (Kd.int .u8).C w A m (b.take m) := by
  have h2 := Kd.C_take (m := m) h hm
  rwa [show (b.take m).length = m by rw [List.length_take]; omega] at h2
theorem itoa_le {n : Int} (hn : NT.Rng n) : (NT.ints (Lib.itoa n)).length ≤ 21 := by
  rw [NT.ints_len]
  exact Lib.itoa_length_le n hn.1 hn.2
set_option maxHeartbeats 2000000 in
theorem num_c (n : Int) (hn : NT.Rng n) (w : World) (hT : NTabs w) :
    Calls Tryd.prog 23 #[.int .i64 n] w fun e w' => ∃ v, e = .returned v ∧ (Kd.int .u8).R 5 w' w.heap.size (fun _ => True) v (NT.num n) ∧ Below w.heap.size w w' := by
  have HT := Aside0.mk hT
  have HN := Aside0.mk hn
  have HL := Aside0.mk (itoa_le hn)
  unfold NT.num
  obtain ⟨xs, hxs⟩ : ∃ xs, NT.ints (Lib.itoa n) = xs := ⟨_, rfl⟩
  rw [hxs] at HL ⊢
  have HX := Aside0.mk hxs
  clear hT hn hxs
  go_enter Tryd.func23, Tryd.ntmps23
  go_wp2_with (first
    | ((with_reducible refine gate_builtin (b := .append) (xs := #[.tmp 4, .tmp 5]) rfl ?_); at_builtin; refine Kd.R_append (Kd.int .u8) (w0 := w) w.heap.size rfl (.tmp 4) (.tmp 5) 26 5 (.int .u8 0) 1 rfl Tryd.underlying26 info5 rfl (by decide) (by decide) v1 xs 59 [.int .u8 59] (fun _ => True) (fun _ => False) rfl rfl rfl (fun _ h => h.elim) (fun _ _ => trivial) R1.out B1.out B1.out.size (by have := HL.out; omega) ?_; intro v2 w2 hR hB _ _; have R2 := Aside0.mk hR; have B2 := Aside0.mk hB; clear hR hB)
    | (go_at_call 42; refine (appendint_c n HN.out w HT.out).mono ?_; rw [HX.out]; rintro e w1 ⟨v1, rfl, hR, hB⟩; have R1 := Aside0.mk hR; have B1 := Aside0.mk hB; clear hR hB))
  go_ret
  exact ⟨_, rfl, R2.out, B2.out⟩
theorem num_len_le {n : Int} (hn : NT.Rng n) : (NT.num n).length ≤ 22 := by
  rw [NT.num_len]
  have := itoa_le hn
  omega
attribute [local go_sem] Oper.semAt_some
def strL (s : ByteArray) : List Int := NT.ints s.data.toList
theorem bytesOf_strL (s : ByteArray) : bytesOf s = strL s := by
  unfold strL NT.ints bytesOf
  rfl
theorem strL_len (s : ByteArray) : (strL s).length = s.size := by
  unfold strL
  rw [NT.ints_len, Array.length_toList]
  rfl
theorem strL_bytes (s : ByteArray) : NBytes (strL s) := by
  intro x hx
  unfold strL NT.ints at hx
  obtain ⟨c, _, rfl⟩ := List.mem_map.1 hx
  have := c.toNat_lt
  omega
theorem strOf_strL (s : ByteArray) : strOfNums (strL s) = s := by
  unfold strL
  apply ByteArray.ext
  apply Array.ext'
  show (NT.u8s (NT.ints s.data.toList)) = _
  exact NT.u8s_ints _
theorem strL_strOf {b : List Int} (h : NBytes b) : strL (strOfNums b) = b := by
  unfold strL
  show NT.ints (NT.u8s b) = b
  exact NT.ints_u8s h
theorem strOf_data (b : List Int) : (strOfNums b).data.toList = NT.u8s b := rfl
set_option maxHeartbeats 2000000 in
theorem text_c (s : ByteArray) (hs : s.size ≤ 1099511627776) (w : World) (hT : NTabs w) :
    Calls Tryd.prog 25 #[.string s] w fun e w' => ∃ v, e = .returned v ∧ (Kd.int .u8).R 5 w' w.heap.size (fun _ => True) v (NT.text (strL s)) ∧ Below w.heap.size w w' := by
  have HT := Aside0.mk hT
  have hr : NT.Rng (s.size : Int) := ⟨by omega, by omega⟩
  have HN := Aside0.mk hr
  have HS := Aside0.mk hs
  have HL := Aside0.mk (num_len_le hr)
  have e : NT.text (strL s) = NT.num (s.size : Int) ++ bytesOf s := by unfold NT.text; rw [strL_len, bytesOf_strL]
  rw [e]
  obtain ⟨xs, hxs⟩ : ∃ xs, NT.num (s.size : Int) = xs := ⟨_, rfl⟩
  rw [hxs] at HL ⊢
  have HX := Aside0.mk hxs
  clear hT hr hxs hs e
  go_enter Tryd.func25, Tryd.ntmps25
  go_wp2_with (first
    | ((with_reducible refine gate_builtin (b := .append) (xs := #[.tmp 5, .tmp 6]) rfl ?_); at_builtin; refine print_append_str (w0 := w) w.heap.size rfl (.tmp 5) (.tmp 6) 26 9 5 rfl Tryd.underlying26 Tryd.underlying9 info5 v1 xs s rfl rfl (Kd.own_of_R R1.out) B1.out B1.out.size (by have := HL.out; have := HS.out; omega) ?_; intro v2 w2 hR hB _; have R2 := Aside0.mk hR; have B2 := Aside0.mk hB; clear hR hB)
    | (go_at_call 23; refine (num_c _ HN.out w HT.out).mono ?_; rw [HX.out]; rintro e w1 ⟨v1, rfl, hR, hB⟩; have R1 := Aside0.mk hR; have B1 := Aside0.mk hB; clear hR hB))
  go_ret
  exact ⟨_, rfl, Kd.R_of_own (enc := Value.int .u8) R2.out (fun _ _ => trivial), B2.out⟩
/-! A Reader in memory: of type T at g; its row lies in no block of bad. -/
def NR (T : Nat) (pl : Prop) (W : World) (bad : List Nat) (g : Nat) (b : List Int) : Prop :=
  ∃ A c, W.heap[g]? = some (.cells #[.slice A b.length c] T (0, 0)) ∧ g ∈ bad ∧ b.length ≤ c ∧ (Kd.int .u8).C W A b.length b ∧ NBytes b ∧ (pl → Plain A c) ∧ ∀ ad, A = some ad → 0 < b.length → ad.block ∉ bad ∧ ad.block < W.heap.size
namespace NR
variable {T : Nat} {pl : Prop} {W W' : World} {bad ys : List Nat} {g x : Nat} {b : List Int}
theorem more (h : NR T pl W bad g b) (hb : Below W.heap.size W W') (hy : ∀ y, y ∈ ys → W.heap.size ≤ y) : NR T pl W' (ys ++ bad) g b := by
  obtain ⟨A, c, h1, h2, h3, h4, h5, h6, h7⟩ := h
  refine ⟨A, c, (hb.block g (Array.getElem?_eq_some_iff.1 h1).1).trans h1, List.mem_append.2 (.inr h2), h3, Kd.C_below h4 hb, h5, h6, fun ad e hp => ⟨fun hm => (List.mem_append.1 hm).elim (fun hm => by have := hy _ hm; have := (h7 ad e hp).2; omega) (h7 ad e hp).1, Nat.lt_of_lt_of_le (h7 ad e hp).2 hb.size⟩⟩
theorem after (h : NR T pl W bad g b) (hb : Below W.heap.size W W') : NR T pl W' bad g b := h.more (ys := []) hb (fun y hy => by cases hy)
theorem other (h : NR T pl W bad g b) (hk : KeptB (fun k => k = x) W W') (hx : x ∈ bad) (hne : g ≠ x) : NR T pl W' bad g b := by
  obtain ⟨A, c, h1, h2, h3, h4, h5, h6, h7⟩ := h
  exact ⟨A, c, (hk.block g (Array.getElem?_eq_some_iff.1 h1).1 hne).trans h1, h2, h3, C_blk h4 (fun ad e hp => hk.block _ (h7 ad e hp).2 (fun e2 => (h7 ad e hp).1 (by rw [e2]; exact hx))), h5, h6, fun ad e hp => ⟨(h7 ad e hp).1, Nat.lt_of_lt_of_le (h7 ad e hp).2 hk.size⟩⟩
theorem bytes (h : NR T pl W bad g b) : NBytes b := by obtain ⟨A, c, h1, h2, h3, h4, h5, h6, h7⟩ := h; exact h5
theorem lt (h : NR T pl W bad g b) : g < W.heap.size := by obtain ⟨A, c, h1, h2, h3, h4, h5, h6, h7⟩ := h; exact (Array.getElem?_eq_some_iff.1 h1).1
/-- What a cut leaves. -/
theorem cut {A : Option Addr} {c : Nat} (h1 : W.heap[g]? = some (.cells #[.slice A b.length c] T (0, 0))) (h2 : g ∈ bad) (h3 : b.length ≤ c) (h4 : (Kd.int .u8).C W A b.length b) (h5 : NBytes b) (h6 : pl → Plain A c) (h7 : ∀ ad, A = some ad → 0 < b.length → ad.block ∉ bad ∧ ad.block < W.heap.size) (m : Nat) (hm : m ≤ b.length) :
    NR T pl (W.setCell ⟨g, 0, none⟩ (.slice (cutA A c m) (b.length - m) (c - m))) bad g (b.drop m) ∧ KeptB (fun k => k = g) W (W.setCell ⟨g, 0, none⟩ (.slice (cutA A c m) (b.length - m) (c - m))) := by
  have hk : KeptB (fun k => k = g) W (W.setCell ⟨g, 0, none⟩ (.slice (cutA A c m) (b.length - m) (c - m))) := KeptB.setCell (S := fun k => k = g) (p := ⟨g, 0, none⟩) (KeptB.refl _ W) (.inl rfl) _
  have hl : (b.drop m).length = b.length - m := List.length_drop
  refine ⟨⟨cutA A c m, c - m, ?_, h2, by rw [hl]; omega, ?_, fun x hx => h5 x (List.mem_of_mem_drop hx), fun p => cut_plain (h6 p), fun ad e hp => ?_⟩, hk⟩
  · rw [hl]
    exact blk_put h1 0 _ rfl
  · refine C_blk (cut_C h4 hm h3) (fun ad e hp => ?_)
    obtain ⟨ad0, e0, eb⟩ := cut_block e
    rw [eb]
    rw [hl] at hp
    have h8 := h7 ad0 e0 (by omega)
    exact hk.block _ h8.2 (fun e2 => h8.1 (by rw [e2]; exact h2))
  · obtain ⟨ad0, e0, eb⟩ := cut_block e
    rw [eb]
    rw [hl] at hp
    have h8 := h7 ad0 e0 (by omega)
    exact ⟨h8.1, Nat.lt_of_lt_of_le h8.2 hk.size⟩
end NR
theorem clone_some {b : List Int} (hb : b.length < 140737488355328) : bytes_Clone.f b = some b := by
  unfold bytes_Clone.f
  rw [Option.bind_some, if_pos (by simpa using hb), List.nil_append]
theorem R_plain {e base : Nat} {ok : Nat → Prop} {w : World} {v : Value} {b : List Int} (h : (Kd.int .u8).R e w base ok v b) : ∃ A c, v = .slice A b.length c ∧ b.length ≤ c ∧ (Kd.int .u8).C w A b.length b ∧ Plain A c ∧ ∀ ad, A = some ad → base ≤ ad.block ∧ ad.block < w.heap.size := by
  obtain ⟨A, c, rfl, hl, hC⟩ := Kd.R_reads h
  refine ⟨A, c, rfl, hl, hC, ?_, ?_⟩
  · obtain ⟨inner, ho⟩ := Kd.R_own h
    rcases ho.2 with ⟨e, _⟩ | ⟨g, cap, cur, e, _⟩
    · injection e with e1 e2 e3
      exact .inl ⟨e1, e3⟩
    · injection e with e1 e2 e3
      exact .inr ⟨g, 0, e1⟩
  · intro ad e
    subst e
    exact ⟨Kd.R_base h ad.block rfl, Kd.R_lt h ad.block rfl⟩
set_option maxHeartbeats 2000000 in
theorem new_c {w : World} {A : Option Addr} {c : Nat} {b : List Int} (hC : (Kd.int .u8).C w A b.length b) (hc : b.length ≤ c) (hb : NBytes b) (hl : b.length < 140737488355328) :
    Calls Tryd.prog 26 #[.slice A b.length c] w fun e w' => ∃ g, e = .returned (.pointer (some ⟨g, 0, none⟩)) ∧ w.heap.size ≤ g ∧ NR 83 True w' [g] g b ∧ Below w.heap.size w w' := by
  have HC := Aside0.mk hC
  have HCC := Aside0.mk hc
  have HB := Aside0.mk hb
  have HL := Aside0.mk (clone_some hl)
  clear hC hc hb hl
  go_enter Tryd.func26, Tryd.ntmps26
  go_wp2_with (go_at_call 43; refine (bytes_Clone.calls A c b b w HC.out HCC.out HL.out).mono ?_; rintro e w1 ⟨v1, rfl, hR, hB⟩; (obtain ⟨A1, c1, rfl, hl1, hC1, hp1, hm1⟩ := R_plain hR); have L1 := Aside0.mk hl1; have C1 := Aside0.mk hC1; have P1 := Aside0.mk hp1; have M1 := Aside0.mk hm1; have B1 := Aside0.mk hB; clear hR hB hl1 hC1 hp1 hm1)
  go_ret
  have hba := below_alloc (Below.refl w1.heap.size w1) (.cells #[.slice A1 b.length c1] 83)
  refine ⟨w1.heap.size, rfl, B1.out.size, ⟨A1, c1, blk_new w1 _, List.mem_singleton.2 rfl, L1.out, Kd.C_below C1.out hba, HB.out, fun _ => P1.out, fun ad e hp => ⟨fun hm => ?_, ?_⟩⟩, B1.out.trans (hba.mono B1.out.size)⟩
  · have h1 := List.mem_singleton.1 hm
    have h2 := (M1.out ad e).2
    omega
  · exact Nat.lt_of_lt_of_le (M1.out ad e).2 hba.size
end Go.Proofs.YtkicekddkgehoaaDoor.Hnd
