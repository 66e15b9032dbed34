/- Contracts of the calls, by hand. -/
import Derived.Test.YtkicekddkgehoaaQSlotLastx1
import Derived.Test.YtkicekddkgehoaaDisk8
namespace Go.Proofs.Ytkicekddkgehoaa.Hnd
open Go.RowKit Go.Proofs.Ytkicekddkgehoaa.QSlotLast Go.Proofs.YtkicekddkgehoaaW.PrintWords Go.Proofs.YtkicekddkgehoaaW.PrintLast Go.Proofs.YtkicekddkgehoaaW.Dk 
set_option linter.unusedVariables false
set_option linter.unusedSimpArgs false
end Go.Proofs.Ytkicekddkgehoaa.Hnd
namespace Go.Proofs.YtkicekddkgehoaaW.Dk
/-! Spans, in plain words. -/
namespace DS
def four (n : Int) : List Int := [n / 16777216 % 256, n / 65536 % 256, n / 256 % 256, n % 256]
def get4 : List Int → Int
  | a :: b :: c :: d :: _ => ((a * 256 + b) * 256 + c) * 256 + d
  | _ => 0
def Bytes (l : List Int) : Prop := ∀ x ∈ l, 0 ≤ x ∧ x < 256
theorem four_bytes (n : Int) : Bytes (four n) := by
  intro x hx
  simp only [four, List.mem_cons, List.not_mem_nil, or_false] at hx
  rcases hx with rfl | rfl | rfl | rfl <;> omega
theorem four_len (n : Int) : (four n).length = 4 := rfl
theorem get4_four {n : Int} (h0 : 0 ≤ n) (h1 : n < 4294967296) (r : List Int) : get4 (four n ++ r) = n := by
  simp only [four, List.cons_append, List.nil_append, get4]
  omega
theorem get4_inj {a b : List Int} (ha : Bytes a) (hb : Bytes b) (hla : a.length = 4) (hlb : b.length = 4) (h : get4 a = get4 b) : a = b := by
  match a, b, hla, hlb with
  | [a0, a1, a2, a3], [b0, b1, b2, b3], _, _ =>
    have h0 := ha a0 (by simp)
    have h1 := ha a1 (by simp)
    have h2 := ha a2 (by simp)
    have h3 := ha a3 (by simp)
    have k0 := hb b0 (by simp)
    have k1 := hb b1 (by simp)
    have k2 := hb b2 (by simp)
    have k3 := hb b3 (by simp)
    simp only [get4] at h
    obtain ⟨rfl, rfl, rfl, rfl⟩ : a0 = b0 ∧ a1 = b1 ∧ a2 = b2 ∧ a3 = b3 := by omega
    rfl
def need (n : Nat) : Nat := 1 + (n + 15) / 16
def pad (c : List Int) : List Int := c ++ List.replicate (16 - c.length) 0
def chunkN : Nat → List Int → List (List Int)
  | 0, _ => []
  | k + 1, b => pad (b.take 16) :: chunkN k (b.drop 16)
def chunks (b : List Int) : List (List Int) := chunkN ((b.length + 15) / 16) b
theorem pad_len {c : List Int} (h : c.length ≤ 16) : (pad c).length = 16 := by
  unfold pad
  rw [List.length_append, List.length_replicate]
  omega
theorem chunkN_len : ∀ (k : Nat) (b : List Int), (chunkN k b).length = k
  | 0, b => rfl
  | k + 1, b => by rw [chunkN, List.length_cons, chunkN_len k]
theorem chunkN_16 : ∀ (k : Nat) (b : List Int), ∀ c ∈ chunkN k b, c.length = 16
  | 0, b, c, h => by cases h
  | k + 1, b, c, h => by
    rw [chunkN] at h
    rcases List.mem_cons.1 h with rfl | h
    · exact pad_len (by rw [List.length_take]; omega)
    · exact chunkN_16 k _ c h
/-- Sectors are written, one behind the other. -/
def putC (d : DS) (i : Int) : List (List Int) → DS × Int
  | [] => (d, 0)
  | c :: cs => if (d.wr i c).2 = 0 then putC (d.wr i c).1 (i + 1) cs else d.wr i c
def puth (d : DS) (i : Int) (h : List Int) : DS × Int := if (d.wr i h).2 = 0 then (d.wr i h).1.fl else d.wr i h
def head (crc : List Int → Int) (tag : Int) (b : List Int) : List Int := four tag ++ four (b.length % 4294967296) ++ four (crc b) ++ four tag
def put (crc : List Int → Int) (d : DS) (i room tag : Int) (b : List Int) : DS × Int :=
  if (need b.length : Int) > room then (d, 4) else
    if (putC d (i + 1) (chunks b)).2 = 0 then
      (if (putC d (i + 1) (chunks b)).1.fl.2 = 0 then puth (putC d (i + 1) (chunks b)).1.fl.1 i (head crc tag b) else (putC d (i + 1) (chunks b)).1.fl)
    else putC d (i + 1) (chunks b)
/-- The bytes of so many sectors. -/
def grab (d : DS) (i : Int) : Nat → List Int
  | 0 => []
  | k + 1 => d.rd i ++ grab d (i + 1) k
def get (crc : List Int → Int) (d : DS) (i room : Int) : Int × List Int × Bool :=
  if (d.rd i).length ≠ 16 then (0, [], false) else
    if get4 (d.rd i) = 0 ∨ get4 (d.rd i) ≠ get4 ((d.rd i).drop 12) ∨ (need (get4 ((d.rd i).drop 4)).toNat : Int) > room ∨ (need (get4 ((d.rd i).drop 4)).toNat : Int) > d.S.length - i then (0, [], false) else
      if crc ((grab d (i + 1) (need (get4 ((d.rd i).drop 4)).toNat - 1)).take (get4 ((d.rd i).drop 4)).toNat) = get4 ((d.rd i).drop 8) then
        (get4 (d.rd i), (grab d (i + 1) (need (get4 ((d.rd i).drop 4)).toNat - 1)).take (get4 ((d.rd i).drop 4)).toNat, true)
      else (0, [], false)
end DS
end Go.Proofs.YtkicekddkgehoaaW.Dk
namespace Go.Proofs.Ytkicekddkgehoaa.Hnd
open Go.RowKit Go.Proofs.Ytkicekddkgehoaa.QSlotLast Go.Proofs.YtkicekddkgehoaaW.PrintWords Go.Proofs.YtkicekddkgehoaaW.PrintLast Go.Proofs.YtkicekddkgehoaaW.Dk Go.Shelf
attribute [local go_sem] Oper.semAt_some
/-! Spans: a head is written; what a span's calls need of rows. -/
theorem C_move {w W : World} {q o n : Nat} {z : Array Value} {e : TypeId} {b : List Int} (h1 : w.heap[q]? = some (.cells z e (0, 0))) (h2 : W.heap[q]? = some (.cells z e (0, 0))) (hC : (Kd.int .u8).C w (some ⟨q, o, none⟩) n b) : (Kd.int .u8).C W (some ⟨q, o, none⟩) n b :=
  ⟨hC.1, hC.2.1, fun hp => by
    obtain ⟨ad, e, hc⟩ := hC.2.2 hp
    injection e with e
    subst e
    exact ⟨_, rfl, fun j p hj => by
      obtain ⟨c, g1, g2, g3⟩ := hc j p hj
      exact ⟨c, g1, g2, fun i u hu => by
        have h3 := g3 i u hu
        rw [Kd.add_plain2] at h3 ⊢
        rw [blk_cell h2]
        rw [blk_cell h1] at h3
        exact h3⟩⟩⟩
/-- A fresh row of bytes, with all its block. -/
theorem R_block {e base : Nat} {ok : Nat → Prop} {w : World} {v : Value} {b : List Int} (h : (Kd.int .u8).R e w base ok v b) (hn : 0 < b.length) :
    ∃ q c, ∃ z : Array Value, v = .slice (some ⟨q, 0, none⟩) b.length c ∧ b.length ≤ c ∧ base ≤ q ∧ q < w.heap.size ∧ w.heap[q]? = some (.cells z e (0, 0)) ∧ (Kd.int .u8).C w (some ⟨q, 0, none⟩) b.length b := by
  obtain ⟨q, c, hv, hlc⟩ := Kd.own_some h hn
  obtain ⟨A', c', hv', hlc', hC⟩ := Kd.R_reads h
  rw [hv] at hv'
  injection hv' with e1 _ e2
  subst e1
  have hob : v.ownBlock = some q := by rw [hv]; rfl
  obtain ⟨cells, hce⟩ := own_typed h.2.choose_spec.1 q hob
  exact ⟨q, c, cells, hv, hlc, own_base h.2.choose_spec.1 q hob, own_lt h.2.choose_spec.1 q hob, hce, hC⟩
/-- A row of bytes in a block of its own, x. -/
def RowAt (w : World) (x : Nat) (b : List Int) : Prop := ∃ z : Array Value, w.heap[x]? = some (.cells z 5 (0, 0)) ∧ (Kd.int .u8).C w (some ⟨x, 0, none⟩) b.length b
theorem RowAt.move {w W : World} {x : Nat} {b : List Int} (h : RowAt w x b) (hm : W.heap[x]? = w.heap[x]?) : RowAt W x b := by
  obtain ⟨z, h1, h2⟩ := h
  exact ⟨z, hm.trans h1, C_move h1 (hm.trans h1) h2⟩
theorem SecAt.row {w : World} {x : Nat} {b : List Int} (h : SecAt w x b) (hl : b.length ≤ 9223372036854775807) : RowAt w x b := ⟨_, h, Kd.C_int_cells (T := 5) (fr := (0, 0)) h rfl hl⟩
theorem st_writeR {w0 W : World} {xs : List Nat} {g : Nat} {d : DS} (h : St w0 xs W g d) (i : Int) (x c : Nat) (b : List Int) (hx : x ∈ xs) (hs : RowAt W x b) (hc : b.length ≤ c) (hP : d.P.length < 1099511627776) :
    Calls Try.prog 33 #[.pointer (some ⟨g, 0, none⟩), .int .i64 i, .slice (some ⟨x, 0, none⟩) b.length c] W fun e w' => e = .returned (.int .i64 (d.wr i b).2) ∧ St w0 xs w' g (d.wr i b).1 ∧ Sm xs W w' :=
  (write_any h.1 i (some ⟨x, 0, none⟩) c b (fun _ hk => (RowAt.move hs (hk.2 x (h.2.2 x hx) (fun z => z.2 hx))).choose_spec.2) hc hP).mono fun _ _ ⟨h1, h2, h3⟩ => ⟨h1, h.kept h2 h3⟩
theorem st_put {w0 W : World} {xs : List Nat} {g : Nat} {d : DS} (h : St w0 xs W g d) (i : Int) (x c : Nat) (b : List Int) (hx : x ∈ xs) (hs : RowAt W x b) (hc : b.length ≤ c) (hP : d.P.length < 1099511627776) :
    Calls Try.prog 31 #[.pointer (some ⟨g, 0, none⟩), .int .i64 i, .slice (some ⟨x, 0, none⟩) b.length c] W fun e w' => e = .returned (.int .i64 (d.puth i b).2) ∧ St w0 xs w' g (d.puth i b).1 ∧ Sm xs W w' := by
  have hwr := st_writeR h i x c b hx hs hc hP
  by_cases h0 : (d.wr i b).2 = 0
  · have e : d.puth i b = (d.wr i b).1.fl := by unfold DS.puth; rw [if_pos h0]
    rw [e]
    have HW := Aside0.mk hwr
    have H0 := Aside0.mk h0
    clear hwr h0 e hs hc hP h hx
    go_enter Try.func31, Try.ntmps31
    go_wp2_with (first
      | (go_at_call 34; refine (st_flush S1.out).mono ?_; rintro e w2 ⟨rfl, hS, hM⟩; have S2 := Aside0.mk hS; have M2 := Aside0.mk hM; clear hS hM)
      | (go_at_call 33; refine HW.out.mono ?_; rw [H0.out]; rintro e w1 ⟨rfl, hS, hM⟩; have S1 := Aside0.mk hS; have M1 := Aside0.mk hM; clear hS hM))
    go_ret
    exact ⟨rfl, S2.out, fun y hy => (M2.out y hy).trans (M1.out y hy)⟩
  · have e : d.puth i b = d.wr i b := by unfold DS.puth; rw [if_neg h0]
    rw [e]
    have hb : ((d.wr i b).2 != 0) = true := by simpa using h0
    have hb2 : ((d.wr i b).2 == 0) = false := by simpa using h0
    have HW := Aside0.mk hwr
    generalize hE : (d.wr i b).2 = E at *
    clear hwr e hs hc hP h hx
    go_enter Try.func31, Try.ntmps31
    go_wp2_with (go_at_call 33; refine HW.out.mono ?_; rintro e w1 ⟨rfl, hS, hM⟩; have S1 := Aside0.mk hS; have M1 := Aside0.mk hM; clear hS hM)
    go_ret
    exact ⟨rfl, S1.out, M1.out⟩
theorem st_clear {w0 W : World} {xs : List Nat} {g : Nat} {d : DS} (h : St w0 xs W g d) (i : Int) (hP : d.P.length < 1099511627776) :
    Calls Try.prog 22 #[.pointer (some ⟨g, 0, none⟩), .int .i64 i] W fun e w' => e = .returned (.int .i64 (d.puth i (List.replicate 16 0)).2) ∧ St w0 xs w' g (d.puth i (List.replicate 16 0)).1 ∧ Sm xs W w' := by
  have hmk := make16
  have hS1 : St w0 (W.heap.size :: xs) (W.alloc (.cells z16 5)) g d := h.more (below_alloc (Below.refl _ _) _) _ (Nat.le_refl _) (by simp)
  have hp := st_put hS1 i W.heap.size 16 (List.replicate 16 0) (by simp) (SecAt.row (blk_new W _) (by simp)) (by simp) hP
  rw [List.length_replicate] at hp
  have HP := Aside0.mk hp
  have H := Aside0.mk h
  clear hp hS1 hP h
  go_enter Try.func22, Try.ntmps22
  go_wp2_with (go_at_call 31; refine HP.out.mono ?_; rintro e w1 ⟨rfl, hS, hM⟩; have S1 := Aside0.mk hS; have M1 := Aside0.mk hM; clear hS hM)
  go_ret
  refine ⟨rfl, ⟨S1.out.1.mono (fun k hk => ⟨hk.1, fun e => hk.2 (List.mem_cons_of_mem _ e)⟩), S1.out.2.1, fun y hy => S1.out.2.2 y (List.mem_cons_of_mem _ hy)⟩, fun y hy => (M1.out y (List.mem_cons_of_mem _ hy)).trans ((below_alloc (Below.refl W.heap.size W) _).block y (H.out.2.2 y hy))⟩
end Go.Proofs.Ytkicekddkgehoaa.Hnd
