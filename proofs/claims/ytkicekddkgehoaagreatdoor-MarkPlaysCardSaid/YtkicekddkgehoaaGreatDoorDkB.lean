/- Contracts of the calls, by hand. -/
import Derived.Test.YtkicekddkgehoaaGreatDoorQMarkPlaysx
import Derived.Test.YtkicekddkgehoaaGreatDoorDkA
import Derived.RangeFuncNested
import Derived.RangeFuncBound
import Derived.RangeFuncCalls
import Derived.RangeFuncLeaves
import Derived.RangeFuncBox
import Derived.Shelf.Abstract
import Derived.Shelf.RegionOpen
import Derived.OwnWalkIn
import Derived.TacticsInMore
import Derived.LoopNIn
import Derived.LoopIn
import Derived.Sort.QuietIn
import Derived.Sort.CutIn
import Derived.Stop.RegionWithIn
import Derived.StillTailTactics
namespace Go.Proofs.YtkicekddkgehoaaGreatDoor.Dsk
open Go.RowKit Go.Proofs.YtkicekddkgehoaaGreatDoor.QMarkPlays Go.Proofs.YtkicekddkgehoaaGreatDoorW.PrintWords Go.Proofs.YtkicekddkgehoaaGreatDoorW.PrintLast Go.Proofs.YtkicekddkgehoaaGreatDoorW.Dk Go.Shelf
set_option linter.unusedVariables false
set_option linter.unusedSimpArgs false
set_option linter.unusedVariables false
set_option linter.unusedSimpArgs false

end Go.Proofs.YtkicekddkgehoaaGreatDoor.Dsk
namespace Go.Proofs.YtkicekddkgehoaaGreatDoorW.Dk
/-! Spans, in plain words. -/
namespace DS
def four (n : Int) : List Int := [n / 16777216 % 256, n / 65536 % 256, n / 256 % 256, n % 256]
def get4 : List Int → Int
  | a :: b :: c :: d :: _ => ((a * 256 + b) * 256 + c) * 256 + d
  | _ => 0
def Bytes (l : List Int) : Prop := ∀ x ∈ l, 0 ≤ x ∧ x < 256
theorem four_bytes (n : Int) : Bytes (four n) := by
  intro x hx
  simp only [four, List.mem_cons, List.not_mem_nil, or_false] at hx
  rcases hx with rfl | rfl | rfl | rfl <;> omega
theorem four_len (n : Int) : (four n).length = 4 := rfl
def need (n : Nat) : Nat := 1 + (n + 15) / 16
def pad (c : List Int) : List Int := c ++ List.replicate (16 - c.length) 0
def chunkN : Nat → List Int → List (List Int)
  | 0, _ => []
  | k + 1, b => pad (b.take 16) :: chunkN k (b.drop 16)
def chunks (b : List Int) : List (List Int) := chunkN ((b.length + 15) / 16) b
theorem pad_len {c : List Int} (h : c.length ≤ 16) : (pad c).length = 16 := by
  unfold pad
  rw [List.length_append, List.length_replicate]
  omega
theorem chunkN_len : ∀ (k : Nat) (b : List Int), (chunkN k b).length = k
  | 0, b => rfl
  | k + 1, b => by rw [chunkN, List.length_cons, chunkN_len k]
/-- Sectors are written, one behind the other. -/
def putC (d : DS) (i : Int) : List (List Int) → DS × Int
  | [] => (d, 0)
  | c :: cs => if (d.wr i c).2 = 0 then putC (d.wr i c).1 (i + 1) cs else d.wr i c
def puth (d : DS) (i : Int) (h : List Int) : DS × Int := if (d.wr i h).2 = 0 then (d.wr i h).1.fl else d.wr i h
def head (crc : List Int → Int) (tag : Int) (b : List Int) : List Int := four tag ++ four (b.length % 4294967296) ++ four (crc b) ++ four tag
def put (crc : List Int → Int) (d : DS) (i room tag : Int) (b : List Int) : DS × Int :=
  if (need b.length : Int) > room then (d, 4) else
    if (putC d (i + 1) (chunks b)).2 = 0 then
      (if (putC d (i + 1) (chunks b)).1.fl.2 = 0 then puth (putC d (i + 1) (chunks b)).1.fl.1 i (head crc tag b) else (putC d (i + 1) (chunks b)).1.fl)
    else putC d (i + 1) (chunks b)
/-- The bytes of so many sectors. -/
def grab (d : DS) (i : Int) : Nat → List Int
  | 0 => []
  | k + 1 => d.rd i ++ grab d (i + 1) k
def get (crc : List Int → Int) (d : DS) (i room : Int) : Int × List Int × Bool :=
  if (d.rd i).length ≠ 16 then (0, [], false) else
    if get4 (d.rd i) = 0 ∨ get4 (d.rd i) ≠ get4 ((d.rd i).drop 12) ∨ (need (get4 ((d.rd i).drop 4)).toNat : Int) > room ∨ (need (get4 ((d.rd i).drop 4)).toNat : Int) > d.S.length - i then (0, [], false) else
      if crc ((grab d (i + 1) (need (get4 ((d.rd i).drop 4)).toNat - 1)).take (get4 ((d.rd i).drop 4)).toNat) = get4 ((d.rd i).drop 8) then
        (get4 (d.rd i), (grab d (i + 1) (need (get4 ((d.rd i).drop 4)).toNat - 1)).take (get4 ((d.rd i).drop 4)).toNat, true)
      else (0, [], false)
end DS
end Go.Proofs.YtkicekddkgehoaaGreatDoorW.Dk
namespace Go.Proofs.YtkicekddkgehoaaGreatDoor.Dsk
open Go.RowKit Go.Proofs.YtkicekddkgehoaaGreatDoor.QMarkPlays Go.Proofs.YtkicekddkgehoaaGreatDoorW.PrintWords Go.Proofs.YtkicekddkgehoaaGreatDoorW.PrintLast Go.Proofs.YtkicekddkgehoaaGreatDoorW.Dk Go.Shelf
set_option linter.unusedVariables false
set_option linter.unusedSimpArgs false

attribute [local go_sem] Oper.semAt_some
/-! Spans: a head is written; what a span's calls need of rows. -/
theorem C_move {w W : World} {q o n : Nat} {z : Array Value} {e : TypeId} {b : List Int} (h1 : w.heap[q]? = some (.cells z e (0, 0))) (h2 : W.heap[q]? = some (.cells z e (0, 0))) (hC : (Kd.int .u8).C w (some ⟨q, o, none⟩) n b) : (Kd.int .u8).C W (some ⟨q, o, none⟩) n b :=
  ⟨hC.1, hC.2.1, fun hp => by
    obtain ⟨ad, e, hc⟩ := hC.2.2 hp
    injection e with e
    subst e
    exact ⟨_, rfl, fun j p hj => by
      obtain ⟨c, g1, g2, g3⟩ := hc j p hj
      exact ⟨c, g1, g2, fun i u hu => by
        have h3 := g3 i u hu
        rw [Kd.add_plain2] at h3 ⊢
        rw [blk_cell h2]
        rw [blk_cell h1] at h3
        exact h3⟩⟩⟩
/-- A fresh row of bytes, with all its block. -/
theorem R_block {e base : Nat} {ok : Nat → Prop} {w : World} {v : Value} {b : List Int} (h : (Kd.int .u8).R e w base ok v b) (hn : 0 < b.length) :
    ∃ q c, ∃ z : Array Value, v = .slice (some ⟨q, 0, none⟩) b.length c ∧ b.length ≤ c ∧ base ≤ q ∧ q < w.heap.size ∧ w.heap[q]? = some (.cells z e (0, 0)) ∧ (Kd.int .u8).C w (some ⟨q, 0, none⟩) b.length b := by
  obtain ⟨q, c, hv, hlc⟩ := Kd.own_some h hn
  obtain ⟨A', c', hv', hlc', hC⟩ := Kd.R_reads h
  rw [hv] at hv'
  injection hv' with e1 _ e2
  subst e1
  have hob : v.ownBlock = some q := by rw [hv]; rfl
  obtain ⟨cells, hce⟩ := own_typed h.2.choose_spec.1 q hob
  exact ⟨q, c, cells, hv, hlc, own_base h.2.choose_spec.1 q hob, own_lt h.2.choose_spec.1 q hob, hce, hC⟩
/-- A row of bytes in a block of its own, x. -/
def RowAt (w : World) (x : Nat) (b : List Int) : Prop := ∃ z : Array Value, w.heap[x]? = some (.cells z 5 (0, 0)) ∧ (Kd.int .u8).C w (some ⟨x, 0, none⟩) b.length b
theorem RowAt.move {w W : World} {x : Nat} {b : List Int} (h : RowAt w x b) (hm : W.heap[x]? = w.heap[x]?) : RowAt W x b := by
  obtain ⟨z, h1, h2⟩ := h
  exact ⟨z, hm.trans h1, C_move h1 (hm.trans h1) h2⟩
theorem SecAt.row {w : World} {x : Nat} {b : List Int} (h : SecAt w x b) (hl : b.length ≤ 9223372036854775807) : RowAt w x b := ⟨_, h, Kd.C_int_cells (T := 5) (fr := (0, 0)) h rfl hl⟩
theorem st_writeR {w0 W : World} {xs : List Nat} {g : Nat} {d : DS} (h : St w0 xs W g d) (i : Int) (x c : Nat) (b : List Int) (hx : x ∈ xs) (hs : RowAt W x b) (hc : b.length ≤ c) (hP : d.P.length < 1099511627776) :
    Calls Tryz.prog 42 #[.pointer (some ⟨g, 0, none⟩), .int .i64 i, .slice (some ⟨x, 0, none⟩) b.length c] W fun e w' => e = .returned (.int .i64 (d.wr i b).2) ∧ St w0 xs w' g (d.wr i b).1 ∧ Sm xs W w' :=
  (write_any h.1 i (some ⟨x, 0, none⟩) c b (fun _ hk => (RowAt.move hs (hk.2 x (h.2.2 x hx) (fun z => z.2 hx))).choose_spec.2) hc hP).mono fun _ _ ⟨h1, h2, h3⟩ => ⟨h1, h.kept h2 h3⟩
theorem st_put {w0 W : World} {xs : List Nat} {g : Nat} {d : DS} (h : St w0 xs W g d) (i : Int) (x c : Nat) (b : List Int) (hx : x ∈ xs) (hs : RowAt W x b) (hc : b.length ≤ c) (hP : d.P.length < 1099511627776) :
    Calls Tryz.prog 40 #[.pointer (some ⟨g, 0, none⟩), .int .i64 i, .slice (some ⟨x, 0, none⟩) b.length c] W fun e w' => e = .returned (.int .i64 (d.puth i b).2) ∧ St w0 xs w' g (d.puth i b).1 ∧ Sm xs W w' := by
  have hwr := st_writeR h i x c b hx hs hc hP
  by_cases h0 : (d.wr i b).2 = 0
  · have e : d.puth i b = (d.wr i b).1.fl := by unfold DS.puth; rw [if_pos h0]
    rw [e]
    have HW := Aside0.mk hwr
    have H0 := Aside0.mk h0
    clear hwr h0 e hs hc hP h hx
    go_enter Tryz.func40, Tryz.ntmps40
    go_wp2_with (first
      | (go_at_call 43; refine (st_flush S1.out).mono ?_; rintro e w2 ⟨rfl, hS, hM⟩; have S2 := Aside0.mk hS; have M2 := Aside0.mk hM; clear hS hM)
      | (go_at_call 42; refine HW.out.mono ?_; rw [H0.out]; rintro e w1 ⟨rfl, hS, hM⟩; have S1 := Aside0.mk hS; have M1 := Aside0.mk hM; clear hS hM))
    go_ret
    exact ⟨rfl, S2.out, fun y hy => (M2.out y hy).trans (M1.out y hy)⟩
  · have e : d.puth i b = d.wr i b := by unfold DS.puth; rw [if_neg h0]
    rw [e]
    have hb : ((d.wr i b).2 != 0) = true := by simpa using h0
    have hb2 : ((d.wr i b).2 == 0) = false := by simpa using h0
    have HW := Aside0.mk hwr
    generalize hE : (d.wr i b).2 = E at *
    clear hwr e hs hc hP h hx
    go_enter Tryz.func40, Tryz.ntmps40
    go_wp2_with (go_at_call 42; refine HW.out.mono ?_; rintro e w1 ⟨rfl, hS, hM⟩; have S1 := Aside0.mk hS; have M1 := Aside0.mk hM; clear hS hM)
    go_ret
    exact ⟨rfl, S1.out, M1.out⟩
theorem st_clear {w0 W : World} {xs : List Nat} {g : Nat} {d : DS} (h : St w0 xs W g d) (i : Int) (hP : d.P.length < 1099511627776) :
    Calls Tryz.prog 24 #[.pointer (some ⟨g, 0, none⟩), .int .i64 i] W fun e w' => e = .returned (.int .i64 (d.puth i (List.replicate 16 0)).2) ∧ St w0 xs w' g (d.puth i (List.replicate 16 0)).1 ∧ Sm xs W w' := by
  have hmk := make16
  have hS1 : St w0 (W.heap.size :: xs) (W.alloc (.cells z16 5)) g d := h.more (below_alloc (Below.refl _ _) _) _ (Nat.le_refl _) (by simp)
  have hp := st_put hS1 i W.heap.size 16 (List.replicate 16 0) (by simp) (SecAt.row (blk_new W _) (by simp)) (by simp) hP
  rw [List.length_replicate] at hp
  have HP := Aside0.mk hp
  have H := Aside0.mk h
  clear hp hS1 hP h
  go_enter Tryz.func24, Tryz.ntmps24
  go_wp2_with (go_at_call 40; refine HP.out.mono ?_; rintro e w1 ⟨rfl, hS, hM⟩; have S1 := Aside0.mk hS; have M1 := Aside0.mk hM; clear hS hM)
  go_ret
  refine ⟨rfl, ⟨S1.out.1.mono (fun k hk => ⟨hk.1, fun e => hk.2 (List.mem_cons_of_mem _ e)⟩), S1.out.2.1, fun y hy => S1.out.2.2 y (List.mem_cons_of_mem _ hy)⟩, fun y hy => (M1.out y (List.mem_cons_of_mem _ hy)).trans ((below_alloc (Below.refl W.heap.size W) _).block y (H.out.2.2 y hy))⟩

attribute [local go_sem] Oper.semAt_some
theorem infoU8 : (Tryz.prog.info? 5).map (fun i => (i.zero, i.size, i.bytes)) = some (some (.int .u8 0), 1, 1) := by kernel_rfl
set_option maxHeartbeats 2000000 in
set_option maxRecDepth 100000 in
theorem grow_any (n : Nat) (h0 : 0 < n) (hn : n < 1099511627776) (w : World) :
    Calls Tryz.prog 64 #[.slice none 0 0, .int .i64 (n : Int)] w fun e w' => ∃ v0, e = .returned v0 ∧ (Kd.int .u8).R 5 w' w.heap.size (fun _ => True) v0 [] ∧ Below w.heap.size w w' := by
  have hd0 : decide ((n : Int) < 0) = false := decide_eq_false (by omega)
  have hd1 : decide ((n : Int) > 0) = true := decide_eq_true (by omega)
  have hd2 : decide ((0 : Int) < (n : Int)) = true := decide_eq_true (by omega)
  have hd3 : decide (0 < n) = true := decide_eq_true h0
  have hp1 : (n : Int) ≤ 9223372036854775807 := by omega
  have HN := Aside0.mk hn
  have H0 := Aside0.mk h0
  clear hn h0
  go_enter Tryz.func64, Tryz.ntmps64
  go_wp2_with ((with_reducible refine gate_builtin (b := .append) (xs := #[.tmp 20, .tmp 21]) rfl ?_); at_builtin; refine Kd.R_append_zeros (Kd.int .u8) (w0 := w) w.heap.size rfl (.tmp 20) (.tmp 21) 52 3 5 (.int .u8 0) 1 rfl Tryz.underlying52 Tryz.underlying3 infoU8 rfl (by decide) (by decide) (.slice none 0 0) [] 0 (n : Int) (fun _ => True) rfl rfl rfl (fun _ _ => trivial) (Kd.R_nil _ _ _ _ _) (by omega) (Below.refl _ _) (Nat.le_refl _) (by have := HN.out; simp <;> omega) ?_; intro v1 w1 ho hb hg hat; (obtain ⟨q, c, hv, hlc⟩ := Kd.own_some ho (by have := H0.out; simp <;> omega)); subst hv; (have hlc0 : (0 : Int) ≤ (c : Int) := by omega); have HO := Aside0.mk (Kd.R_take (m := 0) ho (Nat.zero_le _)); have HB := Aside0.mk hb; clear ho hb hg hat hlc)
  go_ret
  exact ⟨_, rfl, HO.out, HB.out⟩
theorem tot_take (ls : List (List Int)) (k : Nat) (hk : k < ls.length) : (ls.take (k + 1)).flatten = (ls.take k).flatten ++ ls.getD k [] := by
  rw [List.take_add_one, List.getElem?_eq_getElem hk, List.flatten_append, List.getD_eq_getElem?_getD, List.getElem?_eq_getElem hk]
  simp
theorem tot_le (ls : List (List Int)) (k : Nat) : (ls.take k).flatten.length ≤ ls.flatten.length := by
  conv => rhs; rw [← List.take_append_drop k ls, List.flatten_append, List.length_append]
  omega
set_option maxHeartbeats 4000000 in
set_option maxRecDepth 100000 in
theorem concat_any (A : Option Addr) (c : Nat) (ls : List (List Int)) (h0 : 0 < ls.flatten.length) (hn : ls.flatten.length < 1099511627776) (w : World) (hr : Kd.C (Kd.slice 5 (Kd.int .u8)) w A ls.length ls) (hc : ls.length ≤ c) :
    Calls Tryz.prog 36 #[.slice A ls.length c] w fun e w' => ∃ v0, e = .returned v0 ∧ (Kd.int .u8).R 5 w' w.heap.size (fun _ => True) v0 ls.flatten ∧ Below w.heap.size w w' := by
  have HR := Aside0.mk hr
  have HN := Aside0.mk hn
  have H0 := Aside0.mk h0

  clear hr hn h0 hc
  go_enter Tryz.func36, Tryz.ntmps36
  go_wp2
  go_loopw [3, 11] (fun u3 u11 wr => wr = w ∧ ∃ k : Nat, u11 = .int .i64 (k : Int) ∧ Aside0 (k ≤ ls.length) ∧ u3 = .int .i64 (((ls.take k).flatten.length : Nat) : Int)) (fun u3 u11 _ => ls.length + 1 - (intOf u11).toNat)
  case atStart => exact ⟨rfl, 0, rfl, ⟨Nat.zero_le _⟩, by simp⟩
  case round =>
    obtain ⟨rfl, k, rfl, HK, rfl⟩ := hrel
    by_cases hlt : k < ls.length
    · have hd : decide ((k : Int) < (ls.length : Int)) = true := decide_eq_true (by omega)
      have hd2 : decide (k < ls.length) = true := decide_eq_true hlt
      obtain ⟨ad, A1, c1, e1, hx, hl, hC⟩ := at_L1 HR.out (k : Int) (by omega) (by omega)
      subst e1
      have hrd : rd_L1 ls (k : Int) = ls.getD k [] := rfl
      rw [hrd, Int.toNat_natCast] at hx
      have ht := tot_take ls k hlt
      have hle := tot_le ls (k + 1)
      rw [ht, List.length_append] at hle
      have hp0 : (0 : Int) ≤ (k : Int) := by omega
      have hp1 : (k : Int) < (ls.length : Int) := by omega
      have hp2 : (k : Int) + 1 ≤ 9223372036854775807 := by have := HR.out.2.1; omega
      have hp3 : (((ls.take k).flatten.length : Nat) : Int) + ((ls.getD k []).length : Int) ≤ 9223372036854775807 := by have := HN.out; omega
      have HT : Aside0 (((ls.take (k + 1)).flatten.length : Nat) = (ls.take k).flatten.length + (ls.getD k []).length) := ⟨by rw [ht, List.length_append]⟩
      generalize (ls.getD k []).length = m at *
      generalize (ls.take k).flatten.length = t at *
      have hp4 : decide (((t : Int) + (m : Int)) < 0) = false := decide_eq_false (by omega)
      have hp5 : (0 : Int) ≤ (t : Int) + (m : Int) := by omega
      have HLT := Aside0.mk hlt
      clear hlt hle ht hrd hl hC
      go_wp2
      all_goals exact ⟨⟨by first | rfl | trivial, k + 1, by go_num, ⟨by have := HLT.out; omega⟩, by rw [HT.out]; go_num⟩, by have := HLT.out; simp [intOf]; omega⟩
    · obtain rfl : k = ls.length := by have := HK.out; omega
      have hd : decide ((ls.length : Int) < (ls.length : Int)) = false := decide_eq_false (by omega)
      clear hlt
      rw [List.take_length]
      generalize hT : ls.flatten.length = t at HN H0 ⊢
      have HTT := Aside0.mk hT
      clear hT
      obtain ⟨W0, hW0⟩ : ∃ W0, W0 = wr := ⟨_, rfl⟩
      subst hW0
      go_wp2_with (go_at_call 64; refine (grow_any _ H0.out HN.out W0).mono ?_; rintro e w1 ⟨v0, rfl, hR, hB⟩; have R1 := Aside0.mk hR; have B1 := Aside0.mk hB; clear hR hB)
      obtain ⟨v1, hv1⟩ : ∃ v, v = v0 := ⟨_, rfl⟩
      go_loopw [6, 27] (fun u6 u27 wq => ∃ k : Nat, u27 = .int .i64 (k : Int) ∧ Aside0 (k ≤ ls.length) ∧ Aside0 ((Kd.int .u8).R 5 wq W0.heap.size (fun _ => True) u6 (ls.take k).flatten) ∧ Aside0 (Below W0.heap.size W0 wq)) (fun u6 u27 _ => ls.length + 1 - (intOf u27).toNat)
      case atStart => exact ⟨0, rfl, ⟨Nat.zero_le _⟩, R1, B1⟩
      case round =>
        obtain ⟨k, rfl, HK, HV, HB⟩ := hrel
        by_cases hlt : k < ls.length
        · have hd : decide ((k : Int) < (ls.length : Int)) = true := decide_eq_true (by omega)
          have hd2 : decide (k < ls.length) = true := decide_eq_true hlt
          have HRq := Kd.C_below HR.out HB.out
          obtain ⟨ad, A1, c1, e1, hx, hl, hC⟩ := at_L1 HRq (k : Int) (by omega) (by omega)
          subst e1
          have hrd : rd_L1 ls (k : Int) = ls.getD k [] := rfl
          rw [hrd] at hx hl hC
          rw [Int.toNat_natCast] at hx
          have HC := Aside0.mk hC
          have ht := tot_take ls k hlt
          have hle := tot_le ls (k + 1)
          rw [ht, List.length_append] at hle
          have HLE : Aside0 (((ls.take k).flatten.length + (ls.getD k []).length) * 1 ≤ 140737488355328) := ⟨by have := HN.out; have := HTT.out; omega⟩
          have HT := Aside0.mk ht
          have hp0 : (0 : Int) ≤ (k : Int) := by omega
          have hp1 : (k : Int) < (ls.length : Int) := by omega
          have hp2 : (k : Int) + 1 ≤ 9223372036854775807 := by have := HR.out.2.1; omega
          have HLT := Aside0.mk hlt
          clear hlt hle ht hrd hl hC HRq
          go_wp2_with ((with_reducible refine gate_builtin (b := .append) (xs := #[.tmp 31, .tmp 32]) rfl ?_); at_builtin; go_must (refine Kd.R_append_rows (Kd.int .u8) (w0 := W0) W0.heap.size rfl (.tmp 31) (.tmp 32) 52 5 (.int .u8 0) 1 rfl Tryz.underlying52 infoU8 rfl (by decide) (by decide) _ (ls.take k).flatten (ls.getD k []) _ _ _ (fun _ => True) (fun _ => False) rfl rfl HV.out HC.out (fun _ _ h => h) (fun _ h => h.elim) (fun _ _ => trivial) HB.out HB.out.size HLE.out ?_; intro v3 w3 ho hb hg hat; rw [← HT.out] at ho; have HO3 := Aside0.mk ho; have HB3 := Aside0.mk hb; clear ho hb hg hat))
          all_goals exact ⟨⟨k + 1, by go_num, ⟨by have := HLT.out; omega⟩, HO3, HB3⟩, by have := HLT.out; simp [intOf]; omega⟩
        · obtain rfl : k = ls.length := by have := HK.out; omega
          have hd : decide ((ls.length : Int) < (ls.length : Int)) = false := decide_eq_false (by omega)
          have HV2 := HV.out
          rw [List.take_length] at HV2
          have HV3 := Aside0.mk HV2
          clear hlt HV2
          go_wp2
          go_ret
          exact ⟨_, rfl, HV3.out, HB.out⟩

namespace SumP
theorem wraps_u32 (n : Int) (h₀ : 0 ≤ n) (h₁ : n < 2 ^ 32) : IntKind.u32.wrap n = n := by rw [IntKind.wrap_u32]; omega
theorem u32_or8 (x y : Int) (hx₀ : 0 ≤ x) (hx : x % 256 = 0) (hx₁ : x < 4294967296) (h₀ : 0 ≤ y) (h₁ : y < 256) : bits .or .u32 x y = x + y :=
  bits_join .u32 32 (by decide) wraps_u32 8 x y hx₀ hx hx₁ h₀ h₁ (by omega)
def r1 (x : Int) : Int := Go.bits .xor .u32 (x / 2) ((2197175160 * (Go.bits .and .u32 x 1)) % 4294967296)
def rn : Nat → Int → Int
  | 0, x => x
  | n + 1, x => rn n (r1 x)
def stp (x c : Int) : Int := rn 8 (Go.bits .xor .u32 x (c % 4294967296))
def crc (x : Int) (l : List Int) : Int := l.foldl stp x
theorem getD_lt {α : Type} (l : List α) (i : Nat) (d : α) (h : i < l.length) : l.getD i d = l[i] := by
  rw [List.getD_eq_getElem?_getD, List.getElem?_eq_getElem h]; rfl
theorem w64 {i : Int} (h0 : -9223372036854775808 ≤ i) (h1 : i < 9223372036854775808) : wrap64 i = i := by unfold wrap64; omega

theorem of_l2 {r : Int} (rows : List (List Int)) (n i : Int) (row : List Int) (m j : Int) : ∀ (d : Nat) (x t : Int), 0 ≤ t → t + d = 8 →
    Ev (fun k => sum_Of.l1 k (rn d x) rows n i row m (wrap64 (j + 1))) r → Ev (fun k => sum_Of.l2 k x rows n i row m j t) r
  | 0, x, t, h0, h1, h => Ev.step (fun k => by rw [sum_Of.l2, if_neg (by omega)]; rfl) h
  | d + 1, x, t, h0, h1, h =>
    Ev.step (fun k => by rw [sum_Of.l2, if_pos (by omega), w64 (by omega) (by omega)]; rfl) (of_l2 rows n i row m j d (r1 x) (t + 1) (by omega) (by omega) h)

theorem of_l1 {r : Int} (rows : List (List Int)) (n i : Int) (row : List Int) (hm : (row.length : Int) ≤ 281474976710656) : ∀ (d : Nat) (x j : Int), 0 ≤ j → j + d = row.length →
    Ev (fun k => sum_Of.l0 k (crc x (row.drop j.toNat)) rows n (wrap64 (i + 1))) r → Ev (fun k => sum_Of.l1 k x rows n i row row.length j) r
  | 0, x, j, h0, h1, h => by
    refine Ev.step (fun k => by rw [sum_Of.l1, if_neg (by omega)]) ?_
    rw [List.drop_of_length_le (by omega)] at h
    exact h
  | d + 1, x, j, h0, h1, h => by
    refine Ev.step (fun k => by rw [sum_Of.l1, if_pos (by omega), if_pos h0, if_pos (by omega)]) ?_
    refine of_l2 rows n i row _ j 8 _ 0 (by omega) (by omega) ?_
    rw [w64 (by omega) (by omega)]
    refine of_l1 rows n i row hm d _ (j + 1) (by omega) (by omega) ?_
    have e : row.drop j.toNat = rd row j :: row.drop (j + 1).toNat := by
      have hj : j.toNat < row.length := by omega
      rw [List.drop_eq_getElem_cons hj, rd, getD_lt _ _ _ hj]
      congr 2
      omega
    rw [e] at h
    exact h

theorem of_l0 (rows : List (List Int)) (hn : (rows.length : Int) ≤ 281474976710656) (hr : ∀ row ∈ rows, (row.length : Int) ≤ 281474976710656) : ∀ (d : Nat) (x i : Int), 0 ≤ i → i + d = rows.length →
    Ev (fun k => sum_Of.l0 k x rows rows.length i) (Go.bits .xor .u32 (crc x (rows.drop i.toNat).flatten) 4294967295)
  | 0, x, i, h0, h1 => by
    refine Ev.step (fun k => by rw [sum_Of.l0, if_neg (by omega)]) ?_
    rw [List.drop_of_length_le (by omega)]
    exact Ev.now _
  | d + 1, x, i, h0, h1 => by
    have hj : i.toNat < rows.length := by omega
    have e : rows.drop i.toNat = rd_L1 rows i :: rows.drop (i + 1).toNat := by
      rw [List.drop_eq_getElem_cons hj, rd_L1, getD_lt _ _ _ hj]
      congr 2
      omega
    have hmem : rd_L1 rows i ∈ rows := by rw [rd_L1, getD_lt _ _ _ hj]; exact List.getElem_mem hj
    refine Ev.step (fun k => by rw [sum_Of.l0, if_pos (by omega), if_pos h0, if_pos (by omega)]) ?_
    refine of_l1 rows _ i _ (hr _ hmem) (rd_L1 rows i).length x 0 (by omega) (by omega) ?_
    rw [w64 (by omega) (by omega)]
    have h := of_l0 rows hn hr d (crc x (rd_L1 rows i)) (i + 1) (by omega) (by omega)
    have e2 : crc x (rows.drop i.toNat).flatten = crc (crc x (rd_L1 rows i)) (rows.drop (i + 1).toNat).flatten := by
      rw [e, List.flatten_cons, crc, List.foldl_append]; rfl
    rw [e2]
    exact h

theorem of_ev (rows : List (List Int)) (hn : (rows.length : Int) ≤ 281474976710656) (hr : ∀ row ∈ rows, (row.length : Int) ≤ 281474976710656) :
    Ev (fun k => sum_Of.f k rows) (Go.bits .xor .u32 (crc 4294967295 rows.flatten) 4294967295) := by
  have h := of_l0 rows hn hr rows.length 4294967295 0 (by omega) (by omega)
  exact h
theorem get4 (a b c d : Int) (ha : 0 ≤ a ∧ a ≤ 255) (hb : 0 ≤ b ∧ b ≤ 255) (hc : 0 ≤ c ∧ c ≤ 255) (hd : 0 ≤ d ∧ d ≤ 255) (r : List Int) :
    sum_Get.f 200 (a :: b :: c :: d :: r) = some (a * 16777216 + b * 65536 + c * 256 + d) := by
  have e1 : bits .or .u32 0 (a % 4294967296) = a := by
    have := u32_or8 0 a (by omega) (by omega) (by omega) (by omega) (by omega)
    rw [show a % 4294967296 = a by omega, this]; omega
  have e2 : bits .or .u32 ((a * 256) % 4294967296) (b % 4294967296) = a * 256 + b := by
    rw [u32_or8 _ _ (by omega) (by omega) (by omega) (by omega) (by omega)]; omega
  have e3 : bits .or .u32 (((a * 256 + b) * 256) % 4294967296) (c % 4294967296) = (a * 256 + b) * 256 + c := by
    rw [u32_or8 _ _ (by omega) (by omega) (by omega) (by omega) (by omega)]; omega
  have e4 : bits .or .u32 ((((a * 256 + b) * 256 + c) * 256) % 4294967296) (d % 4294967296) = ((a * 256 + b) * 256 + c) * 256 + d := by
    rw [u32_or8 _ _ (by omega) (by omega) (by omega) (by omega) (by omega)]; omega
  unfold sum_Get.f
  rw [if_neg (by simp; omega), if_pos (by simp; omega)]
  simp [sum_Get.l0, wrap64, rd, e1, e2, e3, e4]
  omega
theorem four_any (n : Int) : sum_Four.f 200 n = some (DS.four n) := by
  unfold sum_Four.f
  rw [if_pos (by decide)]
  simp [sum_Four.l0, wrap64, shr, IntKind.bits, DS.four]
end SumP
def crcO (b : List Int) : Int := Go.bits .xor .u32 (SumP.crc 4294967295 b) 4294967295
theorem of_one (b : List Int) (hb : b.length < 1099511627776) : ∃ k, sum_Of.f k [b] = some (crcO b) := by
  have h := SumP.of_ev [b] (by simp) (by intro row hr; rw [List.mem_singleton.1 hr]; omega)
  simp only [List.flatten_cons, List.flatten_nil, List.append_nil] at h
  exact h.rounds
attribute [local go_sem] Oper.semAt_some
theorem C_rows {w : World} {A : Option Addr} {n c : Nat} {b : List Int} (hn : b.length = n) (hc : b.length ≤ c) (h : (Kd.int .u8).C w A b.length b) : (Kd.slice 5 (Kd.int .u8)).K w b [.slice A n c] := by
  subst hn
  exact ⟨A, c, rfl, hc, h⟩
theorem C_rows4 {w : World} {g : Nat} {A1 A2 A3 A4 : Option Addr} {c1 c2 c3 c4 : Nat} {b1 b2 b3 b4 : List Int} (h : w.heap[g]? = some (.cells #[.slice A1 4 c1, .slice A2 4 c2, .slice A3 4 c3, .slice A4 4 c4] 52 (0, 0)))
    (l1 : b1.length = 4) (l2 : b2.length = 4) (l3 : b3.length = 4) (l4 : b4.length = 4) (k1 : b1.length ≤ c1) (k2 : b2.length ≤ c2) (k3 : b3.length ≤ c3) (k4 : b4.length ≤ c4)
    (h1 : (Kd.int .u8).C w A1 b1.length b1) (h2 : (Kd.int .u8).C w A2 b2.length b2) (h3 : (Kd.int .u8).C w A3 b3.length b3) (h4 : (Kd.int .u8).C w A4 b4.length b4) :
    Kd.C (Kd.slice 5 (Kd.int .u8)) w (some ⟨g, 0, none⟩) 4 [b1, b2, b3, b4] :=
  Kd.C_cells1 (xs := [b1, b2, b3, b4]) h rfl (by simp) (fun j p hj => by
    match j with
    | 0 => injection hj with hj; subst hj; exact ⟨_, rfl, C_rows l1 k1 h1⟩
    | 1 => injection hj with hj; subst hj; exact ⟨_, rfl, C_rows l2 k2 h2⟩
    | 2 => injection hj with hj; subst hj; exact ⟨_, rfl, C_rows l3 k3 h3⟩
    | 3 => injection hj with hj; subst hj; exact ⟨_, rfl, C_rows l4 k4 h4⟩
    | j + 4 => simp at hj)
set_option maxHeartbeats 4000000 in
set_option maxRecDepth 100000 in
theorem head_any (tag : Int) (A : Option Addr) (c : Nat) (b : List Int) (hb : b.length < 1099511627776) (w : World) (hr : (Kd.int .u8).C w A b.length b) (hc : b.length ≤ c) :
    Calls Tryz.prog 44 #[.int .u32 tag, .slice A b.length c] w fun e w' => ∃ v0, e = .returned v0 ∧ (Kd.int .u8).R 5 w' w.heap.size (fun _ => True) v0 (DS.head crcO tag b) ∧ Below w.heap.size w w' := by
  obtain ⟨ko, hko⟩ := of_one b hb
  have KO := Aside0.mk hko
  have HR := Aside0.mk hr
  have HC := Aside0.mk hc
  have HB := Aside0.mk hb
  have hp1 : (b.length : Int) ≤ 9223372036854775807 := by omega
  have HF : Aside0 ([DS.four tag, DS.four ((b.length : Int) % 4294967296), DS.four (crcO b), DS.four tag].flatten = DS.head crcO tag b) := ⟨by simp [DS.head]⟩
  have L4 : ∀ n, (DS.four n).length = 4 := DS.four_len
  have HL4 := Aside0.mk L4
  clear hko hr hc hb L4
  go_enter Tryz.func44, Tryz.ntmps44
  go_wp2_with (first
    | (go_at_call 36; refine (concat_any (some ⟨w5.heap.size, 0, none⟩) 4 [DS.four tag, DS.four ((b.length : Int) % 4294967296), DS.four (crcO b), DS.four tag] (by rw [HF.out]; simp [DS.head, DS.four]) (by rw [HF.out]; simp [DS.head, DS.four]) _ (C_rows4 (blk_new w5 _) (HL4.out _) (HL4.out _) (HL4.out _) (HL4.out _) LC1.out LC2.out LC3.out LC4.out (Kd.C_below E1d.out (below_alloc (Below.refl _ _) _)) (Kd.C_below E2c.out (below_alloc (Below.refl _ _) _)) (Kd.C_below E3a.out (below_alloc (Below.refl _ _) _)) (Kd.C_below E4.out (below_alloc (Below.refl _ _) _))) (by simp)).mono ?_; rintro e w6 ⟨v, rfl, hR, hW⟩; rw [HF.out] at hR; have R6 := Aside0.mk (Kd.R_lower hR (show w.heap.size ≤ _ by have := B5.out.size; simp; omega)); have B6 := Aside0.mk ((below_alloc B5.out _).trans (hW.mono (by have := B5.out.size; simp; omega))); clear hR hW)
    | (go_at_call 69; refine (sum_Four.calls 200 tag (DS.four tag) w4 (SumP.four_any _)).mono ?_; rintro e w5 ⟨v, rfl, hR, hW⟩; have B5 := Aside0.mk (B4.out.trans (hW.mono B4.out.size)); obtain ⟨A4, c4, e4, l4, hC4⟩ := Kd.R_reads hR; rw [HL4.out] at e4; subst e4; have E4 := Aside0.mk hC4; have LC4 := Aside0.mk l4; have E1d := Aside0.mk (Kd.C_below E1c.out hW); have E2c := Aside0.mk (Kd.C_below E2b.out hW); have E3a := Aside0.mk (Kd.C_below E3.out hW); clear hR hW hC4 l4)
    | (go_at_call 69; refine (sum_Four.calls 200 (crcO b) (DS.four (crcO b)) w3 (SumP.four_any _)).mono ?_; rintro e w4 ⟨v, rfl, hR, hW⟩; have B4 := Aside0.mk (B3.out.trans (hW.mono B3.out.size)); obtain ⟨A3, c3, e3, l3, hC3⟩ := Kd.R_reads hR; rw [HL4.out] at e3; subst e3; have E3 := Aside0.mk hC3; have LC3 := Aside0.mk l3; have E1c := Aside0.mk (Kd.C_below E1b.out hW); have E2b := Aside0.mk (Kd.C_below E2a.out hW); clear hR hW hC3 l3)
    | (go_at_call 54; refine (sum_Of.calls ko (some ⟨w2.heap.size, 0, none⟩) 1 [b] (crcO b) _ (Kd.C_slice_one (blk_new w2 _) rfl HC.out (Kd.C_below HR.out (B2.out.trans ((below_alloc (Below.refl _ _) _).mono B2.out.size)))) (by simp) KO.out).mono ?_; rintro e w3 ⟨rfl, hW⟩; have hW' := (below_alloc (Below.refl w2.heap.size w2) _).trans (hW.below.mono (by simp)); have B3 := Aside0.mk (B2.out.trans (hW'.mono B2.out.size)); have E1b := Aside0.mk (Kd.C_below E1a.out hW'); have E2a := Aside0.mk (Kd.C_below E2.out hW'); clear hW hW')
    | (go_at_call 69; refine (sum_Four.calls 200 ((b.length : Int) % 4294967296) (DS.four ((b.length : Int) % 4294967296)) w1 (SumP.four_any _)).mono ?_; rintro e w2 ⟨v, rfl, hR, hW⟩; have B2 := Aside0.mk (B1.out.trans (hW.mono B1.out.size)); obtain ⟨A2, c2, e2, l2, hC2⟩ := Kd.R_reads hR; rw [HL4.out] at e2; subst e2; have E2 := Aside0.mk hC2; have LC2 := Aside0.mk l2; have E1a := Aside0.mk (Kd.C_below E1.out hW); clear hR hW hC2 l2)
    | (go_at_call 69; refine (sum_Four.calls 200 tag (DS.four tag) w (SumP.four_any _)).mono ?_; rintro e w1 ⟨v, rfl, hR, hW⟩; have B1 := Aside0.mk hW; obtain ⟨A1, c1, e1, l1, hC1⟩ := Kd.R_reads hR; rw [HL4.out] at e1; subst e1; have E1 := Aside0.mk hC1; have LC1 := Aside0.mk l1; clear hR hW hC1 l1))
  go_ret
  exact ⟨_, rfl, R6.out, B6.out⟩

end Go.Proofs.YtkicekddkgehoaaGreatDoor.Dsk
namespace Go.Proofs.YtkicekddkgehoaaGreatDoorW.Dk
/-! Spans, in plain words: what is read of what was written, crashes and all. -/
namespace DS
theorem head_len (crc : List Int → Int) (tag : Int) (b : List Int) : (head crc tag b).length = 16 := by simp [head, four]
theorem head_0 {crc : List Int → Int} {tag : Int} {b : List Int} (h0 : 0 ≤ tag) (h1 : tag < 4294967296) : get4 (head crc tag b) = tag := by
  simp only [head, four, List.cons_append, List.nil_append, get4]
  omega
theorem head_4 {crc : List Int → Int} {tag : Int} {b : List Int} (hb : b.length < 4294967296) : get4 ((head crc tag b).drop 4) = b.length := by
  simp only [head, four, List.cons_append, List.nil_append, List.drop_succ_cons, List.drop_zero, get4]
  omega
theorem head_8 {crc : List Int → Int} {tag : Int} {b : List Int} (h0 : 0 ≤ crc b) (h1 : crc b < 4294967296) : get4 ((head crc tag b).drop 8) = crc b := by
  simp only [head, four, List.cons_append, List.nil_append, List.drop_succ_cons, List.drop_zero, get4]
  omega
theorem head_12 {crc : List Int → Int} {tag : Int} {b : List Int} (h0 : 0 ≤ tag) (h1 : tag < 4294967296) : get4 ((head crc tag b).drop 12) = tag := by
  simp only [head, four, List.cons_append, List.nil_append, List.drop_succ_cons, List.drop_zero, get4]
  omega
theorem chunkN_flat : ∀ (k : Nat) (b : List Int), b.length ≤ 16 * k → (chunkN k b).flatten.take b.length = b
  | 0, b, h => by
    obtain rfl : b = [] := List.eq_nil_of_length_eq_zero (by omega)
    rfl
  | k + 1, b, h => by
    rw [chunkN, List.flatten_cons]
    by_cases hb : b.length ≤ 16
    · rw [List.take_of_length_le hb, pad, List.append_assoc, List.take_append_of_le_length (Nat.le_refl _), List.take_length]
    · have h16 : (b.take 16).length = 16 := by rw [List.length_take]; omega
      have hp : pad (b.take 16) = b.take 16 := by
        unfold pad
        rw [h16]
        simp
      rw [hp, List.take_append, h16, List.take_of_length_le (by omega)]
      have := chunkN_flat k (b.drop 16) (by rw [List.length_drop]; omega)
      rw [List.length_drop] at this
      rw [this, List.take_append_drop]
theorem chunks_flat (b : List Int) : (chunks b).flatten.take b.length = b := chunkN_flat _ _ (by omega)
theorem chunks_len (b : List Int) : (chunks b).length = (b.length + 15) / 16 := chunkN_len _ _
theorem grab_eq {d : DS} : ∀ (cs : List (List Int)) (i : Int), (∀ j : Nat, j < cs.length → d.rd (i + j) = cs.getD j []) → grab d i cs.length = cs.flatten
  | [], i, h => rfl
  | c :: cs, i, h => by
    have h0 := h 0 (by simp)
    simp only [Int.natCast_zero, Int.add_zero, List.getD_cons_zero] at h0
    rw [List.length_cons, grab, List.flatten_cons, h0, grab_eq cs (i + 1) (fun j hj => by
      have := h (j + 1) (by simp; omega)
      rw [show i + 1 + (j : Int) = i + ((j + 1 : Nat) : Int) by omega, this, List.getD_cons_succ])]
theorem get_hit {crc : List Int → Int} {d : DS} {i room tag : Int} {b : List Int} (c0 : 0 ≤ crc b) (c1 : crc b < 4294967296) (t0 : 0 < tag) (t1 : tag < 4294967296) (hb : b.length < 4294967296)
    (hh : d.rd i = head crc tag b) (hc : ∀ j : Nat, j < (chunks b).length → d.rd (i + 1 + j) = (chunks b).getD j []) (hr : (need b.length : Int) ≤ room) (hs : (need b.length : Int) ≤ d.S.length - i) : get crc d i room = (tag, b, true) := by
  have e4 := head_4 (crc := crc) (tag := tag) hb
  have en : (need b.length) - 1 = (chunks b).length := by rw [chunks_len]; unfold need; omega
  unfold get
  rw [hh, if_neg (by rw [head_len]; simp), head_0 (by omega) t1, e4, head_8 c0 c1, head_12 (by omega) t1, Int.toNat_natCast, if_neg (by omega), en, grab_eq _ _ hc, chunks_flat, if_pos rfl]
/-- What is got has its sector's number at both ends; or nothing is got. -/
theorem get_tag (crc : List Int → Int) (d : DS) (i room : Int) : get crc d i room = (0, [], false) ∨ ((get crc d i room).1 = get4 (d.rd i) ∧ get4 (d.rd i) = get4 ((d.rd i).drop 12) ∧ get4 (d.rd i) ≠ 0 ∧ (d.rd i).length = 16 ∧ (get crc d i room).2.2 = true) := by
  unfold get
  split
  · exact .inl rfl
  · rename_i h1
    split
    · exact .inl rfl
    · rename_i h2
      have hl : (d.rd i).length = 16 := Decidable.not_not.1 h1
      split
      · exact .inr ⟨rfl, by omega, by omega, hl, rfl⟩
      · exact .inl rfl
/-! Writes. -/
def over (S : List (List Int)) (i : Nat) : List (List Int) → List (List Int)
  | [] => S
  | c :: cs => over (S.set i c) (i + 1) cs
theorem over_len : ∀ (cs S : List (List Int)) (i : Nat), (over S i cs).length = S.length
  | [], S, i => rfl
  | c :: cs, S, i => by rw [over, over_len cs, List.length_set]
theorem getD_set (S : List (List Int)) (i j : Nat) (c : List Int) (hi : i < S.length) : (S.set i c).getD j [] = if j = i then c else S.getD j [] := by
  rw [List.getD_eq_getElem?_getD, List.getD_eq_getElem?_getD, List.getElem?_set]
  by_cases h : i = j
  · subst h
    rw [if_pos rfl, if_pos hi, if_pos rfl]
    rfl
  · rw [if_neg h, if_neg (fun e => h e.symm)]
theorem over_get : ∀ (cs S : List (List Int)) (i j : Nat), i + cs.length ≤ S.length → (over S i cs).getD j [] = if i ≤ j ∧ j < i + cs.length then cs.getD (j - i) [] else S.getD j []
  | [], S, i, j, h => by
    rw [if_neg (by simp only [List.length_nil]; omega)]
    rfl
  | c :: cs, S, i, j, h => by
    rw [List.length_cons] at h
    rw [over, over_get cs _ (i + 1) j (by rw [List.length_set]; omega), getD_set _ _ _ _ (by omega), List.length_cons]
    by_cases h1 : j = i
    · subst h1
      rw [if_neg (by omega), if_pos rfl, if_pos (by omega), Nat.sub_self, List.getD_cons_zero]
    · rw [if_neg h1]
      by_cases h2 : i + 1 ≤ j ∧ j < i + 1 + cs.length
      · rw [if_pos h2, if_pos (by omega), show j - i = (j - (i + 1)) + 1 by omega, List.getD_cons_succ]
      · rw [if_neg h2, if_neg (by omega)]
/-- Alike but from i to m. -/
def Alike (S S' : List (List Int)) (i m : Nat) : Prop := S'.length = S.length ∧ ∀ j, j < i ∨ m ≤ j → S'.getD j [] = S.getD j []
theorem Alike.refl (S : List (List Int)) (i m : Nat) : Alike S S i m := ⟨rfl, fun _ _ => rfl⟩
theorem Alike.trans {S T U : List (List Int)} {i m : Nat} (h : Alike S T i m) (k : Alike T U i m) : Alike S U i m := ⟨k.1.trans h.1, fun j hj => (k.2 j hj).trans (h.2 j hj)⟩
theorem Alike.mono {S T : List (List Int)} {i m i' m' : Nat} (h : Alike S T i m) (h1 : i' ≤ i) (h2 : m ≤ m') : Alike S T i' m' := ⟨h.1, fun j hj => h.2 j (by omega)⟩
theorem getD_set_ne (S : List (List Int)) (i j : Nat) (c : List Int) (hj : j ≠ i) : (S.set i c).getD j [] = S.getD j [] := by
  rw [List.getD_eq_getElem?_getD, List.getD_eq_getElem?_getD, List.getElem?_set, if_neg (fun e => hj e.symm)]
theorem Alike.set (S : List (List Int)) (i : Nat) (c : List Int) {a m : Nat} (h1 : a ≤ i) (h2 : i < m) : Alike S (S.set i c) a m :=
  ⟨List.length_set .., fun j hj => getD_set_ne _ _ _ _ (by omega)⟩
theorem Alike.over {S cs : List (List Int)} {i : Nat} (h : i + cs.length ≤ S.length) : Alike S (DS.over S i cs) i (i + cs.length) :=
  ⟨over_len _ _ _, fun j hj => by rw [over_get _ _ _ _ h, if_neg (by omega)]⟩
theorem put_full (crc : List Int → Int) (d : DS) (i room tag : Int) (b : List Int) (h : room < (need b.length : Int)) : put crc d i room tag b = (d, 4) := by
  unfold put
  rw [if_pos h]
theorem rd_nil {d : DS} (hP : d.P = []) (i : Nat) : d.rd (i : Int) = d.S.getD i [] := by
  unfold rd
  rw [hP]
  split
  · rfl
  · rw [List.getD_eq_getElem?_getD, List.getElem?_eq_none (by omega)]
    rfl
/-! All that lies on a disk is bytes. -/
def AllB (d : DS) : Prop := (∀ s ∈ d.S, Bytes s) ∧ ∀ p ∈ d.P, Bytes p.2
theorem bytes_nil : Bytes [] := fun x hx => by cases hx
theorem bytes_zero (n : Nat) : Bytes (List.replicate n 0) := fun x hx => by rw [List.eq_of_mem_replicate hx]; omega
theorem bytes_app {a b : List Int} (ha : Bytes a) (hb : Bytes b) : Bytes (a ++ b) := fun x hx => (List.mem_append.1 hx).elim (ha x) (hb x)
theorem bytes_take {a : List Int} (ha : Bytes a) (n : Nat) : Bytes (a.take n) := fun x hx => ha x (List.mem_of_mem_take hx)
theorem bytes_drop {a : List Int} (ha : Bytes a) (n : Nat) : Bytes (a.drop n) := fun x hx => ha x (List.mem_of_mem_drop hx)
theorem bytes_getD {S : List (List Int)} (h : ∀ s ∈ S, Bytes s) (i : Nat) : Bytes (S.getD i []) := by
  by_cases hi : i < S.length
  · rw [List.getD_eq_getElem?_getD, List.getElem?_eq_getElem hi]
    exact h _ (List.getElem_mem hi)
  · rw [List.getD_eq_getElem?_getD, List.getElem?_eq_none (by omega)]
    exact bytes_nil
theorem bytes_set {S : List (List Int)} (h : ∀ s ∈ S, Bytes s) (i : Nat) {c : List Int} (hc : Bytes c) : ∀ s ∈ S.set i c, Bytes s := fun s hs => (List.mem_or_eq_of_mem_set hs).elim (h s) (fun e => by rw [e]; exact hc)
theorem spill_bytes (left : List Int) : ∀ (P : List (Int × List Int)) (S : List (List Int)) (k : Nat), (∀ s ∈ S, Bytes s) → (∀ p ∈ P, Bytes p.2) → ∀ s ∈ spill left S P k, Bytes s
  | [], _, _, h, _ => h
  | p :: P, _, k, h, hp => spill_bytes left P _ (k + 1) (bytes_set h _ (bytes_app (bytes_take (hp p List.mem_cons_self) _) (bytes_drop (bytes_getD h _) _))) (fun q hq => hp q (List.mem_cons_of_mem _ hq))
theorem flushed_bytes : ∀ (P : List (Int × List Int)) (S : List (List Int)), (∀ s ∈ S, Bytes s) → (∀ p ∈ P, Bytes p.2) → ∀ s ∈ flushed S P, Bytes s
  | [], _, h, _ => h
  | p :: P, _, h, hp => flushed_bytes P _ (bytes_set h _ (hp p List.mem_cons_self)) (fun q hq => hp q (List.mem_cons_of_mem _ hq))
theorem crashed_bytes {d : DS} (h : d.AllB) : d.crashed.AllB := ⟨spill_bytes _ _ _ _ h.1 h.2, fun p hp => by cases hp⟩
theorem wr_bytes {d : DS} (h : d.AllB) (i : Int) {b : List Int} (hb : Bytes b) : (d.wr i b).1.AllB := by
  unfold wr
  split
  · exact h
  split
  · exact h
  split
  · exact h
  split
  · exact crashed_bytes h
  · exact ⟨h.1, fun p hp => (List.mem_append.1 hp).elim (h.2 p) (fun e => by rw [List.mem_singleton.1 e]; exact hb)⟩
theorem fl_bytes {d : DS} (h : d.AllB) : d.fl.1.AllB := by
  unfold fl
  split
  · exact h
  split
  · exact crashed_bytes h
  · exact ⟨flushed_bytes _ _ h.1 h.2, fun p hp => by cases hp⟩
theorem putC_bytes : ∀ (cs : List (List Int)) (d : DS) (i : Int), d.AllB → (∀ c ∈ cs, Bytes c) → (putC d i cs).1.AllB
  | [], d, i, h, hc => h
  | c :: cs, d, i, h, hc => by
    rw [putC]
    split
    · exact putC_bytes cs _ _ (wr_bytes h i (hc c List.mem_cons_self)) (fun x hx => hc x (List.mem_cons_of_mem _ hx))
    · exact wr_bytes h i (hc c List.mem_cons_self)
theorem puth_bytes {d : DS} (h : d.AllB) (i : Int) {b : List Int} (hb : Bytes b) : (puth d i b).1.AllB := by
  unfold puth
  split
  · exact fl_bytes (wr_bytes h i hb)
  · exact wr_bytes h i hb
theorem chunkN_bytes : ∀ (k : Nat) (b : List Int), Bytes b → ∀ c ∈ chunkN k b, Bytes c
  | 0, b, h, c, hc => by cases hc
  | k + 1, b, h, c, hc => by
    rw [chunkN] at hc
    rcases List.mem_cons.1 hc with rfl | hc
    · exact bytes_app (bytes_take h _) (bytes_zero _)
    · exact chunkN_bytes k _ (bytes_drop h _) c hc
theorem head_bytes (crc : List Int → Int) (tag : Int) (b : List Int) : Bytes (head crc tag b) := bytes_app (bytes_app (bytes_app (four_bytes _) (four_bytes _)) (four_bytes _)) (four_bytes _)
theorem put_bytes {crc : List Int → Int} {d : DS} (h : d.AllB) (i room tag : Int) {b : List Int} (hb : Bytes b) : (put crc d i room tag b).1.AllB := by
  have hc := putC_bytes (chunks b) d (i + 1) h (chunkN_bytes _ _ hb)
  unfold put
  split
  · exact h
  split
  · split
    · exact puth_bytes (fl_bytes hc) i (head_bytes _ _ _)
    · exact fl_bytes hc
  · exact hc
theorem new_bytes (n : Nat) : (new n).AllB := ⟨fun s hs => by rw [List.eq_of_mem_replicate hs]; exact bytes_zero 16, fun p hp => by cases hp⟩
theorem arm_bytes {d : DS} (h : d.AllB) (a : Int) (l : List Int) : (d.arm a l).AllB := h
theorem restart_bytes {d : DS} (h : d.AllB) : d.restart.AllB := ⟨h.1, fun p hp => by cases hp⟩
theorem lastP_bytes {i : Int} : ∀ {P : List (Int × List Int)} {b : List Int}, (∀ p ∈ P, Bytes p.2) → lastP i P = some b → Bytes b
  | [], b, _, h => by cases h
  | p :: P, b, hf, h => by
    rw [lastP] at h
    cases hl : lastP i P with
    | some c => rw [hl] at h; simp at h; rw [← h]; exact lastP_bytes (fun q hq => hf q (List.mem_cons_of_mem _ hq)) hl
    | none =>
      rw [hl] at h
      simp at h
      rw [← h.2]
      exact hf p List.mem_cons_self
theorem rd_bytes {d : DS} (h : d.AllB) (i : Int) : Bytes (d.rd i) := by
  unfold rd
  split
  · cases hl : lastP i d.P with
    | none => exact bytes_getD h.1 _
    | some b => exact lastP_bytes h.2 hl
  · exact bytes_nil
end DS
end Go.Proofs.YtkicekddkgehoaaGreatDoorW.Dk
namespace Go.Proofs.YtkicekddkgehoaaGreatDoor.Dsk
open Go.RowKit Go.Proofs.YtkicekddkgehoaaGreatDoor.QMarkPlays Go.Proofs.YtkicekddkgehoaaGreatDoorW.PrintWords Go.Proofs.YtkicekddkgehoaaGreatDoorW.PrintLast Go.Proofs.YtkicekddkgehoaaGreatDoorW.Dk Go.Shelf
set_option linter.unusedVariables false
set_option linter.unusedSimpArgs false

attribute [local go_sem] Oper.semAt_some
theorem get4_f (l : List Int) (hl : 4 ≤ l.length) (hb : DS.Bytes l) : sum_Get.f 200 l = some (DS.get4 l) := by
  match l, hl with
  | a :: b :: c :: d :: r, _ =>
    have h1 := hb a (by simp)
    have h2 := hb b (by simp)
    have h3 := hb c (by simp)
    have h4 := hb d (by simp)
    rw [SumP.get4 a b c d (by omega) (by omega) (by omega) (by omega) r]
    simp only [DS.get4]
    congr 1
    omega
theorem get4_c (A : Option Addr) (n c : Nat) (l : List Int) (hn : l.length = n) (hl : 4 ≤ n) (hb : DS.Bytes l) (W : World) (hr : (Kd.int .u8).C W A n l) (hc : n ≤ c) :
    Calls Tryz.prog 52 #[.slice A n c] W fun e w' => e = .returned (.int .u32 (DS.get4 l)) ∧ Below W.heap.size W w' := by
  subst hn
  exact (sum_Get.calls 200 A c l _ W hr hc (get4_f l hl hb)).mono fun _ _ ⟨h1, h2⟩ => ⟨h1, h2.below⟩
theorem need_f (n : Nat) (hn : n < 1099511627776) : span_Need.f (n : Int) = some (DS.need n : Int) := by
  have e1 : Int.tmod (n : Int) 16 = ((n % 16 : Nat) : Int) := by rw [Int.tmod_eq_emod_of_nonneg (by omega)]; omega
  have e2 : Int.tdiv (n : Int) 16 = ((n / 16 : Nat) : Int) := by rw [Int.tdiv_eq_ediv_of_nonneg (by omega)]; omega
  unfold span_Need.f DS.need
  rw [if_neg (by omega), e1, e2]
  split
  · rw [show wrap64 ((n / 16 : Nat) : Int) = ((n / 16 : Nat) : Int) by unfold wrap64; omega]
    congr 1
    unfold wrap64
    omega
  · congr 1
    unfold wrap64
    omega
theorem need_c (n : Nat) (hn : n < 1099511627776) (W : World) : Calls Tryz.prog 23 #[.int .i64 (n : Int)] W fun e w' => e = .returned (.int .i64 (DS.need n : Int)) ∧ Below W.heap.size W w' :=
  (span_Need.calls (n : Int) _ W (need_f n hn)).mono fun _ _ ⟨h1, h2⟩ => ⟨h1, h2.below⟩

attribute [local go_sem] Oper.semAt_some
theorem get4_lt (l : List Int) (hb : DS.Bytes l) : 0 ≤ DS.get4 l ∧ DS.get4 l < 4294967296 := by
  match l with
  | a :: b :: c :: d :: r =>
    have h1 := hb a (by simp)
    have h2 := hb b (by simp)
    have h3 := hb c (by simp)
    have h4 := hb d (by simp)
    simp only [DS.get4]
    omega
  | [] => simp [DS.get4]
  | [a] => simp [DS.get4]
  | [a, b] => simp [DS.get4]
  | [a, b, c] => simp [DS.get4]
theorem grab_snoc (d : DS) : ∀ (k : Nat) (i : Int), DS.grab d i (k + 1) = DS.grab d i k ++ d.rd (i + k)
  | 0, i => by simp [DS.grab]
  | k + 1, i => by
    rw [DS.grab, grab_snoc d k (i + 1), DS.grab, List.append_assoc, show i + 1 + (k : Int) = i + ((k + 1 : Nat) : Int) by omega]
theorem grab_len {d : DS} (h : d.Ok) : ∀ (k : Nat) (i : Int), 0 ≤ i → i + k ≤ d.S.length → (DS.grab d i k).length = 16 * k
  | 0, i, _, _ => rfl
  | k + 1, i, h0, h1 => by
    rw [DS.grab, List.length_append, DS.rd_len h, if_pos (by omega), grab_len h k (i + 1) (by omega) (by omega)]
    omega
def GetPost (w0 : World) (xs : List Nat) (W : World) (g : Nat) (d : DS) (r : Int × List Int × Bool) (e : Ending) (w' : World) : Prop :=
  ∃ v, e = .returned (.tuple #[.int .u32 r.1, v, .bool r.2.2]) ∧ (Kd.int .u8).R 5 w' W.heap.size (fun _ => True) v r.2.1 ∧ St w0 xs w' g d ∧ Below W.heap.size W w'
set_option maxHeartbeats 4000000 in
set_option maxRecDepth 100000 in
theorem get_none {w0 W : World} {xs : List Nat} {g : Nat} {d : DS} (h : St w0 xs W g d) (i room : Int) (hl : (d.rd i).length ≠ 16) :
    Calls Tryz.prog 31 #[.pointer (some ⟨g, 0, none⟩), .int .i64 i, .int .i64 room] W (GetPost w0 xs W g d (DS.get crcO d i room)) := by
  have e : DS.get crcO d i room = (0, [], false) := by unfold DS.get; rw [if_pos hl]
  rw [e]
  have e0 : (d.rd i) = [] := by
    have := DS.rd_len h.1.isOk i
    rw [this] at hl
    split at hl
    · omega
    · rename_i hn
      unfold DS.rd
      rw [if_neg hn]
  have H := Aside0.mk h
  have E0 := Aside0.mk e0
  clear e e0 hl h
  unfold GetPost
  go_enter Tryz.func31, Tryz.ntmps31
  go_wp2_with (go_at_call 51; refine (st_read H.out i).mono ?_; rw [E0.out]; rintro e w1 ⟨v0, rfl, hR, hS, hM, hB⟩; obtain ⟨A', c', hv0, -, -⟩ := Kd.R_reads hR; subst hv0; have S1 := Aside0.mk hS; have B1 := Aside0.mk hB; clear hR hS hM hB)
  exact bodyPost_ret (v := .tuple #[.int .u32 0, .slice none 0 0, .bool false]) (by simp [results, Tryz.results31, go_sem]) rfl ⟨_, rfl, Kd.R_nil _ _ _ _ _, S1.out, B1.out⟩
set_option maxHeartbeats 4000000 in
set_option maxRecDepth 100000 in
theorem get_some {w0 W : World} {xs : List Nat} {g : Nat} {d : DS} (h : St w0 xs W g d) (i : Nat) (room : Int) (hl : (d.rd i).length = 16) (hb : DS.Bytes (d.rd i)) (hi : i < 100000) (hs : d.S.length ≤ 4000) (hr0 : -1000000 ≤ room) (hr1 : room ≤ 1000000) :
    Calls Tryz.prog 31 #[.pointer (some ⟨g, 0, none⟩), .int .i64 (i : Int), .int .i64 room] W (GetPost w0 xs W g d (DS.get crcO d i room)) := by
  obtain ⟨b, hbq⟩ : ∃ b, b = d.rd (i : Int) := ⟨_, rfl⟩
  rw [← hbq] at hl hb
  have H := Aside0.mk h
  have HL := Aside0.mk hl
  have HBY := Aside0.mk hb
  have HBQ := Aside0.mk hbq
  have hd4 : DS.Bytes (b.drop 4) := fun x hx => hb x (List.mem_of_mem_drop hx)
  have hd8 : DS.Bytes (b.drop 8) := fun x hx => hb x (List.mem_of_mem_drop hx)
  have hd12 : DS.Bytes (b.drop 12) := fun x hx => hb x (List.mem_of_mem_drop hx)
  obtain ⟨t, ht⟩ : ∃ t, t = DS.get4 b := ⟨_, rfl⟩
  obtain ⟨mn, hmn⟩ : ∃ mn : Nat, DS.get4 (b.drop 4) = (mn : Int) := ⟨(DS.get4 (b.drop 4)).toNat, by have := get4_lt _ hd4; omega⟩
  obtain ⟨ck, hck⟩ : ∃ ck, ck = DS.get4 (b.drop 8) := ⟨_, rfl⟩
  obtain ⟨t2, ht2⟩ : ∃ t2, t2 = DS.get4 (b.drop 12) := ⟨_, rfl⟩
  have hm32 : mn < 4294967296 := by have := get4_lt _ hd4; omega
  have T1 := Aside0.mk ht
  have TM := Aside0.mk hmn
  have TC := Aside0.mk hck
  have T2 := Aside0.mk ht2
  have M32 := Aside0.mk hm32
  have HI := Aside0.mk hi
  have HS := Aside0.mk hs
  have HG : Aside0 (DS.get crcO d i room = if t = 0 ∨ t ≠ t2 ∨ (DS.need mn : Int) > room ∨ (DS.need mn : Int) > d.S.length - i then (0, [], false) else
      if crcO ((DS.grab d ((i : Int) + 1) (DS.need mn - 1)).take mn) = ck then (t, (DS.grab d ((i : Int) + 1) (DS.need mn - 1)).take mn, true) else (0, [], false)) := ⟨by
    unfold DS.get
    rw [← hbq, if_neg (by rw [hl]; simp), ← ht, hmn, ← hck, ← ht2, Int.toNat_natCast]⟩
  obtain ⟨res, hres⟩ : ∃ res, res = DS.get crcO d i room := ⟨_, rfl⟩
  rw [← hres]
  obtain ⟨nd, hnd⟩ : ∃ nd, DS.need mn = nd := ⟨_, rfl⟩
  have HRES := Aside0.mk (hres.trans HG.out)
  have hmk1 : (mn : Int) ≤ 9223372036854775807 := by omega
  have hmk2 : (0 : Int) ≤ (mn : Int) := by omega
  clear ht hmn hck ht2 hm32 hi hs HG hres
  have HD4 := Aside0.mk hd4
  have HD8 := Aside0.mk hd8
  have HD12 := Aside0.mk hd12
  clear h hl hb hbq hd4 hd8 hd12
  unfold GetPost
  go_enter Tryz.func31, Tryz.ntmps31
  go_upto_region 5 with (first
    | (go_at_call 52; refine (get4_c (some ⟨q, 0, none⟩) 16 cq b HL.out (by omega) HBY.out w1 C1.out (by have := LC.out; omega)).mono ?_; rw [← T1.out]; rintro e w2 ⟨rfl, hB⟩; have S2 := Aside0.mk (S1.out.after hB); have C2 := Aside0.mk (Kd.C_below C1.out hB); have B2 := Aside0.mk (B1.out.trans (hB.mono B1.out.size)); clear hB)
    | (go_at_call 51; refine (st_read H.out (i : Int)).mono ?_; rw [← HBQ.out]; rintro e w1 ⟨v0, rfl, hR, hS, hM, hB⟩; obtain ⟨q, cq, hv0, hlc, -, -, -, hC, -⟩ := R_plain hR (by have := HL.out; omega); rw [HL.out] at hv0 hlc hC; subst hv0; (have hk1 : (16 : Int) ≤ (cq : Int) := by omega); have LC := Aside0.mk hlc; have C1 := Aside0.mk hC; have S1 := Aside0.mk hS; have B1 := Aside0.mk hB; clear hR hS hM hB hC hlc))
  have hk2 : (0 : Int) ≤ (cq : Int) := by omega
  have hk3 : (4 : Int) ≤ (cq : Int) := by omega
  have hk4 : (8 : Int) ≤ (cq : Int) := by omega
  have hk5 : (12 : Int) ≤ (cq : Int) := by omega
  have hk6 : ¬ cq = 4 := by omega
  have hk7 : ¬ cq = 8 := by omega
  have hk8 : ¬ cq = 12 := by omega
  have cut : ∀ m W', m < 16 → Below w2.heap.size w2 W' → (Kd.int .u8).C W' (some ⟨q, m, none⟩) (16 - m) (b.drop m) := fun m W' hm hB => by
    have h1 := Kd.C_drop (m := m) (c := cq) (show (Kd.int .u8).C W' (some ⟨q, 0, none⟩) b.length b by rw [HL.out]; exact Kd.C_below C2.out hB) (by rw [HL.out]; omega) (by rw [HL.out]; have := LC.out; omega)
    rw [if_neg (by have := LC.out; omega)] at h1
    have e1 : (some (⟨q, 0, none⟩ : Addr)).map (·.add (m * (Kd.int .u8).sz)) = some ⟨q, m, none⟩ := by
      show some (Addr.add _ (m * 1)) = _
      rw [Nat.mul_one, Kd.add_plain2, Nat.zero_add]
    rw [e1, List.length_drop, HL.out] at h1
    exact h1
  have HCUT := Aside0.mk cut
  clear cut
  go_region_held (fun _ => True) (trivial) (first
    | (go_at_call 52; refine (get4_c (some ⟨q, 8, none⟩) 8 (cq - 8) (b.drop 8) (by rw [List.length_drop, HL.out]) (by omega) HD8.out w3 (HCUT.out 8 w3 (by omega) (B3.out)) (by have := LC.out; omega)).mono ?_; rw [← TC.out]; rintro e w4 ⟨rfl, hB⟩; have B4 := Aside0.mk (B3.out.trans (hB.mono B3.out.size)); clear hB)
    | (go_at_call 52; refine (get4_c (some ⟨q, 4, none⟩) 12 (cq - 4) (b.drop 4) (by rw [List.length_drop, HL.out]) (by omega) HD4.out w2.drew (HCUT.out 4 w2.drew (by omega) (below_drew1 (Below.refl _ _))) (by have := LC.out; omega)).mono ?_; rw [TM.out]; rintro e w3 ⟨rfl, hB⟩; have B3 : Aside0 (Below w2.heap.size w2 w3) := ⟨(below_drew1 (Below.refl w2.heap.size w2)).trans (hB.mono (by simp))⟩; clear hB))
  all_goals
    have S4 := Aside0.mk (S2.out.after B4.out)
    have BW := Aside0.mk (B2.out.trans (B4.out.mono B2.out.size))
  have ewm : IntKind.i64.wrap (mn : Int) = (mn : Int) := by have := M32.out; rw [IntKind.wrap_i64]; omega
  simp only [ewm]
  clear ewm
  have hnd1 : 1 ≤ nd := by rw [← hnd]; unfold DS.need; omega
  have hnd2 : nd < 1099511627776 := by have := M32.out; rw [← hnd]; unfold DS.need; omega
  have ND := Aside0.mk hnd
  have HRS := HRES.out
  rw [hnd] at HRS
  have N1 := Aside0.mk hnd1
  have N2 := Aside0.mk hnd2
  have hq1 : -9223372036854775808 ≤ (d.S.length : Int) - (i : Int) := by have := HI.out; have := HS.out; omega
  have hq2 : (d.S.length : Int) - (i : Int) ≤ 9223372036854775807 := by have := HI.out; have := HS.out; omega
  clear hnd hnd1 hnd2
  by_cases h1 : t = 0
  · rw [if_pos (.inl h1)] at HRS
    have HE := Aside0.mk HRS
    clear HRS
    have hb1 : (t == 0) = true := by simp [h1]
    have hb2 : decide (t = 0) = true := by simp [h1]
    clear h1
    go_wp2
    exact bodyPost_ret (v := .tuple #[.int .u32 0, .slice none 0 0, .bool false]) (by simp [results, Tryz.results31, go_sem]) rfl ⟨_, by rw [HE.out], by rw [HE.out]; exact Kd.R_nil _ _ _ _ _, S4.out, BW.out⟩
  have hb1 : (t == 0) = false := by simp [h1]
  have hb2 : decide (t = 0) = false := by simp [h1]
  by_cases h2 : t ≠ t2
  · rw [if_pos (.inr (.inl h2))] at HRS
    have HE := Aside0.mk HRS
    clear HRS
    have hb3 : (t != t2) = true := by simp [h2]
    have hb4 : (t == t2) = false := by simp [h2]
    clear h1 h2
    go_wp2_with (go_at_call 52; refine (get4_c (some ⟨q, 12, none⟩) 4 (cq - 12) (b.drop 12) (by rw [List.length_drop, HL.out]) (by omega) HD12.out w4 (HCUT.out 12 w4 (by omega) B4.out) (by have := LC.out; omega)).mono ?_; rw [← T2.out]; rintro e w5 ⟨rfl, hB⟩; have S5 := Aside0.mk (S4.out.after hB); have B5 := Aside0.mk (BW.out.trans (hB.mono BW.out.size)); clear hB)
    exact bodyPost_ret (v := .tuple #[.int .u32 0, .slice none 0 0, .bool false]) (by simp [results, Tryz.results31, go_sem]) rfl ⟨_, by rw [HE.out], by rw [HE.out]; exact Kd.R_nil _ _ _ _ _, S5.out, B5.out⟩
  replace h2 : t = t2 := Decidable.not_not.1 h2
  have hb3 : (t != t2) = false := by simp [h2]
  have hb4 : (t == t2) = true := by simp [h2]
  by_cases h3 : (nd : Int) > room
  · rw [if_pos (.inr (.inr (.inl h3)))] at HRS
    have HE := Aside0.mk HRS
    clear HRS
    have hb5 : decide ((nd : Int) > room) = true := decide_eq_true h3
    have hb6 : decide (room < (nd : Int)) = true := decide_eq_true h3
    clear h1 h2 h3
    go_wp2_with (first | (go_at_call 23; refine (need_c mn (by have := M32.out; omega) w5).mono ?_; rw [ND.out]; rintro e w6 ⟨rfl, hB⟩; have S6 := Aside0.mk (S5.out.after hB); have B6 := Aside0.mk (B5.out.trans (hB.mono B5.out.size)); clear hB) | (go_at_call 52; refine (get4_c (some ⟨q, 12, none⟩) 4 (cq - 12) (b.drop 12) (by rw [List.length_drop, HL.out]) (by omega) HD12.out w4 (HCUT.out 12 w4 (by omega) B4.out) (by have := LC.out; omega)).mono ?_; rw [← T2.out]; rintro e w5 ⟨rfl, hB⟩; have S5 := Aside0.mk (S4.out.after hB); have B5 := Aside0.mk (BW.out.trans (hB.mono BW.out.size)); clear hB))
    exact bodyPost_ret (v := .tuple #[.int .u32 0, .slice none 0 0, .bool false]) (by simp [results, Tryz.results31, go_sem]) rfl ⟨_, by rw [HE.out], by rw [HE.out]; exact Kd.R_nil _ _ _ _ _, S6.out, B6.out⟩
  have hb5 : decide ((nd : Int) > room) = false := decide_eq_false h3
  have hb6 : decide (room < (nd : Int)) = false := decide_eq_false h3
  by_cases h4 : (nd : Int) > d.S.length - i
  · rw [if_pos (.inr (.inr (.inr h4)))] at HRS
    have HE := Aside0.mk HRS
    clear HRS
    have hb7 : decide ((nd : Int) > (d.S.length : Int) - (i : Int)) = true := decide_eq_true h4
    have hb8 : decide ((d.S.length : Int) - (i : Int) < (nd : Int)) = true := decide_eq_true h4
    clear h1 h2 h3 h4
    go_wp2_with (first | (go_at_call 21; refine (st_size S7.out).mono ?_; rintro e w8 ⟨rfl, rfl⟩) | (go_at_call 23; refine (need_c mn (by have := M32.out; omega) w6).mono ?_; rw [ND.out]; rintro e w7 ⟨rfl, hB⟩; have S7 := Aside0.mk (S6.out.after hB); have B7 := Aside0.mk (B6.out.trans (hB.mono B6.out.size)); clear hB) | (go_at_call 23; refine (need_c mn (by have := M32.out; omega) w5).mono ?_; rw [ND.out]; rintro e w6 ⟨rfl, hB⟩; have S6 := Aside0.mk (S5.out.after hB); have B6 := Aside0.mk (B5.out.trans (hB.mono B5.out.size)); clear hB) | (go_at_call 52; refine (get4_c (some ⟨q, 12, none⟩) 4 (cq - 12) (b.drop 12) (by rw [List.length_drop, HL.out]) (by omega) HD12.out w4 (HCUT.out 12 w4 (by omega) B4.out) (by have := LC.out; omega)).mono ?_; rw [← T2.out]; rintro e w5 ⟨rfl, hB⟩; have S5 := Aside0.mk (S4.out.after hB); have B5 := Aside0.mk (BW.out.trans (hB.mono BW.out.size)); clear hB))
    exact bodyPost_ret (v := .tuple #[.int .u32 0, .slice none 0 0, .bool false]) (by simp [results, Tryz.results31, go_sem]) rfl ⟨_, by rw [HE.out], by rw [HE.out]; exact Kd.R_nil _ _ _ _ _, S7.out, B7.out⟩
  have hb7 : decide ((nd : Int) > (d.S.length : Int) - (i : Int)) = false := decide_eq_false h4
  have hb8 : decide ((d.S.length : Int) - (i : Int) < (nd : Int)) = false := decide_eq_false h4
  rw [if_neg (fun h => h.elim h1 (fun h => h.elim (fun h => h h2) (fun h => h.elim h3 h4)))] at HRS
  have HE := Aside0.mk HRS
  clear HRS
  have H4 := Aside0.mk h4
  clear h1 h2 h3 h4
  go_wp2_with (first | (go_at_call 23; refine (need_c mn (by have := M32.out; omega) w7).mono ?_; rw [ND.out]; rintro e w8 ⟨rfl, hB⟩; have S8 := Aside0.mk (S7.out.after hB); have B8 := Aside0.mk (B7.out.trans (hB.mono B7.out.size)); clear hB) | (go_at_call 21; refine (st_size S7.out).mono ?_; rintro e w8 ⟨rfl, rfl⟩) | (go_at_call 23; refine (need_c mn (by have := M32.out; omega) w6).mono ?_; rw [ND.out]; rintro e w7 ⟨rfl, hB⟩; have S7 := Aside0.mk (S6.out.after hB); have B7 := Aside0.mk (B6.out.trans (hB.mono B6.out.size)); clear hB) | (go_at_call 23; refine (need_c mn (by have := M32.out; omega) w5).mono ?_; rw [ND.out]; rintro e w6 ⟨rfl, hB⟩; have S6 := Aside0.mk (S5.out.after hB); have B6 := Aside0.mk (B5.out.trans (hB.mono B5.out.size)); clear hB) | (go_at_call 52; refine (get4_c (some ⟨q, 12, none⟩) 4 (cq - 12) (b.drop 12) (by rw [List.length_drop, HL.out]) (by omega) HD12.out w4 (HCUT.out 12 w4 (by omega) B4.out) (by have := LC.out; omega)).mono ?_; rw [← T2.out]; rintro e w5 ⟨rfl, hB⟩; have S5 := Aside0.mk (S4.out.after hB); have B5 := Aside0.mk (BW.out.trans (hB.mono BW.out.size)); clear hB))
  obtain ⟨n1, hn1⟩ : ∃ n1 : Nat, nd = n1 + 1 := ⟨nd - 1, by have := N1.out; omega⟩
  have e54 : (nd : Int) - 1 = (n1 : Int) := by omega
  have e55 : IntKind.i64.wrap ((nd : Int) - 1) = (n1 : Int) := by have := N2.out; rw [IntKind.wrap_i64]; omega
  have e56 : wrap64 ((nd : Int) - 1) = (n1 : Int) := by have := N2.out; unfold wrap64; omega
  have e57 : wrap64 (n1 : Int) = (n1 : Int) := by have := N2.out; unfold wrap64; omega
  simp only [e55, e56, e54, e57]
  clear e55 e56 e57
  have HN1 := Aside0.mk hn1
  have hn2 : n1 ≤ 1099511627776 := by have := N2.out; omega
  have HN2 := Aside0.mk hn2
  clear e54 hn1 hn2 hb5 hb6 hb7 hb8 hb1 hb2 hb3 hb4 hq1 hq2 hk1 hk2 hk3 hk4 hk5 hk6 hk7 hk8 hr0 hr1 hmk1 hmk2 HD4 HD8 HD12 HCUT
  go_loopw [7, 55] (fun u7 u55 wq => ∃ k : Nat, u55 = .int .i64 (k : Int) ∧ Aside0 (k ≤ n1) ∧ Aside0 ((Kd.int .u8).R 5 wq W.heap.size (fun _ => True) u7 (DS.grab d ((i : Int) + 1) k)) ∧ Aside0 (St w0 xs wq g d) ∧ Aside0 (Below W.heap.size W wq)) (fun u7 u55 _ => n1 + 1 - (intOf u55).toNat)
  case atStart => exact ⟨0, rfl, ⟨Nat.zero_le _⟩, ⟨Kd.R_nil _ _ _ _ _⟩, S8, B8⟩
  case round =>
    obtain ⟨k, rfl, HK, HV, HSQ, HBQ'⟩ := hrel
    have hle : n1 + 1 + i ≤ d.S.length := by have := H4.out; have := HN1.out; omega
    have HLE := Aside0.mk hle
    by_cases hlt : k < n1
    · have hd : decide ((k : Int) < (n1 : Int)) = true := decide_eq_true (by omega)
      have hd2 : decide (k < n1) = true := decide_eq_true hlt
      have HGL : Aside0 ((DS.grab d ((i : Int) + 1) k).length = 16 * k) := ⟨grab_len H.out.1.isOk k _ (by omega) (by omega)⟩
      have HRL : Aside0 ((d.rd ((i : Int) + 1 + (k : Int))).length = 16) := ⟨by rw [DS.rd_len H.out.1.isOk, if_pos (by omega)]⟩
      have HGS := Aside0.mk (grab_snoc d k ((i : Int) + 1))
      have HLT := Aside0.mk hlt
      clear hlt hle
      go_upto_region 11 with (fail)
      have hp3 : (i : Int) + 1 ≤ 9223372036854775807 := by have := HI.out; omega
      have hp4 : (i : Int) + 1 + (k : Int) ≤ 9223372036854775807 := by have := HI.out; have := HN2.out; have := HLT.out; omega
      have hp5 : (0 : Int) ≤ (i : Int) + 1 := by omega
      have hp6 : (0 : Int) ≤ (i : Int) + 1 + (k : Int) := by omega
      go_upto_region 12 with (first
        | ((with_reducible refine gate_builtin (b := .append) (xs := #[.tmp 58, .tmp 64]) rfl ?_); at_builtin; go_must (refine Kd.R_append_rows (Kd.int .u8) (w0 := W) W.heap.size rfl (.tmp 58) (.tmp 64) 52 5 (.int .u8 0) 1 rfl Tryz.underlying52 infoU8 rfl (by decide) (by decide) _ (DS.grab d ((i : Int) + 1) k) (d.rd ((i : Int) + 1 + (k : Int))) _ _ _ (fun _ => True) (fun _ => False) rfl rfl HV9.out HC9.out (fun _ _ h => h) (fun _ h => h.elim) (fun _ _ => trivial) B9.out B9.out.size (by have := HGL.out; have := HRL.out; have := HLT.out; have := HLE.out; have := HS.out; omega) ?_; intro v3 w10 ho hb hg hat; rw [← HGS.out] at ho; have HO3 := Aside0.mk ho; have HB3 := Aside0.mk hb; have S10 := Aside0.mk (H.out.after HB3.out); clear ho hb hg hat))
        | (go_at_call 51; refine (st_read HSQ.out ((i : Int) + 1 + (k : Int))).mono ?_; rintro e w9 ⟨v0, rfl, hR, hS, hM, hB⟩; obtain ⟨A9, c9, hv0, -, hC⟩ := Kd.R_reads hR; rw [HRL.out] at hv0 hC; subst hv0; have HC9 := Aside0.mk hC; have S9 := Aside0.mk hS; have B9 := Aside0.mk (HBQ'.out.trans (hB.mono HBQ'.out.size)); have HV9 := Aside0.mk (Kd.R_step HV.out (fun k _ hk => hB.block k hk)); clear hR hS hM hB hC))
      clear hp3 hp4 hp5 hp6
      have hp2 : (k : Int) + 1 ≤ 9223372036854775807 := by have := HN2.out; have := HLT.out; omega
      have hp0 : (0 : Int) ≤ (k : Int) := by omega
      go_wp2
      all_goals exact ⟨⟨k + 1, by go_num, ⟨by have := HLT.out; omega⟩, HO3, S10, HB3⟩, by have := HLT.out; simp [intOf]; omega⟩
    · obtain rfl : k = n1 := by have := HK.out; omega
      have hd : decide ((k : Int) < (k : Int)) = false := decide_eq_false (by omega)
      have hd2 : decide (k < k) = false := decide_eq_false (by omega)
      have hGL : (DS.grab d ((i : Int) + 1) k).length = 16 * k := grab_len H.out.1.isOk k _ (by omega) (by omega)
      have hmk : mn ≤ 16 * k := by
        have h1 := ND.out
        have h2 := HN1.out
        unfold DS.need at h1
        omega
      obtain ⟨A9, c9, hv9, hlc9, hC9⟩ := Kd.R_reads HV.out
      subst hv9
      rw [hGL] at hlc9
      have hCT := Kd.C_take (m := mn) hC9 (by rw [hGL]; exact hmk)
      have hll : ((DS.grab d ((i : Int) + 1) k).take mn).length = mn := by rw [List.length_take, hGL]; omega
      have hHE := HE.out
      rw [show nd - 1 = k by have := HN1.out; omega] at hHE
      generalize (DS.grab d ((i : Int) + 1) k).take mn = l at hCT hll hHE
      rw [hGL]
      have hq1 : (0 : Int) ≤ (mn : Int) := by omega
      have hq2 : (mn : Int) ≤ (c9 : Int) := by omega
      have HCT := Aside0.mk hCT
      have HLL := Aside0.mk hll
      have HHE := Aside0.mk hHE
      have HMC : Aside0 (mn ≤ c9) := ⟨by omega⟩
      have HCL : Aside0 (bytes_Clone.f l = some l) := ⟨by rw [bytes_Clone.f, Option.bind_some, if_pos (by have := M32.out; simp only [List.length_nil, Nat.zero_add]; omega), List.nil_append]⟩
      obtain ⟨ko, hko⟩ := of_one l (by have := M32.out; omega)
      have HKO := Aside0.mk hko
      clear hle hlt hGL hmk hlc9 hC9 hCT hll hHE hko
      by_cases hx : crcO l = ck
      · have HR2 : Aside0 (res = (t, l, true)) := ⟨by rw [HHE.out, if_pos hx]⟩
        have hb1 : (crcO l != ck) = false := by simp [hx]
        have hb2 : (crcO l == ck) = true := by simp [hx]
        clear hx
        go_wp2_with (first
          | (go_at_call 54; refine (sum_Of.calls ko (some ⟨w10.heap.size, 0, none⟩) 1 [l] (crcO l) _ (Kd.C_slice_one (blk_new w10 _) HLL.out LC10.out (Kd.C_below C10.out (below_alloc (Below.refl _ _) _))) (by simp) HKO.out).mono ?_; rintro e w11 ⟨rfl, hW⟩; have hW' := (below_alloc (Below.refl w10.heap.size w10) _).trans (hW.below.mono (by simp)); have R11 := Aside0.mk (Kd.R_below R10.out hW'); have S11 := Aside0.mk (S10.out.after hW'); have B11 := Aside0.mk (B10.out.trans (hW'.mono B10.out.size)); clear hW hW')
          | (go_at_call 53; refine (by have h := bytes_Clone.calls A9 c9 l l wr HCT.out (by have := HLL.out; have := HMC.out; omega) HCL.out; rw [HLL.out] at h; exact h : Calls Tryz.prog 53 #[.slice A9 mn c9] wr _).mono ?_; rintro e w10 ⟨v0, rfl, ho, hB⟩; have R10 := Aside0.mk (Kd.R_lower ho (show W.heap.size ≤ _ from HBQ'.out.size)); have S10 := Aside0.mk (HSQ.out.after hB); have B10 := Aside0.mk (HBQ'.out.trans (hB.mono HBQ'.out.size)); (obtain ⟨A10, c10, hv0, l10, hC10⟩ := Kd.R_reads ho); rw [HLL.out] at hv0; subst hv0; have C10 := Aside0.mk hC10; have LC10 := Aside0.mk l10; clear ho hB hC10 l10))
        exact bodyPost_ret (v := .tuple #[.int .u32 t, .slice A10 mn c10, .bool true]) (by simp [results, Tryz.results31, go_sem]) rfl ⟨_, by rw [HR2.out], by rw [HR2.out]; exact R11.out, S11.out, B11.out⟩
      · have HR2 : Aside0 (res = (0, [], false)) := ⟨by rw [HHE.out, if_neg hx]⟩
        have hb1 : (crcO l != ck) = true := by simp [hx]
        have hb2 : (crcO l == ck) = false := by simp [hx]
        clear hx
        go_wp2_with (first
          | (go_at_call 54; refine (sum_Of.calls ko (some ⟨w10.heap.size, 0, none⟩) 1 [l] (crcO l) _ (Kd.C_slice_one (blk_new w10 _) HLL.out LC10.out (Kd.C_below C10.out (below_alloc (Below.refl _ _) _))) (by simp) HKO.out).mono ?_; rintro e w11 ⟨rfl, hW⟩; have hW' := (below_alloc (Below.refl w10.heap.size w10) _).trans (hW.below.mono (by simp)); have R11 := Aside0.mk (Kd.R_below R10.out hW'); have S11 := Aside0.mk (S10.out.after hW'); have B11 := Aside0.mk (B10.out.trans (hW'.mono B10.out.size)); clear hW hW')
          | (go_at_call 53; refine (by have h := bytes_Clone.calls A9 c9 l l wr HCT.out (by have := HLL.out; have := HMC.out; omega) HCL.out; rw [HLL.out] at h; exact h : Calls Tryz.prog 53 #[.slice A9 mn c9] wr _).mono ?_; rintro e w10 ⟨v0, rfl, ho, hB⟩; have R10 := Aside0.mk (Kd.R_lower ho (show W.heap.size ≤ _ from HBQ'.out.size)); have S10 := Aside0.mk (HSQ.out.after hB); have B10 := Aside0.mk (HBQ'.out.trans (hB.mono HBQ'.out.size)); (obtain ⟨A10, c10, hv0, l10, hC10⟩ := Kd.R_reads ho); rw [HLL.out] at hv0; subst hv0; have C10 := Aside0.mk hC10; have LC10 := Aside0.mk l10; clear ho hB hC10 l10))
        exact bodyPost_ret (v := .tuple #[.int .u32 0, .slice none 0 0, .bool false]) (by simp [results, Tryz.results31, go_sem]) rfl ⟨_, by rw [HR2.out], by rw [HR2.out]; exact Kd.R_nil _ _ _ _ _, S11.out, B11.out⟩
/-- What is got, wherever it is asked for. -/
theorem st_get {w0 W : World} {xs : List Nat} {g : Nat} {d : DS} (h : St w0 xs W g d) (i room : Int) (hb : d.AllB) (hi : i < 100000) (hs : d.S.length ≤ 4000) (hr0 : -1000000 ≤ room) (hr1 : room ≤ 1000000) :
    Calls Tryz.prog 31 #[.pointer (some ⟨g, 0, none⟩), .int .i64 i, .int .i64 room] W (GetPost w0 xs W g d (DS.get crcO d i room)) := by
  by_cases hl : (d.rd i).length = 16
  · have h0 : 0 ≤ i := by
      have := DS.rd_len h.1.isOk i
      rw [hl] at this
      split at this <;> omega
    obtain ⟨m, rfl⟩ : ∃ m : Nat, i = (m : Int) := ⟨i.toNat, by omega⟩
    exact get_some h m room hl (DS.rd_bytes hb _) (by omega) hs hr0 hr1
  · exact get_none h i room hl

end Go.Proofs.YtkicekddkgehoaaGreatDoor.Dsk
namespace Go.Proofs.YtkicekddkgehoaaGreatDoorW.Dk
namespace DS
theorem putC_fail : ∀ (cs ds : List (List Int)) (d : DS) (i : Int), (putC d i cs).2 ≠ 0 → putC d i (cs ++ ds) = putC d i cs
  | [], ds, d, i, h => absurd rfl h
  | c :: cs, ds, d, i, h => by
    rw [List.cons_append, putC, putC]
    rw [putC] at h
    split
    · rename_i h0
      rw [if_pos h0] at h
      exact putC_fail cs ds _ _ h
    · rfl
theorem putC_snoc : ∀ (cs : List (List Int)) (c : List Int) (d : DS) (i : Int), (putC d i cs).2 = 0 → putC d i (cs ++ [c]) = (putC d i cs).1.wr (i + cs.length) c
  | [], c, d, i, h => by
    rw [List.nil_append, putC, putC, putC, List.length_nil, Int.natCast_zero, Int.add_zero]
    split
    · rename_i h0
      exact Prod.ext rfl h0.symm
    · rfl
  | x :: cs, c, d, i, h => by
    rw [putC] at h
    rw [List.cons_append, putC, putC]
    split
    · rename_i h0
      rw [if_pos h0] at h
      rw [putC_snoc cs c _ _ h, List.length_cons]
      congr 1
      omega
    · rename_i h0
      rw [if_neg h0] at h
      exact absurd h h0
theorem wr_Plen (d : DS) (i : Int) (b : List Int) : (d.wr i b).1.P.length ≤ d.P.length + 1 := by
  unfold wr
  split
  · exact Nat.le_succ _
  split
  · exact Nat.le_succ _
  split
  · exact Nat.le_succ _
  split
  · exact Nat.zero_le _
  · show (d.P ++ [(i, b)]).length ≤ _
    rw [List.length_append]
    exact Nat.le_refl _
theorem putC_Plen : ∀ (cs : List (List Int)) (d : DS) (i : Int), (putC d i cs).1.P.length ≤ d.P.length + cs.length
  | [], d, i => Nat.le_refl _
  | c :: cs, d, i => by
    have h := wr_Plen d i c
    rw [putC, List.length_cons]
    split
    · have := putC_Plen cs (d.wr i c).1 (i + 1)
      omega
    · omega
theorem fl_P (d : DS) (h : d.fl.2 = 0) : d.fl.1.P = [] := by
  unfold fl at h ⊢
  split
  · rename_i h0
    rw [if_pos h0] at h
    cases h
  · split
    · rfl
    · rfl
end DS
end Go.Proofs.YtkicekddkgehoaaGreatDoorW.Dk
namespace Go.Proofs.YtkicekddkgehoaaGreatDoor.Dsk
open Go.RowKit Go.Proofs.YtkicekddkgehoaaGreatDoor.QMarkPlays Go.Proofs.YtkicekddkgehoaaGreatDoorW.PrintWords Go.Proofs.YtkicekddkgehoaaGreatDoorW.PrintLast Go.Proofs.YtkicekddkgehoaaGreatDoorW.Dk Go.Shelf
set_option linter.unusedVariables false
set_option linter.unusedSimpArgs false

attribute [local go_sem] Oper.semAt_some
/-! Rows that come from elsewhere; chunks of a row. -/
theorem cell_of_heap {w W : World} {p : Addr} (h : W.heap[p.block]? = w.heap[p.block]?) : W.cell? p = w.cell? p := by
  unfold World.cell?
  rw [h]
/-- A row of bytes reads the same where its block lies as it lay. -/
theorem C_blk {w W : World} {A : Option Addr} {n : Nat} {b : List Int} (h : (Kd.int .u8).C w A n b) (hm : ∀ ad, A = some ad → 0 < n → W.heap[ad.block]? = w.heap[ad.block]?) : (Kd.int .u8).C W A n b :=
  ⟨h.1, h.2.1, fun hp => by
    obtain ⟨ad, e, hc⟩ := h.2.2 hp
    refine ⟨ad, e, fun j p hj => ?_⟩
    obtain ⟨c, g1, g2, g3⟩ := hc j p hj
    exact ⟨c, g1, g2, fun i u hu => (cell_of_heap (by rw [add_block]; exact hm ad e hp)).trans (g3 i u hu)⟩⟩
/-- A row of bytes that no disk made since w0 beside xs can touch. -/
def Rd (w0 : World) (xs : List Nat) (W : World) (A : Option Addr) (b : List Int) : Prop :=
  (Kd.int .u8).C W A b.length b ∧ ∀ ad, A = some ad → 0 < b.length → (ad.block < w0.heap.size ∨ ad.block ∈ xs) ∧ ad.block < W.heap.size
theorem Rd.step {w0 W W' : World} {xs : List Nat} {A : Option Addr} {b : List Int} (h : Rd w0 xs W A b) (h1 : Below w0.heap.size w0 W) (h2 : Below w0.heap.size w0 W') (hs : W.heap.size ≤ W'.heap.size) (hm : Sm xs W W') : Rd w0 xs W' A b :=
  ⟨C_blk h.1 (fun ad e hp => (h.2 ad e hp).1.elim (fun hl => (h2.block _ hl).trans (h1.block _ hl).symm) (fun hx => hm _ hx)), fun ad e hp => ⟨(h.2 ad e hp).1, Nat.lt_of_lt_of_le (h.2 ad e hp).2 hs⟩⟩
theorem Rd.below {w0 W W' : World} {xs : List Nat} {A : Option Addr} {b : List Int} (h : Rd w0 xs W A b) (hb : Below W.heap.size W W') : Rd w0 xs W' A b :=
  ⟨Kd.C_below h.1 hb, fun ad e hp => ⟨(h.2 ad e hp).1, Nat.lt_of_lt_of_le (h.2 ad e hp).2 hb.size⟩⟩
theorem Rd.mono {w0 W : World} {xs ys : List Nat} {A : Option Addr} {b : List Int} (h : Rd w0 xs W A b) (hs : ∀ x, x ∈ xs → x ∈ ys) : Rd w0 ys W A b :=
  ⟨h.1, fun ad e hp => ⟨(h.2 ad e hp).1.elim .inl (fun hx => .inr (hs _ hx)), (h.2 ad e hp).2⟩⟩
theorem St.less {w0 W : World} {xs ys : List Nat} {g : Nat} {d : DS} (h : St w0 xs W g d) (hs : ∀ x, x ∈ ys → x ∈ xs) : St w0 ys W g d :=
  ⟨h.1.mono (fun k hk => ⟨hk.1, fun e => hk.2 (hs k e)⟩), h.2.1, fun y hy => h.2.2 y (hs y hy)⟩
theorem St.own {w0 W W' : World} {xs : List Nat} {g : Nat} {d : DS} {row : Option Nat} (h : St w0 xs W g d) (hg : W.grownBy W' row) (hr : ∀ r, row = some r → w0.heap.size ≤ r ∧ ∃ o : Obj, W.heap[r]? = some o ∧ o.isCells = false) : St w0 xs W' g d := by
  refine ⟨(h.1.bound.step (w1 := W') (fun k hk hlt => hg.block k hlt (fun e => ?_))).mono (fun k hk => hk.1), ?_, fun x hx => Nat.lt_of_lt_of_le (h.2.2 x hx) hg.size⟩
  · obtain ⟨_, o, ho, hoc⟩ := hr k e.symm
    obtain ⟨_, _, cells, q, fr, hc⟩ := hk.2
    rw [hc] at ho
    injection ho with ho
    subst ho
    cases hoc
  · exact ⟨hg.os.trans h.2.1.os, hg.tape.trans h.2.1.tape, hg.output.trans h.2.1.output, Nat.le_trans h.2.1.size hg.size, fun k hk => (hg.block k (Nat.lt_of_lt_of_le hk h.2.1.size) (fun e => by have := (hr k e.symm).1; omega)).trans (h.2.1.block k hk)⟩
/-- A write, and that it keeps what is no cells. -/
theorem st_writeK {w0 W : World} {xs : List Nat} {g : Nat} {d : DS} (h : St w0 xs W g d) (i : Int) (x : Nat) (b : List Int) (hx : x ∈ xs) (hs : SecAt W x b) (hl : b.length = 16) (hP : d.P.length < 1099511627776) :
    Calls Tryz.prog 42 #[.pointer (some ⟨g, 0, none⟩), .int .i64 i, .slice (some ⟨x, 0, none⟩) 16 16] W fun e w' => e = .returned (.int .i64 (d.wr i b).2) ∧ St w0 xs w' g (d.wr i b).1 ∧ Sm xs W w' ∧ KeepsOthers W w' := by
  have hw := write_any h.1.bound i (some ⟨x, 0, none⟩) 16 b (fun W_ hk => Kd.C_int_cells (T := 5) (fr := (0, 0)) ((hk.2 x (h.2.2 x hx) (fun e => e.1.2 hx)).trans hs) rfl (by omega)) (by omega) hP
  rw [hl] at hw
  refine hw.mono fun e w' ⟨h1, h2, h3⟩ => ⟨h1, ?_⟩
  obtain ⟨q1, q2⟩ := h.kept (h2.mono (fun k hk => hk.elim (fun e => .inl e.1) .inr)) (h3.mono (fun k hk => hk.1))
  refine ⟨q1, q2, h3.size, fun k o hk hc => (h3.block k (Array.getElem?_eq_some_iff.1 hk).1 (fun e => ?_)).trans hk⟩
  obtain ⟨_, _, cells, q, fr, hcc⟩ := e.2
  rw [hcc] at hk
  injection hk with hk
  subst hk
  cases hc
/-- The j-th chunk of a row. -/
def chV (ad : Addr) (L j : Nat) : Value := .slice (some (ad.add (16 * j))) (min 16 (L - 16 * j)) (min 16 (L - 16 * j))
def ch (b : List Int) (j : Nat) : List Int := (b.drop (16 * j)).take 16
theorem ch_len (b : List Int) (j : Nat) : (ch b j).length = min 16 (b.length - 16 * j) := by rw [ch, List.length_take, List.length_drop]
theorem ch_C {w : World} {ad : Addr} {b : List Int} (h : (Kd.int .u8).C w (some ad) b.length b) (j : Nat) (hj : 16 * j < b.length) : (Kd.int .u8).C w (some (ad.add (16 * j))) (ch b j).length (ch b j) := by
  have h1 := Kd.C_drop (m := 16 * j) (c := b.length) h (by omega) (Nat.le_refl _)
  rw [if_neg (by omega)] at h1
  have e1 : (some ad).map (·.add (16 * j * (Kd.int .u8).sz)) = some (ad.add (16 * j)) := by
    show some (Addr.add _ (16 * j * 1)) = _
    rw [Nat.mul_one]
  rw [e1] at h1
  have h2 := Kd.C_take (m := min 16 (b.length - 16 * j)) h1 (by rw [List.length_drop]; omega)
  have e2 : (b.drop (16 * j)).take (min 16 (b.length - 16 * j)) = ch b j := by
    rw [ch]
    by_cases hb : b.length - 16 * j ≤ 16
    · rw [List.take_of_length_le (by rw [List.length_drop]; omega), List.take_of_length_le (by rw [List.length_drop]; omega)]
    · rw [Nat.min_eq_left (by omega)]
  rw [e2] at h2
  exact h2
theorem ch_chunk (b : List Int) : ∀ (k j : Nat), DS.chunkN k (b.drop (16 * j)) = (List.range' j k).map fun t => DS.pad (ch b t)
  | 0, j => rfl
  | k + 1, j => by
    rw [DS.chunkN, List.drop_drop, show 16 * j + 16 = 16 * (j + 1) by omega, ch_chunk b k (j + 1)]
    rfl
theorem ch_chunks (b : List Int) : DS.chunks b = (List.range ((b.length + 15) / 16)).map fun t => DS.pad (ch b t) := by
  have := ch_chunk b ((b.length + 15) / 16) 0
  rw [Nat.mul_zero, List.drop_zero, ← List.range_eq_range'] at this
  exact this
def nch (L : Nat) : Nat := (L + 15) / 16
set_option maxRecDepth 100000 in
set_option maxHeartbeats 2000000 in
theorem chunk1_in (f : Nat) (hf : 1 ≤ f) (l Bs Bn L c : Nat) (A : Option Addr) (hc : L ≤ c) (hc2 : L ≤ 4611686018427387904) (J Jx : List { j : Nat // j < nch L } → World → Prop)
    (Kp : World → World → Prop) (hKp : ∀ W W', Kp W W' → W'.cell? ⟨Bs, 0, none⟩ = W.cell? ⟨Bs, 0, none⟩ ∧ W'.cell? ⟨Bn, 0, none⟩ = W.cell? ⟨Bn, 0, none⟩)
    (ad : Addr) (hA : 0 < L → A = some ad)
    (hJ : ∀ pre W n, J pre W → J pre (W.drewN n))
    (hY : ∀ pre (x : { j : Nat // j < nch L }) W, J pre W → pre.length < nch L → YieldAt Fence.wide (f - 1) Tryz.prog l #[chV ad L x.1] W fun e W' =>
      (e = .returned (.bool true) ∧ J (pre ++ [x]) W' ∧ Kp W W') ∨ (e = .returned (.bool false) ∧ Jx (pre ++ [x]) W'))
    (W : World) (hBs : W.cell? ⟨Bs, 0, none⟩ = some (.slice A L c)) (hBn : W.cell? ⟨Bn, 0, none⟩ = some (.int .i64 16)) (h0 : J [] W) :
    CallsIn Fence.wide f Tryz.prog 66 #[.func (.yield l) #[] #[], .pointer (some ⟨Bs, 0, none⟩), .pointer (some ⟨Bn, 0, none⟩)] W fun e W' => (∃ v, e = .returned v) ∧
      ((∃ ys, ys.map (·.1) = List.range (nch L) ∧ J ys W') ∨ (∃ pre, (∃ k, k ≤ nch L ∧ pre.map (·.1) = List.range k) ∧ Jx pre W')) := by
  refine callsIn_of_wp Tryz.func66 rfl trivial ?_ rfl
  simp only [Tryz.ntmps66, List.size_toArray, List.length_cons, List.length_nil, Nat.reduceAdd, Nat.reduceSub, Array.replicate_succ, Array.replicate_zero, List.push_toArray, List.append_toArray, List.nil_append, List.cons_append]
  have HS : Aside0 (W.cell? ⟨Bs, 0, none⟩ = some (.slice A L c) ∧ W.cell? ⟨Bn, 0, none⟩ = some (.int .i64 16)) := ⟨hBs, hBn⟩
  clear hBs hBn
  gi_wp2
  gi_loopw [4] (fun u wr => ∃ (k : Nat) (pre : List { j : Nat // j < nch L }), u = .int .i64 ((16 * k : Nat) : Int) ∧ Aside0 (k ≤ nch L) ∧ Aside0 (pre.map (·.1) = List.range k) ∧ Aside0 (J pre wr) ∧ Aside0 (wr.cell? ⟨Bs, 0, none⟩ = some (.slice A L c) ∧ wr.cell? ⟨Bn, 0, none⟩ = some (.int .i64 16))) (fun u _ => L + 17 - (intOf u).toNat)
  case atStart => exact ⟨0, [], rfl, ⟨Nat.zero_le _⟩, ⟨rfl⟩, ⟨h0⟩, HS⟩
  case round =>
    obtain ⟨k, pre, rfl, HK, HP, HJ, HC⟩ := hrel
    obtain ⟨hcS, hcN⟩ := HC.out
    by_cases hlt : 16 * k < L
    · have hkn : k < nch L := by unfold nch; omega
      obtain rfl := hA (by omega)
      have hlen : pre.length < nch L := by have := congrArg List.length HP.out; rw [List.length_map, List.length_range] at this; omega
      obtain ⟨s, hs⟩ : ∃ s, 16 * k = s := ⟨_, rfl⟩
      obtain ⟨m, hm⟩ : ∃ m, min 16 (L - s) = m := ⟨_, rfl⟩
      have HS2 := Aside0.mk hs
      rw [hs] at hlt ⊢
      have hd : decide ((s : Int) < (L : Int)) = true := decide_eq_true (by omega)
      have hd2 : decide (s < L) = true := decide_eq_true hlt
      have hp0 : (0 : Int) ≤ (s : Int) := by omega
      have hp1 : (s : Int) ≤ (L : Int) := by omega
      have hp2 : (s : Int) ≤ (c : Int) := by omega
      have hp3 : (m : Int) ≤ 16 := by omega
      have hp4 : (0 : Int) ≤ (m : Int) := by omega
      have hp5 : (s : Int) + (m : Int) ≤ (c : Int) := by omega
      have hp6 : (s : Int) + (m : Int) ≤ 4611686018427387904 := by omega
      have hne : ¬ c = s := by omega
      have hm0 : ¬ m = 0 := by omega
      have hm1 : ¬ s + m = s := by omega
      have hm2 : ¬ (m : Int) = 0 := by omega
      have HM := Aside0.mk hm
      have HLT := Aside0.mk hlt
      have HKN := Aside0.mk hkn
      have HLEN := Aside0.mk hlen
      clear hm hs hlt hkn hlen hA
      gi_wp2_with fail
      gi_quiet (fail)
      have em : (if ((L - s : Nat) : Int) < 16 then ((L - s : Nat) : Int) else 16) = (m : Int) := by have := HM.out; split <;> omega
      have em2 : min (16 : Int) ((L - s : Nat) : Int) = (m : Int) := by have := HM.out; omega
      first | simp only [em] | simp only [em2]
      clear em em2
      obtain ⟨fn, tmps, assign, body, hy, hR⟩ := hY pre ⟨k, HKN.out⟩ (wr.drewN nq) (hJ _ _ _ HJ.out) HLEN.out
      have evv : chV ad L k = .slice (some (ad.add s)) m m := by unfold chV; rw [HS2.out, HM.out]
      dsimp only at hy
      rw [evv] at hy
      clear evv
      have hpre2 : (pre ++ [(⟨k, HKN.out⟩ : { j : Nat // j < nch L })]).map (·.1) = List.range (k + 1) := by rw [List.map_append, HP.out, List.range_succ]; rfl
      have HP2 := Aside0.mk hpre2
      clear hpre2
      gi_wp2
      refine hR.mono ?_
      rintro e W3 (⟨rfl, hJ3, hk3⟩ | ⟨rfl, hJx3⟩)
      · obtain ⟨e1, e2⟩ := hKp _ _ hk3
        have HC3 : Aside0 (W3.cell? ⟨Bs, 0, none⟩ = some (.slice (some ad) L c) ∧ W3.cell? ⟨Bn, 0, none⟩ = some (.int .i64 16)) := ⟨e1.trans HC.out.1, e2.trans HC.out.2⟩
        have hcN3 := HC3.out.2
        have hp7 : (s : Int) + 16 ≤ 9223372036854775807 := by omega
        clear e1 e2
        gi_wp2
        go_roundw
        case rel => exact ⟨k + 1, _, by rw [← HS2.out]; go_num, ⟨HKN.out⟩, HP2, ⟨hJ3⟩, HC3⟩
        case measure => have := HLT.out; simp [intOf]; omega
      · gi_wp2
        refine bodyPost_ret (results_none rfl _ _ _) rfl ?_
        exact ⟨⟨_, rfl⟩, .inr ⟨_, ⟨k + 1, HKN.out, HP2.out⟩, hJx3⟩⟩
    · obtain rfl : k = nch L := by have := HK.out; unfold nch at this ⊢; omega
      have hge : L ≤ 16 * nch L := by unfold nch; omega
      obtain ⟨s, hs⟩ : ∃ s, 16 * nch L = s := ⟨_, rfl⟩
      rw [hs] at hge hlt ⊢
      have hd : decide ((s : Int) < (L : Int)) = false := decide_eq_false (by omega)
      have hd2 : decide (s < L) = false := decide_eq_false hlt
      clear hlt hge hs
      gi_wp2
      go_end0
      exact ⟨⟨_, rfl⟩, .inl ⟨pre, HP.out, HJ.out⟩⟩
def KpC (Bs Bn : Nat) (W W' : World) : Prop := W'.cell? ⟨Bs, 0, none⟩ = W.cell? ⟨Bs, 0, none⟩ ∧ W'.cell? ⟨Bn, 0, none⟩ = W.cell? ⟨Bn, 0, none⟩
theorem KpC.trans {Bs Bn : Nat} {A B C : World} (h : KpC Bs Bn A B) (k : KpC Bs Bn B C) : KpC Bs Bn A C := ⟨k.1.trans h.1, k.2.trans h.2⟩
theorem KpC.put {Bs Bn N : Nat} (h1 : Bs < N) (h2 : Bn < N) (W : World) (l : Nat) (o o' : Obj) (hl : N ≤ l) (_ : W.heap[l]? = some o) (_ : o.isCells = false) (_ : o.isWalk = false) : KpC Bs Bn W (W.putObj l o') :=
  ⟨cell_of_heap (World.putObj_heap_other (by show Bs ≠ l; omega)), cell_of_heap (World.putObj_heap_other (by show Bn ≠ l; omega))⟩
theorem grown_below {W W' : World} (hb : Below W.heap.size W W') : W.grownBy W' none := ⟨hb.os, hb.tape, hb.output, hb.size, fun k hk _ => hb.block k hk⟩
theorem chunk_stops (f : Nat) (hf : 1 ≤ f) (Bs Bn L c : Nat) (A : Option Addr) (hc : L ≤ c) (hc2 : L ≤ 4611686018427387904) (ad : Addr) (hA : 0 < L → A = some ad) (w : World) (hBs : w.cell? ⟨Bs, 0, none⟩ = some (.slice A L c)) (hBn : w.cell? ⟨Bn, 0, none⟩ = some (.int .i64 16)) (h1 : Bs < w.heap.size) (h2 : Bn < w.heap.size) :
    SeqStopsK Fence.wide f Tryz.prog 66 #[.pointer (some ⟨Bs, 0, none⟩), .pointer (some ⟨Bn, 0, none⟩)] (fun x : { j : Nat // j < nch L } => #[chV ad L x.1]) (KpC Bs Bn) (fun ys => ys.map (·.1) = List.range (nch L)) (fun pre => ∃ k, k ≤ nch L ∧ pre.map (·.1) = List.range k) (nch L) w := fun l J Jx W hW hJ _ hY h0 =>
  chunk1_in f hf l Bs Bn L c A hc hc2 J Jx (KpC Bs Bn) (fun _ _ h => h) ad hA (fun pre W n h => hJ pre W _ none h (grown_below (pw_below_drewN (Below.refl _ _) n)) (fun r e => by cases e)) hY W
    ((hW.cell (p := ⟨Bs, 0, none⟩) h1).trans hBs) ((hW.cell (p := ⟨Bn, 0, none⟩) h2).trans hBn) h0
theorem chunk_any (A : Option Addr) (n c : Nat) (w : World) : Calls Tryz.prog 41 #[.slice A n c, .int .i64 16] w fun e w' => e = .returned (.func (.func 66) #[] #[.pointer (some ⟨w.heap.size, 0, none⟩), .pointer (some ⟨w.heap.size + 1, 0, none⟩)]) ∧ w' = (w.alloc (.cells #[.slice A n c] 52)).alloc (.cells #[.int .i64 16] 3) := by
  have hmf : ∀ (fn : Fn) (first cap : Array Value) (w : World), (Instr.makeFunc fn first cap).run Tryz.prog w = .ok (.func fn first cap) w := fun _ _ _ _ => rfl
  go_enter Tryz.func41, Tryz.ntmps41
  go_wp2
  go_ret
  exact ⟨rfl, rfl⟩

attribute [local go_sem] Oper.semAt_some
/-! A span is written. -/
def cl (b : List Int) {n : Nat} (pre : List { j : Nat // j < n }) : List (List Int) := pre.map fun x => DS.pad (ch b x.1)
set_option maxHeartbeats 4000000 in
set_option maxRecDepth 100000 in
theorem put_room {w0 W : World} {xs : List Nat} {g : Nat} {d : DS} (h : St w0 xs W g d) (i room tag : Int) (A : Option Addr) (c : Nat) (b : List Int) (hb : b.length < 1099511627776) (hroom : room < (DS.need b.length : Int)) :
    Calls Tryz.prog 25 #[.pointer (some ⟨g, 0, none⟩), .int .i64 i, .int .i64 room, .int .u32 tag, .slice A b.length c] W fun e w' => e = .returned (.int .i64 4) ∧ Below W.heap.size W w' := by
  have hd : decide ((DS.need b.length : Int) > room) = true := decide_eq_true hroom
  have hd2 : decide (room < (DS.need b.length : Int)) = true := decide_eq_true hroom
  have HB := Aside0.mk hb
  have H0 : Aside0 (Below W.heap.size W ((W.alloc (.cells #[.pointer (some ⟨g, 0, none⟩)] 27)).alloc (.cells #[.int .i64 0] 37))) := ⟨below_alloc (below_alloc (Below.refl _ _) _) _⟩
  generalize hnd : (DS.need b.length : Int) = nd at *
  have ND := Aside0.mk hnd
  clear hroom hb h hnd
  go_enter Tryz.func25, Tryz.ntmps25
  go_wp2_with (go_at_call 23; refine (need_c b.length HB.out _).mono ?_; rw [ND.out]; rintro e w1 ⟨rfl, hB⟩; have B1 := Aside0.mk hB; have hx10 : w1.cell? ⟨W.heap.size + 1, 0, none⟩ = some (.int .i64 0) := (hB.cell (p := ⟨W.heap.size + 1, 0, none⟩) (by simp)).trans (by have := blk_cell (blk_new (W.alloc (.cells #[.pointer (some ⟨g, 0, none⟩)] 27)) (.cells #[.int .i64 0] 37)) 0; rw [World.size_alloc] at this; exact this.trans rfl); have hf10 : w1.frozen? ⟨W.heap.size + 1, 0, none⟩ = false := (hB.frozen (p := ⟨W.heap.size + 1, 0, none⟩) (by simp)).trans (by have := blk_frozen (blk_new (W.alloc (.cells #[.pointer (some ⟨g, 0, none⟩)] 27)) (.cells #[.int .i64 0] 37)) 0; rw [World.size_alloc] at this; exact this); clear hB)
  refine bodyPost_ret (v := .int .i64 4) (by simp [results, Tryz.results25, go_sem, hx10]) rfl ⟨rfl, ?_⟩
  exact below_set (H0.out.trans (B1.out.mono (by simp <;> omega))) (by show W.heap.size ≤ W.heap.size + 1; omega)
/-- What stands while a span's sectors are written: the boxes, the disk, what else lay there. -/
structure PInv (w0 : World) (xs : List Nat) (W W0 W' : World) (B11 g : Nat) (d : DS) (i : Int) (cs : List (List Int)) : Prop where
  b5 : Boxed W' W.heap.size 27 (.pointer (some ⟨g, 0, none⟩))
  b10 : Boxed W' (W.heap.size + 1) 37 (.int .i64 0)
  b11 : Boxed W' B11 3 (.int .i64 (i + (cs.length : Int)))
  st : St w0 ((B11 + 2) :: (B11 + 1) :: B11 :: (W.heap.size + 1) :: W.heap.size :: xs) W' g (DS.putC d (i + 1) cs).1
  ok : (DS.putC d (i + 1) cs).2 = 0
  sm : Sm xs W0 W'
  sz : W0.heap.size ≤ W'.heap.size
/-- A span's writing ended in its midst. -/
structure PEnd (w0 : World) (xs : List Nat) (W W0 W' : World) (g : Nat) (d : DS) (i : Int) (cs : List (List Int)) : Prop where
  b10 : Boxed W' (W.heap.size + 1) 37 (.int .i64 (DS.putC d (i + 1) cs).2)
  st : St w0 xs W' g (DS.putC d (i + 1) cs).1
  bad : (DS.putC d (i + 1) cs).2 ≠ 0
  sm : Sm xs W0 W'
  sz : W0.heap.size ≤ W'.heap.size
theorem grown_noncells {W W' : World} {row : Option Nat} {k : Nat} {cells : Array Value} {q : TypeId} {fr : Nat × Nat} (hg : W.grownBy W' row) (hr : ∀ r, row = some r → ∃ o : Obj, W.heap[r]? = some o ∧ o.isCells = false) (h : W.heap[k]? = some (.cells cells q fr)) : W'.heap[k]? = some (.cells cells q fr) :=
  (hg.block k (Array.getElem?_eq_some_iff.1 h).1 (fun e => by obtain ⟨o, ho, hc⟩ := hr k e.symm; rw [h] at ho; injection ho with ho; subst ho; cases hc)).trans h
theorem PInv.own {w0 : World} {xs : List Nat} {W W0 : World} {B11 g : Nat} {d : DS} {i : Int} {β : Type} (f : β → List (List Int)) (hw : w0.heap.size ≤ W0.heap.size) (hx : ∀ x, x ∈ xs → x < W0.heap.size) : OwnFrom W0.heap.size (fun s W' => PInv w0 xs W W0 W' B11 g d i (f s)) :=
  fun s X Y row h hg hr => ⟨grown_noncells hg (fun r e => (hr r e).2) h.b5, grown_noncells hg (fun r e => (hr r e).2) h.b10, grown_noncells hg (fun r e => (hr r e).2) h.b11, h.st.own hg (fun r e => ⟨by have := (hr r e).1; omega, (hr r e).2⟩), h.ok,
    fun x e => (hg.block x (Nat.lt_of_lt_of_le (hx x e) h.sz) (fun e2 => by have := (hr x e2.symm).1; have := hx x e; omega)).trans (h.sm x e), Nat.le_trans h.sz hg.size⟩
theorem PEnd.own {w0 : World} {xs : List Nat} {W W0 : World} {g : Nat} {d : DS} {i : Int} {β : Type} (f : β → List (List Int)) (hw : w0.heap.size ≤ W0.heap.size) (hx : ∀ x, x ∈ xs → x < W0.heap.size) : OwnFrom W0.heap.size (fun s W' => PEnd w0 xs W W0 W' g d i (f s)) :=
  fun s X Y row h hg hr => ⟨grown_noncells hg (fun r e => (hr r e).2) h.b10, h.st.own hg (fun r e => ⟨by have := (hr r e).1; omega, (hr r e).2⟩), h.bad,
    fun x e => (hg.block x (Nat.lt_of_lt_of_le (hx x e) h.sz) (fun e2 => by have := (hr x e2.symm).1; have := hx x e; omega)).trans (h.sm x e), Nat.le_trans h.sz hg.size⟩
theorem Rd.step' {w0 W W' : World} {xs : List Nat} {A : Option Addr} {b : List Int} (h : Rd w0 xs W A b) (h1 : Below w0.heap.size w0 W) (h2 : Below w0.heap.size w0 W') (hs : ∀ x, x ∈ xs → x < W'.heap.size) (hm : Sm xs W W') : Rd w0 xs W' A b :=
  ⟨C_blk h.1 (fun ad e hp => (h.2 ad e hp).1.elim (fun hl => (h2.block _ hl).trans (h1.block _ hl).symm) (fun hx => hm _ hx)), fun ad e hp => ⟨(h.2 ad e hp).1, (h.2 ad e hp).1.elim (fun hl => Nat.lt_of_lt_of_le hl h2.size) (hs _)⟩⟩
theorem St.mores {w0 W W' : World} {xs : List Nat} {g : Nat} {d : DS} (h : St w0 xs W g d) (hb : Below W.heap.size W W') (ys : List Nat) (hy : ∀ y, y ∈ ys → W.heap.size ≤ y ∧ y < W'.heap.size) : St w0 (ys ++ xs) W' g d :=
  ⟨(h.1.bound.mono (ok' := fun k => w0.heap.size ≤ k ∧ k ∉ ys ++ xs) (fun k hk => ⟨hk.1.1, fun e => (List.mem_append.1 e).elim (fun e => by have := (hy k e).1; have := hk.2.2.1; omega) hk.1.2⟩)).below hb, h.2.1.trans (hb.mono h.2.1.size),
    fun y e => (List.mem_append.1 e).elim (fun e => (hy y e).2) (fun e => Nat.lt_of_lt_of_le (h.2.2 y e) hb.size)⟩
theorem St.put {w0 W : World} {xs : List Nat} {g : Nat} {d : DS} (h : St w0 xs W g d) {B : Nat} (hB : B ∈ xs) (h0 : w0.heap.size ≤ B) (j : Nat) (v : Value) : St w0 xs (W.setCell ⟨B, j, none⟩ v) g d :=
  ⟨h.1.step (fun k hk _ => Below.heap_setCell _ _ _ _ (fun e => hk.2 (e ▸ hB))), below_set h.2.1 h0, fun y e => by have := h.2.2 y e; simpa using this⟩
theorem St.puts {w0 W : World} {xs : List Nat} {g : Nat} {d : DS} (h : St w0 xs W g d) {B : Nat} (hB : B ∈ xs) (h0 : w0.heap.size ≤ B) (o : Nat) (vs : List Value) : St w0 xs (W.setCells B o vs) g d :=
  ⟨h.1.step (fun k hk _ => setCells_far _ _ k (fun e => hk.2 (e ▸ hB))), Kd.below_setCells h.2.1 h0, fun y e => by have := h.2.2 y e; rwa [(setCells_same _ _ _ _).2.2.2]⟩
theorem St.other {w0 W : World} {xs : List Nat} {g : Nat} {d : DS} (h : St w0 xs W g d) {D : Nat} {o : Obj} (hD : W.heap[D]? = some o) (ho : o.isCells = false) : St w0 (D :: xs) W g d :=
  ⟨h.1.bound.mono (fun k hk => ⟨hk.1.1, fun e => (List.mem_cons.1 e).elim (fun e => by
    obtain ⟨_, _, cells, q, fr, hc⟩ := hk.2
    rw [e, hD] at hc
    injection hc with hc
    subst hc
    cases ho) hk.1.2⟩), h.2.1, fun y hy => (List.mem_cons.1 hy).elim (fun e => by rw [e]; exact (Array.getElem?_eq_some_iff.1 hD).1) (h.2.2 y)⟩
theorem keeps_setCells (B : Nat) : ∀ (vs : List Value) (o : Nat) (W : World), KeepsOthers W (W.setCells B o vs)
  | [], _, W => KeepsOthers.refl W
  | v :: vs, o, W => (KeepsOthers.setCell W ⟨B, o, none⟩ v).trans (keeps_setCells B vs (o + 1) _)
theorem wh_pad {l : List Int} (h : l.length ≤ 16) : wh l = DS.pad l := by unfold wh DS.pad; rw [List.take_of_length_le h]
theorem cl_range (b : List Int) {n : Nat} (pre : List { j : Nat // j < n }) : cl b pre = (pre.map (·.1)).map fun t => DS.pad (ch b t) := by rw [cl, List.map_map]; rfl
theorem cl_some (b : List Int) (pre : List { j : Nat // j < nch b.length }) (k : Nat) (hk : k ≤ nch b.length) (h : pre.map (·.1) = List.range k) : DS.chunks b = cl b pre ++ (DS.chunks b).drop k := by
  have e : cl b pre = (DS.chunks b).take k := by
    rw [cl_range, h, ch_chunks, ← List.map_take, List.take_range, Nat.min_eq_left (show k ≤ (b.length + 15) / 16 from hk)]
  rw [e, List.take_append_drop]
theorem cl_all (b : List Int) (ys : List { j : Nat // j < nch b.length }) (h : ys.map (·.1) = List.range (nch b.length)) : cl b ys = DS.chunks b := by
  rw [cl_range, h, ch_chunks]
  rfl
theorem put_stop {crc : List Int → Int} {d : DS} {i room tag : Int} {b : List Int} {cs ds : List (List Int)} (hr : ¬ room < (DS.need b.length : Int)) (he : DS.chunks b = cs ++ ds) (hb : (DS.putC d (i + 1) cs).2 ≠ 0) : DS.put crc d i room tag b = DS.putC d (i + 1) cs := by
  unfold DS.put
  rw [if_neg (by omega), he, DS.putC_fail cs ds d (i + 1) hb, if_neg hb]
def PutPost (w0 : World) (xs : List Nat) (W : World) (g : Nat) (r : DS × Int) (e : Ending) (w' : World) : Prop := e = .returned (.int .i64 r.2) ∧ St w0 xs w' g r.1 ∧ Sm xs W w' ∧ W.heap.size ≤ w'.heap.size
set_option maxHeartbeats 4000000 in
set_option maxRecDepth 100000 in
theorem put_fits {w0 W : World} {xs : List Nat} {g : Nat} {d : DS} (h : St w0 xs W g d) (i room tag : Int) (A : Option Addr) (c : Nat) (b : List Int) (hr : Rd w0 xs W A b) (hc : b.length ≤ c) (hb : b.length < 268435456) (hP : d.P.length < 1073741824) (hi0 : -1073741824 ≤ i) (hi1 : i ≤ 1073741824) (hroom : ¬ room < (DS.need b.length : Int)) :
    Calls Tryz.prog 25 #[.pointer (some ⟨g, 0, none⟩), .int .i64 i, .int .i64 room, .int .u32 tag, .slice A b.length c] W (PutPost w0 xs W g (DS.put crcO d i room tag b)) := by
  have hd : decide ((DS.need b.length : Int) > room) = false := decide_eq_false hroom
  have hd2 : decide (room < (DS.need b.length : Int)) = false := decide_eq_false hroom
  have HB := Aside0.mk hb
  have H := Aside0.mk h
  have HR := Aside0.mk hr
  have HC := Aside0.mk hc
  have HP := Aside0.mk hP
  have HI0 := Aside0.mk hi0
  have HI1 := Aside0.mk hi1
  have HRM := Aside0.mk hroom
  have H0 : Aside0 (Below W.heap.size W ((W.alloc (.cells #[.pointer (some ⟨g, 0, none⟩)] 27)).alloc (.cells #[.int .i64 0] 37))) := ⟨below_alloc (below_alloc (Below.refl _ _) _) _⟩
  generalize hnd : (DS.need b.length : Int) = nd at hd hd2
  have ND := Aside0.mk hnd
  clear hroom hb h hnd hr hc hP hi0 hi1
  refine (callsIn_wide (n := 6)).1 (callsIn_of_wp_marks Tryz.func25 rfl trivial ?_ rfl)
  simp only [Tryz.ntmps25, List.size_toArray, List.length_cons, List.length_nil, Nat.reduceAdd, Nat.reduceSub, Array.replicate_succ, Array.replicate_zero, List.push_toArray, List.append_toArray, List.nil_append, List.cons_append]
  refine wpIn_wide.2 ?_
  go_wp2_with (first
    | (go_at_call 41; refine (chunk_any _ _ _ _).mono ?_; rintro e w' ⟨rfl, rfl⟩)
    | (go_at_call 23; refine (need_c b.length (by have := HB.out; omega) _).mono ?_; rw [ND.out]; rintro e w1 ⟨rfl, hB⟩; have B1 := Aside0.mk hB; clear hB))
  have HXS : Aside0 (∀ x, x ∈ xs → x < W.heap.size) := ⟨H.out.2.2⟩
  have HW1 : Aside0 (Below W.heap.size W w1) := ⟨H0.out.trans (B1.out.mono (by simp <;> omega))⟩
  have hs1 : W.heap.size + 1 < w1.heap.size := by have := B1.out.size; simp at this; omega
  obtain ⟨W0, hW0⟩ : ∃ W0, W0 = ((w1.alloc (.cells #[.int .i64 i] 3)).alloc (.cells #[.slice A b.length c] 52)).alloc (.cells #[.int .i64 16] 3) := ⟨_, rfl⟩
  have hsz : W0.heap.size = w1.heap.size + 3 := by rw [hW0]; simp
  have hB1 : Below w1.heap.size w1 W0 := by rw [hW0]; exact below_alloc (below_alloc (below_alloc (Below.refl _ _) _) _) _
  have c5 : Boxed W0 W.heap.size 27 (.pointer (some ⟨g, 0, none⟩)) := blk_below (blk_below (blk_alloc (blk_new W _) _) B1.out) hB1
  have c10 : Boxed W0 (W.heap.size + 1) 37 (.int .i64 0) := blk_below (blk_below (by have := blk_new (W.alloc (.cells #[.pointer (some ⟨g, 0, none⟩)] 27)) (.cells #[.int .i64 0] 37); rwa [World.size_alloc] at this) B1.out) hB1
  have c11 : Boxed W0 w1.heap.size 3 (.int .i64 i) := by rw [hW0]; exact blk_alloc (blk_alloc (blk_new w1 _) _) _
  have cS : W0.cell? ⟨w1.heap.size + 1, 0, none⟩ = some (.slice A b.length c) := by
    rw [hW0]
    have := blk_new (w1.alloc (.cells #[.int .i64 i] 3)) (.cells #[.slice A b.length c] 52)
    rw [World.size_alloc] at this
    exact (blk_cell (blk_alloc this _) 0).trans rfl
  have cN : W0.cell? ⟨w1.heap.size + 2, 0, none⟩ = some (.int .i64 16) := by
    rw [hW0]
    have := blk_new ((w1.alloc (.cells #[.int .i64 i] 3)).alloc (.cells #[.slice A b.length c] 52)) (.cells #[.int .i64 16] 3)
    rw [World.size_alloc, World.size_alloc] at this
    exact (blk_cell this 0).trans rfl
  have hBW : Below W.heap.size W W0 := HW1.out.trans (hB1.mono (by omega))
  have hSt : St w0 ((w1.heap.size + 2) :: (w1.heap.size + 1) :: w1.heap.size :: (W.heap.size + 1) :: W.heap.size :: xs) W0 g d :=
    H.out.mores hBW [w1.heap.size + 2, w1.heap.size + 1, w1.heap.size, W.heap.size + 1, W.heap.size] (fun y hy => by
      simp only [List.mem_cons, List.not_mem_nil, or_false] at hy
      omega)
  have HRD : Aside0 (Rd w0 xs W0 A b) := ⟨HR.out.below hBW⟩
  rw [← hW0]
  clear hW0
  have hw0 : w0.heap.size ≤ W.heap.size := H.out.2.1.size
  obtain ⟨ad, hA⟩ : ∃ ad, 0 < b.length → A = some ad := by
    by_cases h0 : 0 < b.length
    · obtain ⟨ad, e, _⟩ := HR.out.1.2.2 h0
      exact ⟨ad, fun _ => e⟩
    · exact ⟨⟨0, 0, none⟩, fun h => absurd h h0⟩
  refine (wpIn_wide (n := 6)).1 ?_
  refine wpIn_rangeFunc_ownH rfl (by omega) (gf := 66) (lb := #[.pointer (some ⟨w1.heap.size + 1, 0, none⟩), .pointer (some ⟨w1.heap.size + 1 + 1, 0, none⟩)]) rfl trivial (enters_of Tryz.func66 (by kernel_rfl) rfl)
    (chunk_stops 5 (by omega) (w1.heap.size + 1) (w1.heap.size + 2) b.length c A HC.out (by have := HB.out; omega) ad hA W0 cS cN (by omega) (by omega)) KpC.trans (fun W l o o' h1 h2 h3 h4 => KpC.put (by omega) (by omega) W l o o' h1 h2 h3 h4) (Below.refl _ _) (fun _ => rfl)
    (fun pre W' => PInv w0 xs W W0 W' w1.heap.size g d i (cl b pre))
    (fun cx pre W' => cx = .ret ∧ PEnd w0 xs W W0 W' g d i (cl b pre))
    (PInv.own (cl b) (by omega) (fun x hx => by have := HXS.out x hx; omega))
    (fun cx => OwnFrom.and (fun _ _ _ _ hs _ _ => hs) (PEnd.own (cl b) (by omega) (fun x hx => by have := HXS.out x hx; omega)))
    ⟨c5, c10, by simpa [cl] using c11, hSt, rfl, fun _ _ => rfl, Nat.le_refl _⟩
    (fun x a' W' => a' = { tmps := #[.pointer (some ⟨g, 0, none⟩), .int .i64 i, .int .i64 room, .int .u32 tag, .slice A b.length c, .pointer (some ⟨W.heap.size, 0, none⟩), undef, undef, undef, undef, .pointer (some ⟨W.heap.size + 1, 0, none⟩), .pointer (some ⟨w1.heap.size, 0, none⟩), chV ad b.length x.1, undef, undef, undef, .slice A b.length c, .int .i64 (b.length : Int), .int .i64 nd, .int .i64 room, .bool false, .int .i64 i, .slice A b.length c, .func (.func 66) #[] #[.pointer (some ⟨w1.heap.size + 1, 0, none⟩), .pointer (some ⟨w1.heap.size + 1 + 1, 0, none⟩)], chV ad b.length x.1, undef, undef, undef, undef, undef, undef, undef, undef, undef, undef, undef, undef, undef, undef, undef, undef, undef, undef, undef, undef, undef, undef, undef, undef], defers := [] })
    (fun x a' _ X Y row hs hg hr => hs)
    ?assign ?body ?done ?stop
  case assign =>
    rintro l pre x W' K hI hK
    unfold chV
    gi_wp2
    exact hK _ _ (KeepsFrom.refl _ _) ⟨rfl, rfl⟩ hI rfl
  case body =>
    rintro l pre x a' W' hl ⟨r, hr⟩ hI rfl hlt
    have hlb : 16 * x.1 < b.length := by have := x.2; unfold nch at this; omega
    obtain rfl := hA (by omega)
    obtain ⟨p, hp⟩ : ∃ p, (cl b pre).length = p := ⟨_, rfl⟩
    have hpn : p < 268435456 := by
      have e1 : (cl b pre).length = pre.length := by simp [cl]
      have := HB.out
      have e2 : nch b.length = (b.length + 15) / 16 := rfl
      omega
    obtain ⟨dd, hdd⟩ : ∃ dd, (DS.putC d (i + 1) (cl b pre)).1 = dd := ⟨_, rfl⟩
    have hPl : dd.P.length < 1099511627776 := by
      have := DS.putC_Plen (cl b pre) d (i + 1)
      have := HP.out
      rw [hdd] at *
      omega
    obtain ⟨m, hm⟩ : ∃ m, (ch b x.1).length = m := ⟨_, rfl⟩
    obtain ⟨adx, hadx⟩ : ∃ a, ad.add (16 * x.1) = a := ⟨_, rfl⟩
    have hchv : chV ad b.length x.1 = .slice (some adx) m m := by unfold chV; rw [← ch_len, hm, hadx]
    have hm16 : m ≤ 16 := by rw [← hm, ch_len]; omega
    have hst := hI.st
    rw [hdd] at hst
    have hRW : Rd w0 xs W' (some ad) b := HRD.out.step hSt.2.1 hst.2.1 hI.sz hI.sm
    have hCx := ch_C hRW.1 x.1 hlb
    rw [hadx] at hCx
    have hb11 := hI.b11
    rw [hp] at hb11
    have cI := hb11.cell
    have fI := hb11.frozen
    have hmk := make16
    have hbd0 : (0 : Int) ≤ (p : Int) := by omega
    have hbd1 := HI0.out
    have hbd2 := HI1.out
    have hbd3 : -9223372036854775808 ≤ i + (p : Int) + 1 := by omega
    have hbd4 : i + (p : Int) + 1 ≤ 9223372036854775807 := by omega
    rw [hchv]
    have HCX := Aside0.mk hCx
    have HPL := Aside0.mk hPl
    have HDD := Aside0.mk hdd
    have HPP := Aside0.mk hp
    have HMM := Aside0.mk hm
    have HII := Aside0.mk hI
    have HST := Aside0.mk hst
    have HLW := Aside0.mk hl
    have HS1 := Aside0.mk hs1
    have HSZ := Aside0.mk hsz
    have HW0 := Aside0.mk hw0
    have HM16 := Aside0.mk hm16
    have hB11 : w1.heap.size ∈ (w1.heap.size + 2) :: (w1.heap.size + 1) :: w1.heap.size :: (W.heap.size + 1) :: W.heap.size :: xs := by simp
    have hszW : W0.heap.size ≤ W'.heap.size := hI.sz
    have t1 := hst.put hB11 (by omega) 0 (.int .i64 (i + (p : Int) + 1))
    have hsz1 : (W'.setCell ⟨w1.heap.size, 0, none⟩ (.int .i64 (i + (p : Int) + 1))).heap.size = W'.heap.size := by simp
    have t2 := t1.more (below_alloc (Below.refl _ _) (.cells z16 5)) W'.heap.size (by omega) (by simp)
    have hnew : ((W'.setCell ⟨w1.heap.size, 0, none⟩ (.int .i64 (i + (p : Int) + 1))).alloc (.cells z16 5)).heap[W'.heap.size]? = some (.cells z16 5 (0, 0)) := by
      have := blk_new (W'.setCell ⟨w1.heap.size, 0, none⟩ (.int .i64 (i + (p : Int) + 1))) (.cells z16 5)
      rwa [hsz1] at this
    have hold : ∀ k, k < W'.heap.size → k ≠ w1.heap.size → ((W'.setCell ⟨w1.heap.size, 0, none⟩ (.int .i64 (i + (p : Int) + 1))).alloc (.cells z16 5)).heap[k]? = W'.heap[k]? := fun k h1 h2 => (Below.heap_alloc _ _ k (by rw [hsz1]; exact h1)).trans (Below.heap_setCell _ _ _ _ h2)
    obtain ⟨h1, h2⟩ := wh_copied ((W'.setCell ⟨w1.heap.size, 0, none⟩ (.int .i64 (i + (p : Int) + 1))).alloc (.cells z16 5)) W'.heap.size hnew (some adx) m (ch b x.1) 3 (C_blk hCx (fun a e hp0 => by
      injection e with e
      subst e
      rw [← hadx, add_block]
      obtain ⟨q1, q2⟩ := hRW.2 ad rfl (by omega)
      exact hold _ q2 (fun e3 => q1.elim (fun q => by omega) (fun q => by have := HXS.out _ q; omega))))
    rw [hm] at h1
    rw [wh_pad (by rw [hm]; exact hm16)] at h2
    have t3 := t2.puts (B := W'.heap.size) (by simp) (by omega) 0 (((ch b x.1).map (Value.int .u8)).take 16)
    have hk3 := ((KeepsOthers.setCell W' ⟨w1.heap.size, 0, none⟩ (.int .i64 (i + (p : Int) + 1))).trans (KeepsOthers.alloc _ (.cells z16 5))).trans (keeps_setCells W'.heap.size (((ch b x.1).map (Value.int .u8)).take 16) 0 _)
    have hold2 : ∀ k, k < W'.heap.size → k ≠ w1.heap.size → (((W'.setCell ⟨w1.heap.size, 0, none⟩ (.int .i64 (i + (p : Int) + 1))).alloc (.cells z16 5)).setCells W'.heap.size 0 (((ch b x.1).map (Value.int .u8)).take 16)).heap[k]? = W'.heap[k]? := fun k q1 q2 => (setCells_far _ _ k (by omega)).trans (hold k q1 q2)
    have hb11' : Boxed (((W'.setCell ⟨w1.heap.size, 0, none⟩ (.int .i64 (i + (p : Int) + 1))).alloc (.cells z16 5)).setCells W'.heap.size 0 (((ch b x.1).map (Value.int .u8)).take 16)) w1.heap.size 3 (.int .i64 (i + (p : Int) + 1)) :=
      (setCells_far _ _ _ (by omega)).trans ((Below.heap_alloc _ _ _ (by rw [hsz1]; omega)).trans (Boxed.set _ hb11))
    obtain ⟨W2, hW2⟩ : ∃ W2, W2 = (((W'.setCell ⟨w1.heap.size, 0, none⟩ (.int .i64 (i + (p : Int) + 1))).alloc (.cells z16 5)).setCells W'.heap.size 0 (((ch b x.1).map (Value.int .u8)).take 16)) := ⟨_, rfl⟩
    rw [← hW2] at h1 h2 t3 hk3 hold2 hb11'
    have c5' : Boxed W2 W.heap.size 27 (.pointer (some ⟨g, 0, none⟩)) := (hold2 _ (by omega) (by omega)).trans hI.b5
    have c10' : Boxed W2 (W.heap.size + 1) 37 (.int .i64 0) := (hold2 _ (by omega) (by omega)).trans hI.b10
    have hkp : KpC (w1.heap.size + 1) (w1.heap.size + 2) W' W2 := ⟨cell_of_heap (hold2 _ (by show w1.heap.size + 1 < _; omega) (by show w1.heap.size + 1 ≠ _; omega)), cell_of_heap (hold2 _ (by show w1.heap.size + 2 < _; omega) (by show w1.heap.size + 2 ≠ _; omega))⟩
    have hsm2 : Sm xs W0 W2 := fun y hy => (hold2 y (by have := HXS.out y hy; omega) (by have := HXS.out y hy; omega)).trans (hI.sm y hy)
    have l5 := c5'.cell
    have l11 := hb11'.cell
    have HC5 := Aside0.mk c5'
    have HC10 := Aside0.mk c10'
    have HC11 := Aside0.mk hb11'
    have HKP := Aside0.mk hkp
    have HSM2 := Aside0.mk hsm2
    have HT3 := Aside0.mk t3
    have HK3 := Aside0.mk hk3
    have HSEC := Aside0.mk h2
    have HPD : Aside0 ((DS.pad (ch b x.1)).length = 16) := ⟨DS.pad_len (by rw [hm]; exact hm16)⟩
    have HSZW := Aside0.mk hszW
    clear hCx hPl hdd hp hm hI hst hRW hb11 hadx hchv hlb hlt hr hl cS cN c5 c10 c11 hB1 hBW hSt hs1 hsz hw0 hm16 hA hpn hB11 hszW t1 hsz1 t2 hnew hold h2 t3 hk3 hold2 hb11' c5' c10' hkp hsm2 hW2
    gi_upto_region 9 with (fail)
    clear h1 cI fI hmk
    obtain ⟨pd, hpd⟩ : ∃ pd, DS.pad (ch b x.1) = pd := ⟨_, rfl⟩
    have eP : DS.putC d (i + 1) (cl b (pre ++ [x])) = dd.wr (i + (p : Int) + 1) pd := by
      have eC : cl b (pre ++ [x]) = cl b pre ++ [pd] := by simp [cl, hpd]
      rw [eC, DS.putC_snoc _ _ _ _ HII.out.ok, HDD.out, HPP.out, show i + 1 + (p : Int) = i + (p : Int) + 1 by omega]
    have eL : (cl b (pre ++ [x])).length = p + 1 := by rw [← HPP.out]; simp [cl]
    have HEP := Aside0.mk eP
    have HEL := Aside0.mk eL
    have hwr := st_writeK HT3.out (i + (p : Int) + 1) W'.heap.size pd (by simp) (hpd ▸ HSEC.out) (hpd ▸ HPD.out) HPL.out
    have HWR := Aside0.mk hwr
    clear eP eL hpd hwr
    by_cases h0 : (dd.wr (i + (p : Int) + 1) pd).2 = 0
    · have H00 := Aside0.mk h0
      clear h0
      gi_wp2_with (refine ⟨trivial, ?_⟩; gi_at_call 42; refine (CallsIn.inRound l (callsIn_wide.2 HWR.out)).mono ?_; rw [H00.out]; rintro e w3 ⟨rfl, hS, hM, hKO⟩; have S3 := Aside0.mk hS; have M3 := Aside0.mk hM; have K3 := Aside0.mk hKO; clear hS hM hKO)
      have hK := HK3.out.trans K3.out
      exact ⟨hK.from _, HKP.out.trans ⟨cell_of_heap (M3.out _ (by simp)), cell_of_heap (M3.out _ (by simp))⟩, ⟨(M3.out _ (by simp)).trans HC5.out, (M3.out _ (by simp)).trans HC10.out, by rw [HEL.out]; exact (M3.out _ (by simp)).trans (by rw [show i + ((p + 1 : Nat) : Int) = i + (p : Int) + 1 by omega]; exact HC11.out), by rw [HEP.out]; exact S3.out.less (fun y hy => List.mem_cons_of_mem _ hy), by rw [HEP.out]; exact H00.out, fun y hy => (M3.out y (by simp [hy])).trans (HSM2.out y hy), Nat.le_trans HSZW.out hK.size⟩⟩
    · have H00 := Aside0.mk h0
      have hb : ((dd.wr (i + (p : Int) + 1) pd).2 != 0) = true := by simpa using h0
      have hb2 : ((dd.wr (i + (p : Int) + 1) pd).2 == 0) = false := by simpa using h0
      generalize hE : (dd.wr (i + (p : Int) + 1) pd).2 = E at *
      have HE := Aside0.mk hE
      clear h0 hE
      gi_wp2_with (refine ⟨trivial, ?_⟩; gi_at_call 42; refine (CallsIn.inRound l (callsIn_wide.2 HWR.out)).mono ?_; rintro e w3 ⟨rfl, hS, hM, hKO⟩; have S3 := Aside0.mk hS; have M3 := Aside0.mk hM; have K3 := Aside0.mk hKO; have hc10 := (show Boxed w3 (W.heap.size + 1) 37 (.int .i64 0) from (hM _ (by simp)).trans HC10.out); have l10 := hc10.cell; have f10 := hc10.frozen; have HC10w := Aside0.mk hc10; clear hS hM hKO hc10)
      have hK := (HK3.out.trans K3.out).trans (KeepsOthers.setCell w3 ⟨W.heap.size + 1, 0, none⟩ (.int .i64 E))
      exact ⟨hK.from _, rfl, ⟨by rw [HEP.out, HE.out]; exact Boxed.set _ HC10w.out, by rw [HEP.out]; exact (S3.out.put (B := W.heap.size + 1) (by simp) (by have := HW0.out; omega) 0 _).less (fun y hy => by simp [hy]), by rw [HEP.out, HE.out]; exact H00.out, fun y hy => (Below.heap_setCell _ _ _ _ (by have := HXS.out y hy; show y ≠ W.heap.size + 1; omega)).trans ((M3.out y (by simp [hy])).trans (HSM2.out y hy)), Nat.le_trans HSZW.out hK.size⟩⟩
  case done =>
    rintro D ys W' hD hys hI hK
    rw [cl_all b ys hys] at hI
    obtain ⟨dd, hdd⟩ : ∃ dd, (DS.putC d (i + 1) (DS.chunks b)).1 = dd := ⟨_, rfl⟩
    have hst := hI.st
    rw [hdd] at hst
    have hput : DS.put crcO d i room tag b = if dd.fl.2 = 0 then DS.puth dd.fl.1 i (DS.head crcO tag b) else dd.fl := by
      unfold DS.put
      rw [if_neg (by have := HRM.out; omega), if_pos hI.ok, hdd]
    have hPl : dd.P.length < 1099511627776 := by
      have := DS.putC_Plen (DS.chunks b) d (i + 1)
      have := HP.out
      have := HB.out
      rw [hdd, DS.chunks_len] at *
      omega
    have hRW : Rd w0 ((w1.heap.size + 2) :: (w1.heap.size + 1) :: w1.heap.size :: (W.heap.size + 1) :: W.heap.size :: xs) W' A b := (HRD.out.step hSt.2.1 hst.2.1 hI.sz hI.sm).mono (fun x hx => by simp [hx])
    have l5 := hI.b5.cell
    have HL5 := Aside0.mk hI.b5
    have HL10 := Aside0.mk hI.b10
    have HST := Aside0.mk hst
    have HRW := Aside0.mk hRW
    have HPUT := Aside0.mk hput
    have HPL := Aside0.mk hPl
    have HSM := Aside0.mk hI.sm
    have HSZI := Aside0.mk hI.sz
    have HDK := Aside0.mk hK
    have HDD := Aside0.mk hD
    have HS1 := Aside0.mk hs1
    have HSZ := Aside0.mk hsz
    have HW0 := Aside0.mk hw0
    have HBW := Aside0.mk hBW
    clear hI hst hRW hput hPl hK hys hdd cS cN c5 c10 c11 hB1 hBW hSt hs1 hsz hw0 hA hD
    have HST2 := Aside0.mk (HST.out.other HDK.out rfl)
    by_cases h0 : dd.fl.2 = 0
    · have H00 := Aside0.mk h0
      have HPU : Aside0 (DS.put crcO d i room tag b = DS.puth dd.fl.1 i (DS.head crcO tag b)) := ⟨by rw [HPUT.out, if_pos h0]⟩
      have HFP : Aside0 (dd.fl.1.P.length < 1099511627776) := ⟨by rw [DS.fl_P dd h0]; simp⟩
      clear h0
      go_upto_region 15 with (go_at_call 43; refine (st_flush HST2.out).mono ?_; rw [H00.out]; rintro e w3 ⟨rfl, hS, hM⟩; have S3 := Aside0.mk hS; have M3 := Aside0.mk hM; (have hb5 := (show Boxed w3 W.heap.size 27 (.pointer (some ⟨g, 0, none⟩)) from (hM _ (by simp)).trans HL5.out)); have l5b := hb5.cell; have HB5 := Aside0.mk hb5; clear hS hM hb5)
      have HRW3 := Aside0.mk (HRW.out.step' HST.out.2.1 S3.out.2.1 (fun y hy => S3.out.2.2 y (List.mem_cons_of_mem _ hy)) (fun y hy => M3.out y (List.mem_cons_of_mem _ hy)))
      clear l5
      refine wp_region_noPanic ?_
      go_region_held (fun w' => w'.cell? ⟨W.heap.size, 0, none⟩ = some (.pointer (some ⟨g, 0, none⟩))) (first | exact l5b | exact L5c.out | exact L5d.out | exact (cell_of_heap (p := ⟨W.heap.size, 0, none⟩) (Below.heap_setCell _ _ _ _ (by show W.heap.size ≠ W.heap.size + 1; omega))).trans L5d.out) (first
        | (go_at_call 40; refine (st_put S5.out i q cq (DS.head crcO tag b) (by simp) RA5.out (by rw [DS.head_len]; exact LCQ.out) HFP.out).mono ?_; rintro e w6 ⟨rfl, hS, hM⟩; have S6 := Aside0.mk hS; have M6 := Aside0.mk hM; (have hc10 := (show Boxed w6 (W.heap.size + 1) 37 (.int .i64 0) from (hM _ (by simp)).trans (B5.out.trans ((M3.out _ (by simp)).trans HL10.out)))); have l10 := hc10.cell; have f10 := hc10.frozen; have HC10w := Aside0.mk hc10; (have L5d := Aside0.mk (cell_of_heap (p := ⟨W.heap.size, 0, none⟩) (hM W.heap.size (by simp)) |>.trans L5c.out)); clear hS hM hc10)
        | (go_at_call 44; refine (head_any tag A c b (by have := HB.out; omega) w3.drew (Kd.C_below HRW3.out.1 (below_drew1 (Below.refl _ _))) HC.out).mono ?_; rintro e w5 ⟨v0, rfl, hR, hB⟩; (obtain ⟨q, cq, z, hv0, hlc, hq1, hq2, hq3, hC⟩ := R_block hR (by rw [DS.head_len]; omega)); subst hv0; (have RA5 : Aside0 (RowAt w5 q (DS.head crcO tag b)) := ⟨⟨z, hq3, hC⟩⟩); rw [DS.head_len] at hlc; have LCQ := Aside0.mk hlc; (have hB5 := (below_drew1 (Below.refl w3.heap.size w3)).trans (hB.mono (by simp))); have S5 := Aside0.mk (S3.out.more hB5 q hq1 hq2); (have L5c := Aside0.mk ((hB5.cell (p := ⟨W.heap.size, 0, none⟩) (S3.out.2.2 W.heap.size (by simp))).trans l5b)); (have B5 := Aside0.mk (hB5.block (W.heap.size + 1) (S3.out.2.2 _ (by simp)))); (have B5A := Aside0.mk hB5); clear hR hB hC hq1 hq2 hq3 hlc hB5))
      refine NoPanic.normal ?_
      obtain ⟨E, hE⟩ : ∃ E, (dd.fl.1.puth i (DS.head crcO tag b)).2 = E := ⟨_, rfl⟩
      have HE := Aside0.mk hE
      simp only [hE]
      clear hE
      go_wp2
      have hK2 : (w6.setCell ⟨W.heap.size + 1, 0, none⟩ (.int .i64 E)).heap[D]? = some (.deferred (some [])) := (Below.heap_setCell _ _ _ _ (by have := HSZ.out; have := HS1.out; have := HDD.out; show D ≠ W.heap.size + 1; omega)).trans ((M6.out D (by simp)).trans ((B5A.out.block D (S3.out.2.2 D (by simp))).trans ((M3.out D (by simp)).trans HDK.out)))
      have hgP := grownBy_putObj' (w6.setCell ⟨W.heap.size + 1, 0, none⟩ (.int .i64 E)) D (.deferred none)
      have hrP : ∀ r, some D = some r → ∃ o : Obj, (w6.setCell ⟨W.heap.size + 1, 0, none⟩ (.int .i64 E)).heap[r]? = some o ∧ o.isCells = false := fun r e => by cases e; exact ⟨_, hK2, rfl⟩
      refine ⟨by simp, .inl ⟨_, _, rfl, run_takeDeferred hK2, ?_⟩⟩
      have hbx : Boxed (w6.setCell ⟨W.heap.size + 1, 0, none⟩ (.int .i64 E)) (W.heap.size + 1) 37 (.int .i64 E) := Boxed.set _ HC10w.out
      have hc5 := cell_kept hbx.cell hgP hrP
      refine ⟨.int .i64 E, ?_, ?_, ?_, ?_, ?_⟩
      · simp [results, Tryz.f25, go_sem] at hc5 ⊢
        rw [hc5]
      · rw [HPU.out, HE.out]
      · rw [HPU.out]
        exact ((S6.out.put (B := W.heap.size + 1) (by simp) (by have := HW0.out; omega) 0 _).less (fun y hy => by simp [hy])).own hgP (fun r e => ⟨by cases e; have := HW0.out; have := HDD.out; have := HSZ.out; have := HS1.out; omega, hrP r e⟩)
      · exact fun x hx => (World.putObj_heap_other (by have := HXS.out x hx; have := HDD.out; have := HSZ.out; have := HS1.out; omega)).trans ((Below.heap_setCell _ _ _ _ (by have := HXS.out x hx; show x ≠ W.heap.size + 1; omega)).trans ((M6.out x (by simp [hx])).trans ((B5A.out.block x (S3.out.2.2 x (by simp [hx]))).trans ((M3.out x (by simp [hx])).trans ((HSM.out x hx).trans (HBW.out.block x (HXS.out x hx)))))))
      · have := S6.out.2.2 W.heap.size (by simp)
        simp
        omega
    · have H00 := Aside0.mk h0
      have HPU : Aside0 (DS.put crcO d i room tag b = dd.fl) := ⟨by rw [HPUT.out, if_neg h0]⟩
      have hb : (dd.fl.2 != 0) = true := by simpa using h0
      have hb2 : (dd.fl.2 == 0) = false := by simpa using h0
      generalize hE : dd.fl.2 = E at *
      have HE := Aside0.mk hE
      clear h0 hE
      go_wp2_with (go_at_call 43; refine (st_flush HST2.out).mono ?_; rw [HE.out]; rintro e w3 ⟨rfl, hS, hM⟩; have S3 := Aside0.mk hS; have M3 := Aside0.mk hM; (have hc10 := (show Boxed w3 (W.heap.size + 1) 37 (.int .i64 0) from (hM _ (by simp)).trans HL10.out)); have l10 := hc10.cell; have f10 := hc10.frozen; have HC10w := Aside0.mk hc10; clear hS hM hc10)
      have hK2 : (w3.setCell ⟨W.heap.size + 1, 0, none⟩ (.int .i64 E)).heap[D]? = some (.deferred (some [])) := (Below.heap_setCell _ _ _ _ (by have := HSZ.out; have := HS1.out; have := HDD.out; show D ≠ W.heap.size + 1; omega)).trans ((M3.out D (by simp)).trans HDK.out)
      have hgP := grownBy_putObj' (w3.setCell ⟨W.heap.size + 1, 0, none⟩ (.int .i64 E)) D (.deferred none)
      have hrP : ∀ r, some D = some r → ∃ o : Obj, (w3.setCell ⟨W.heap.size + 1, 0, none⟩ (.int .i64 E)).heap[r]? = some o ∧ o.isCells = false := fun r e => by cases e; exact ⟨_, hK2, rfl⟩
      refine ⟨by simp, .inl ⟨_, _, rfl, run_takeDeferred hK2, ?_⟩⟩
      have hbx : Boxed (w3.setCell ⟨W.heap.size + 1, 0, none⟩ (.int .i64 E)) (W.heap.size + 1) 37 (.int .i64 E) := Boxed.set _ HC10w.out
      have hc5 := cell_kept hbx.cell hgP hrP
      refine ⟨.int .i64 E, ?_, ?_, ?_, ?_, ?_⟩
      · simp [results, Tryz.f25, go_sem] at hc5 ⊢
        rw [hc5]
      · rw [HPU.out, HE.out]
      · rw [HPU.out]
        exact ((S3.out.put (B := W.heap.size + 1) (by simp) (by have := HW0.out; omega) 0 _).less (fun y hy => by simp [hy])).own hgP (fun r e => ⟨by cases e; have := HW0.out; have := HDD.out; have := HSZ.out; have := HS1.out; omega, hrP r e⟩)
      · exact fun x hx => (World.putObj_heap_other (by have := HXS.out x hx; have := HDD.out; have := HSZ.out; have := HS1.out; omega)).trans ((Below.heap_setCell _ _ _ _ (by have := HXS.out x hx; show x ≠ W.heap.size + 1; omega)).trans ((M3.out x (by simp [hx])).trans ((HSM.out x hx).trans (HBW.out.block x (HXS.out x hx)))))
      · have := S3.out.2.2 W.heap.size (by simp)
        simp
        omega
  case stop =>
    rintro D cx pre W' hD ⟨k, hk, hpre⟩ ⟨rfl, hE⟩ hK
    have hput := put_stop (crc := crcO) (room := room) (tag := tag) (by have := HRM.out; omega) (cl_some b pre k hk hpre) hE.bad
    have hc10 := hE.b10
    have HPUT := Aside0.mk hput
    have HEE := Aside0.mk hE
    clear hput hE hpre cS cN c5 c10 c11
    refine wpIn_wide.2 ?_
    go_wp2
    have hgP := grownBy_putObj' W' D (.deferred none)
    have hrP : ∀ r, some D = some r → ∃ o : Obj, W'.heap[r]? = some o ∧ o.isCells = false := fun r e => by cases e; exact ⟨_, hK, rfl⟩
    refine ⟨by simp, .inl ⟨_, _, rfl, run_takeDeferred hK, ?_⟩⟩
    have hc5 := cell_kept hc10.cell hgP hrP
    refine ⟨.int .i64 (DS.putC d (i + 1) (cl b pre)).2, ?_, ?_, ?_, ?_, ?_⟩
    · simp [results, Tryz.f25, go_sem] at hc5 ⊢
      rw [hc5]
    · rw [HPUT.out]
    · rw [HPUT.out]
      exact HEE.out.st.own hgP (fun r e => ⟨by cases e; omega, hrP r e⟩)
    · exact fun x hx => (World.putObj_heap_other (by have := HXS.out x hx; omega)).trans ((HEE.out.sm x hx).trans (hBW.block x (HXS.out x hx)))
    · have := HEE.out.sz
      have := hBW.size
      simp
      omega
/-- A span is put, or refused. -/
theorem st_putS {w0 W : World} {xs : List Nat} {g : Nat} {d : DS} (h : St w0 xs W g d) (i room tag : Int) (A : Option Addr) (c : Nat) (b : List Int) (hr : Rd w0 xs W A b) (hc : b.length ≤ c) (hb : b.length < 268435456) (hP : d.P.length < 1073741824) (hi0 : -1073741824 ≤ i) (hi1 : i ≤ 1073741824) :
    Calls Tryz.prog 25 #[.pointer (some ⟨g, 0, none⟩), .int .i64 i, .int .i64 room, .int .u32 tag, .slice A b.length c] W (PutPost w0 xs W g (DS.put crcO d i room tag b)) := by
  by_cases hroom : room < (DS.need b.length : Int)
  · rw [DS.put_full crcO d i room tag b hroom]
    exact (put_room h i room tag A c b (by omega) hroom).mono fun e w' ⟨h1, h2⟩ => ⟨h1, h.after h2, fun x hx => h2.block x (h.2.2 x hx), h2.size⟩
  · exact put_fits h i room tag A c b hr hc hb hP hi0 hi1 hroom

end Go.Proofs.YtkicekddkgehoaaGreatDoor.Dsk
namespace Go.Proofs.YtkicekddkgehoaaGreatDoorW.Dk
namespace DS
/-- A span lies there, flushed. -/
def Lies (crc : List Int → Int) (d : DS) (i : Nat) (tag : Int) (b : List Int) : Prop := d.S.getD i [] = head crc tag b ∧ ∀ k, k < (chunks b).length → d.S.getD (i + 1 + k) [] = (chunks b).getD k []
theorem Lies.get {crc : List Int → Int} {d : DS} {i : Nat} {room tag : Int} {b : List Int} (h : Lies crc d i tag b) (hP : d.P = []) (c0 : 0 ≤ crc b) (c1 : crc b < 4294967296) (t0 : 0 < tag) (t1 : tag < 4294967296) (hb : b.length < 4294967296) (hr : (need b.length : Int) ≤ room) (hs : i + need b.length ≤ d.S.length) : get crc d i room = (tag, b, true) :=
  get_hit c0 c1 t0 t1 hb ((rd_nil hP i).trans h.1) (fun j hj => by
    rw [show (i : Int) + 1 + (j : Int) = ((i + 1 + j : Nat) : Int) by omega]
    exact (rd_nil hP _).trans (h.2 j hj)) hr (by omega)
/-- A disk that is at rest: up, unarmed, nothing pending. -/
def Calm (d : DS) : Prop := d.P = [] ∧ d.down = false ∧ d.armed = false
theorem new_len (n : Nat) : (new n).S.length = n := List.length_replicate
end DS
end Go.Proofs.YtkicekddkgehoaaGreatDoorW.Dk
namespace Go.Proofs.YtkicekddkgehoaaGreatDoor.Dsk
open Go.RowKit Go.Proofs.YtkicekddkgehoaaGreatDoor.QMarkPlays Go.Proofs.YtkicekddkgehoaaGreatDoorW.PrintWords Go.Proofs.YtkicekddkgehoaaGreatDoorW.PrintLast Go.Proofs.YtkicekddkgehoaaGreatDoorW.Dk Go.Shelf
set_option linter.unusedVariables false
set_option linter.unusedSimpArgs false

attribute [local go_sem] Oper.semAt_some
theorem conv_str {w : World} {A : Option Addr} {n c : Nat} {xs : List Int} (h : (Kd.int .u8).C w A n xs) : (convert 52 9 (.slice A n c)).run Tryz.prog w = .ok (.string (strOfNums xs)) w :=
  Kd.C_string (P := Tryz.prog) (A := A) (c := c) Tryz.underlying52 Tryz.underlying5 Tryz.underlying9 h

end Go.Proofs.YtkicekddkgehoaaGreatDoor.Dsk
namespace Go.Proofs.YtkicekddkgehoaaGreatDoorW.Dk
/-! Two places for what is saved, in plain words. -/
namespace DS
def room (d : DS) : Nat := d.S.length * 3 / 8
def zeros16 : List Int := List.replicate 16 0
def load1 (crc : List Int → Int) (d : DS) (i : Nat) (s : Int × List Int × Bool) : Int × List Int × Bool :=
  if (get crc d ((i : Int) * d.room) d.room).2.2 = true ∧ (get crc d ((i : Int) * d.room) d.room).1 ≤ 2147483647 ∧ s.1 < (get crc d ((i : Int) * d.room) d.room).1 then get crc d ((i : Int) * d.room) d.room else s
def load (crc : List Int → Int) (d : DS) : Int × List Int × Bool := load1 crc d 1 (load1 crc d 0 (0, [], false))
theorem fl_len (d : DS) : d.fl.1.S.length = d.S.length := by
  unfold fl
  split
  · rfl
  split
  · exact spill_len _ _ _ _
  · exact flushed_len _ _
theorem wr_len (d : DS) (i : Int) (b : List Int) : (d.wr i b).1.S.length = d.S.length := by
  unfold wr
  split
  · rfl
  split
  · rfl
  split
  · rfl
  split
  · exact spill_len _ _ _ _
  · rfl
theorem puth_len (d : DS) (i : Int) (b : List Int) : (puth d i b).1.S.length = d.S.length := by
  unfold puth
  split
  · rw [fl_len, wr_len]
  · exact wr_len _ _ _
theorem putC_len : ∀ (cs : List (List Int)) (d : DS) (i : Int), (putC d i cs).1.S.length = d.S.length
  | [], _, _ => rfl
  | c :: cs, d, i => by
    rw [putC]
    split
    · rw [putC_len cs, wr_len]
    · exact wr_len _ _ _
theorem put_len (crc : List Int → Int) (d : DS) (i room tag : Int) (b : List Int) : (put crc d i room tag b).1.S.length = d.S.length := by
  unfold put
  split
  · rfl
  split
  · split
    · rw [puth_len, fl_len, putC_len]
    · rw [fl_len, putC_len]
  · exact putC_len _ _ _
theorem room2 (d : DS) : d.room + d.room ≤ d.S.length := by unfold room; omega
theorem puth_P (d : DS) (i : Int) (h : List Int) (h0 : (puth d i h).2 = 0) : (puth d i h).1.P = [] := by
  unfold puth at h0 ⊢
  split
  · rename_i h1
    rw [if_pos h1] at h0
    exact fl_P _ h0
  · rename_i h1
    rw [if_neg h1] at h0
    exact absurd h0 h1
end DS
end Go.Proofs.YtkicekddkgehoaaGreatDoorW.Dk
namespace Go.Proofs.YtkicekddkgehoaaGreatDoor.Dsk
open Go.RowKit Go.Proofs.YtkicekddkgehoaaGreatDoor.QMarkPlays Go.Proofs.YtkicekddkgehoaaGreatDoorW.PrintWords Go.Proofs.YtkicekddkgehoaaGreatDoorW.PrintLast Go.Proofs.YtkicekddkgehoaaGreatDoorW.Dk Go.Shelf
set_option linter.unusedVariables false
set_option linter.unusedSimpArgs false
end Go.Proofs.YtkicekddkgehoaaGreatDoor.Dsk
