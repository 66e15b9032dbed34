-- Written by a program of this session (wip/tools), out of the kit's print of the loaded program: functions, and proofs that the calls come to them.
import Derived.Test.YtikninibkljnnaaQPortLinesx0
import Derived.Test.YtikninibkljnnaaQPortLinesx1
import Derived.Test.YtikninibkljnnaaQPortLinesx2
namespace Go.Proofs.Ytikninibkljnnaa.QPortLines
open Go.RowKit Go.Proofs.YtikninibkljnnaaW.PrintWords Go.Proofs.YtikninibkljnnaaW.PrintLast Go.Proofs.YtikninibkljnnaaW.PrintMore
attribute [local go_sem] max2_int min2_int max_two min_two max_three min_three max_four min_four   -- for this text's walks alone
set_option linter.unusedVariables false
set_option linter.unusedSimpArgs false

/-! ### file_Write: function 25 -/
/-! bytes of the call's own, told by their letters -/
def file_Write.Bs (W : World) (B : Nat) (v : Value) (bs : List UInt8) : Prop :=
  ∃ (g cap : Nat) (cur : Array Value) (fr : Nat × Nat), v = .slice (some ⟨g, 0, none⟩) bs.length cap ∧ B ≤ g ∧ W.heap[g]? = some (.cells cur 5 fr) ∧ bs.length ≤ cap ∧ cap ≤ 9223372036854775807 ∧ cur.size = cap ∧ cur.toList.take bs.length = bs.map (fun b => Value.int .u8 (b.toNat : Int)) ∧ (fr = (0, 0) ∨ fr = (cap, cap + 1))
theorem file_Write.setCells_fr {g : Nat} {e : TypeId} {fr : Nat × Nat} : ∀ (vs : List Value) (o : Nat) (w : World) (cur : Array Value), w.heap[g]? = some (.cells cur e fr) → o + vs.length ≤ cur.size →
    ∃ cur', (w.setCells g o vs).heap[g]? = some (.cells cur' e fr) ∧ cur'.size = cur.size ∧ cur'.toList = cur.toList.take o ++ vs ++ cur.toList.drop (o + vs.length)
  | [], o, w, cur, h, _ => ⟨cur, h, rfl, by simp⟩
  | v :: r, o, w, cur, h, hl => by
    have h2 : (w.setCell ⟨g, o, none⟩ v).heap[g]? = some (.cells (cur.setIfInBounds o v) e fr) := by simp [World.setCell, Array.getElem?_modify, h]
    simp only [List.length_cons] at hl
    obtain ⟨cur', h3, h4, h5⟩ := file_Write.setCells_fr r (o + 1) (w.setCell ⟨g, o, none⟩ v) _ h2 (by simp; omega)
    refine ⟨cur', h3, by rw [h4]; simp, ?_⟩
    rw [h5, Array.toList_setIfInBounds]
    have ho : o < cur.toList.length := by rw [Array.length_toList]; omega
    rw [List.take_set, List.drop_set_of_lt (by omega)]
    simp only [List.length_cons]
    rw [show o + 1 + r.length = o + (r.length + 1) by omega]
    congr 1
    rw [List.take_succ_eq_append_getElem ho, List.set_append_right _ _ (by rw [List.length_take]; omega)]
    have ho' : o < cur.size := by omega
    simp [Nat.min_eq_left (Nat.le_of_lt ho')]
theorem file_Write.not_frozen {W : World} {g cap : Nat} {cur : Array Value} {e : TypeId} {fr : Nat × Nat} (h : W.heap[g]? = some (.cells cur e fr)) (hf : fr = (0, 0) ∨ fr = (cap, cap + 1)) (j : Nat) (hj : j < cap) : W.frozen? ⟨g, j, none⟩ = false := by
  rcases hf with rfl | rfl
  · simp [World.frozen?, h]
  · simp [World.frozen?, h]
    omega
theorem file_Write.Bs.cell {W : World} {g : Nat} {bs : List UInt8} {cur : Array Value} {fr : Nat × Nat} (h : W.heap[g]? = some (.cells cur 5 fr)) (ht : cur.toList.take bs.length = bs.map (fun b => Value.int .u8 (b.toNat : Int))) (j : Nat) (hj : j < bs.length) : W.cell? ⟨g, j, none⟩ = some (.int .u8 ((bs[j]'hj).toNat : Int)) := by
  rw [cell_of_row W g _ cur _ fr h, ← Array.getElem?_toList]
  have := congrArg (fun l : List Value => l[j]?) ht
  simp only [List.getElem?_take, if_pos hj, List.getElem?_map, List.getElem?_eq_getElem hj, Option.map_some] at this
  exact this
theorem file_Write.info5 : (Try.prog.info? 5).map (fun i => (i.zero, i.size, i.bytes)) = some (some (.int .u8 0), 1, 1) := by kernel_rfl
theorem file_Write.Bs.conv (W : World) (s : ByteArray) (hs : s.size < 1099511627776) : ∃ v W', (convert 9 74 (.string s)).run Try.prog W = .ok v W' ∧ file_Write.Bs W' W.heap.size v s.data.toList ∧ Below W.heap.size W W' := by
  have hr := run_bytes_of_string (P := Try.prog) W 9 74 5 s Try.underlying9 Try.underlying74 Try.underlying5
  have hge := grownCap_ge W s.size 0 5
  have hle := grownCap_le_maxLen W s.size 0 5 (by unfold maxLen; omega)
  have hsz : (bytesRow s (grownCap W s.size 0 5)).size = grownCap W s.size 0 5 := by
    have e : s.data.size = s.size := rfl
    simp [bytesRow, e]
    omega
  refine ⟨_, _, hr, ⟨W.heap.size, grownCap W s.size 0 5, _, _, by rw [Lib.size_eq], Nat.le_refl _, blk_new W.drew _, by rw [← Lib.size_eq]; exact hge, by unfold maxLen at hle; omega, hsz, ?_, .inr (by rw [hsz])⟩, below_alloc (below_drew1 (Below.refl _ _)) _⟩
  rw [bytesRow, Array.toList_append, List.take_append_of_le_length (by simp), List.take_of_length_le (by simp)]
  simp
theorem file_Write.Bs.push (W : World) (B : Nat) (v : Value) (bs : List UInt8) (h : file_Write.Bs W B v bs) (hB : B ≤ W.heap.size) (hl : bs.length < 1099511627776) (ty : TypeId) :
    ∃ v' W', (Builtin.append_ #[74, 74] ty #[v, .slice (some ⟨W.heap.size, 0, none⟩) 1 1]).run Try.prog (W.alloc (.cells #[.int .u8 0] 5)) = .ok v' W' ∧ file_Write.Bs W' B v' (bs ++ [0]) ∧ Below B W W' := by
  obtain ⟨g, cap, cur, fr, rfl, hg, hh, hn, hc, hs, ht, hf⟩ := h
  obtain ⟨i0, hi0, hz0, hzs, hzb⟩ := info_parts file_Write.info5
  have hgl : g < W.heap.size := (Array.getElem?_eq_some_iff.1 hh).1
  have hnew : (W.alloc (.cells #[.int .u8 0] 5)).heap[W.heap.size]? = some (.cells #[.int .u8 0] 5 (0, 0)) := blk_new W _
  have hh2 : (W.alloc (.cells #[.int .u8 0] 5)).heap[g]? = some (.cells cur 5 fr) := ((below_alloc (Below.refl W.heap.size W) _).block g hgl).trans hh
  have hcl : (bs.map (fun b => Value.int .u8 (b.toNat : Int))).length = bs.length := List.length_map _
  have hnews : ∀ j u, ([.int .u8 0] : List Value)[j]? = some u → (W.alloc (.cells #[.int .u8 0] 5)).cell? ((⟨W.heap.size, 0, none⟩ : Addr).add j) = some u := fun j u hj => by
    rw [add_plain, blk_cell hnew]
    simpa using hj
  by_cases hroom : bs.length + 1 ≤ cap
  · have hr := run_append_room_cells (P := Try.prog) (W.alloc (.cells #[.int .u8 0] 5)) 74 ty 5 i0 Try.underlying74 hi0 g 0 bs.length cap ⟨W.heap.size, 0, none⟩ 1 1 [.int .u8 0] (by rw [hzs]; rfl) hnews (by simp [Value.oneCell']) hroom
      (fun j hj => by
        have hj0 : j = 0 := by simpa using hj
        subst hj0
        rw [cell_of_row _ g _ cur _ fr hh2]
        rw [hzs]
        simp; omega)
      (fun j hj => by
        have hj0 : j = 0 := by simpa using hj
        subst hj0
        exact file_Write.not_frozen hh2 hf _ (by rw [hzs]; omega))
    obtain ⟨cur', h1, h2, h3⟩ := file_Write.setCells_fr [.int .u8 0] (0 + bs.length * i0.size) _ cur hh2 (by rw [hzs]; simp; omega)
    refine ⟨_, _, hr, ⟨g, cap, cur', fr, by simp, hg, h1, by simpa using hroom, hc, by rw [h2]; exact hs, ?_, hf⟩, Kd.below_setCells ((Below.refl B W).alloc hB _) hg⟩
    rw [h3, hzs, Nat.zero_add, Nat.mul_one, ht, List.length_append, List.map_append, List.take_append_of_le_length (by simp), List.take_of_length_le (by simp)]
    rfl
  · have hr := run_append_grow (P := Try.prog) (W.alloc (.cells #[.int .u8 0] 5)) 74 ty 5 i0 (.int .u8 0) Try.underlying74 hi0 hz0 ⟨g, 0, none⟩ bs.length cap (bs.map (fun b => Value.int .u8 (b.toNat : Int))) (by rw [hzs, hcl, Nat.mul_one])
      (fun j u hj => by
        have hjl : j < bs.length := by rw [← hcl]; exact (List.getElem?_eq_some_iff.1 hj).1
        rw [add_plain, file_Write.Bs.cell hh2 ht j hjl]
        simpa [List.getElem?_eq_getElem hjl] using hj)
      ⟨W.heap.size, 0, none⟩ 1 1 [.int .u8 0] (by rw [hzs]; rfl) hnews (by omega) (by omega) (by
        exact growslice_fits (need := bs.length + 1) (old := cap) (bytes := i0.bytes) (by omega) (by rw [hzb]; omega))
    have hge := grownCap_ge (W.alloc (.cells #[.int .u8 0] 5)) (bs.length + 1) cap 5
    have hle := grownCap_le_maxLen (W.alloc (.cells #[.int .u8 0] 5)) (bs.length + 1) cap 5 (by unfold maxLen; omega)
    generalize grownCap (W.alloc (.cells #[.int .u8 0] 5)) (bs.length + 1) cap 5 = G at *
    have hsz : ((bs.map (fun b => Value.int .u8 (b.toNat : Int))).toArray ++ [Value.int .u8 0].toArray ++ Builtin.zeroCells (Value.int .u8 0).cells (G - (bs.length + 1))).size = G := by
      rw [Array.size_append, Array.size_append, size_zeroCells]
      simp [Value.cells]
      omega
    refine ⟨_, _, hr, ⟨(W.alloc (.cells #[.int .u8 0] 5)).heap.size, G, _, (0, 0), by simp, Nat.le_trans hB (by simp), blk_new _ _, by simpa using hge, by unfold maxLen at hle; omega, hsz, ?_, .inl rfl⟩, (Below.trans ((Below.refl B W).alloc hB _) ((below_drew1 (Below.refl _ _)).alloc (Nat.le_trans hB (by simp)) _))⟩
    rw [Array.toList_append, Array.toList_append, List.length_append, List.take_append_of_le_length (by simp), List.take_of_length_le (by simp)]
    simp
theorem file_Write.Bs.copy (W : World) (B : Nat) (bs : List UInt8) (g cap : Nat) (h : file_Write.Bs W B (.slice (some ⟨g, 0, none⟩) bs.length cap) bs) (d : ByteArray) (at_ : Nat) (hat : at_ + d.size ≤ bs.length) (ty : TypeId) (dc : Nat) :
    (Builtin.copy_ #[74, 9] ty #[.slice (some ⟨g, at_, none⟩) (bs.length - at_) dc, .string d]).run Try.prog W = .ok (goInt d.size) (W.setCells g at_ (d.data.toList.map fun x => Value.int .u8 (x.toNat : Int))) ∧
      file_Write.Bs (W.setCells g at_ (d.data.toList.map fun x => Value.int .u8 (x.toNat : Int))) B (.slice (some ⟨g, 0, none⟩) bs.length cap) (bs.take at_ ++ d.data.toList ++ bs.drop (at_ + d.size)) ∧ Below B W (W.setCells g at_ (d.data.toList.map fun x => Value.int .u8 (x.toNat : Int))) := by
  obtain ⟨g', cap', cur, fr, hv, hg, hh, hn, hc, hs', ht, hf⟩ := h
  injection hv with h1 h2 h3
  injection h1 with h1
  injection h1 with h1
  subst h1 h3
  have hdl : d.data.toList.length = d.size := (Lib.size_eq d).symm
  have hcl : cur.toList.length = cap := by rw [Array.length_toList]; exact hs'
  obtain ⟨cur', k1, k2, k3⟩ := file_Write.setCells_fr (d.data.toList.map fun x => Value.int .u8 (x.toNat : Int)) at_ W cur hh (by rw [List.length_map, hdl]; omega)
  refine ⟨run_copy_string W _ _ ty 5 g at_ (bs.length - at_) dc d Try.underlying74 Try.sizeOf5 (by omega) (fun j hj => by rw [cell_of_row W g _ cur _ fr hh]; simp; omega) (fun j hj => file_Write.not_frozen hh hf _ (by omega)), ?_, Kd.below_setCells (Below.refl B W) hg⟩
  have hlen : (bs.take at_ ++ d.data.toList ++ bs.drop (at_ + d.size)).length = bs.length := by
    rw [List.length_append, List.length_append, List.length_take, List.length_drop, hdl]
    omega
  refine ⟨g, cap, cur', fr, by rw [hlen], hg, k1, by rw [hlen]; exact hn, hc, by rw [k2]; exact hs', ?_, hf⟩
  rw [hlen, k3, List.length_map, hdl, List.map_append, List.map_append, List.map_take, List.map_drop, ← ht, List.take_take, Nat.min_eq_left (by omega)]
  rw [List.take_append, List.take_of_length_le (by simp only [List.length_append, List.length_take, List.length_map, hdl, hcl]; omega)]
  congr 1
  rw [List.length_append, List.length_take, List.length_map, hdl, hcl, Nat.min_eq_left (by omega), List.drop_take]
theorem file_Write.Bs.str (W : World) (B : Nat) (v : Value) (bs : List UInt8) (h : file_Write.Bs W B v bs) : (convert 74 9 v).run Try.prog W = .ok (.string ⟨bs.toArray⟩) W := by
  obtain ⟨g, cap, cur, fr, rfl, hg, hh, hn, hc, hs', ht, hf⟩ := h
  exact run_convert_bytes_back W 74 9 5 ⟨g, 0, none⟩ cap bs Try.underlying74 Try.underlying5 Try.underlying9 (fun j hj => by rw [add_plain]; exact file_Write.Bs.cell hh ht j hj)
/-- A text into which another one is written at a place. -/
def file_Write.fill (l : List UInt8) (n : Nat) : List UInt8 := l ++ List.replicate (n - l.length) 0
def file_Write.over (l d : List UInt8) (n : Nat) : List UInt8 := (file_Write.fill l (n + d.length)).take n ++ d ++ (file_Write.fill l (n + d.length)).drop (n + d.length)
theorem file_Write.Bs.lower {W : World} {B B' : Nat} {v : Value} {bs : List UInt8} (h : file_Write.Bs W B v bs) (hb : B' ≤ B) : file_Write.Bs W B' v bs := by
  obtain ⟨g, cap, cur, fr, hv, hg, h⟩ := h
  exact ⟨g, cap, cur, fr, hv, Nat.le_trans hb hg, h⟩
def file_Write.f (l0 : List S55) (a1 : ByteArray) (a2 : Int) (a3 : ByteArray) : Option (List S55 × Int) := (file_Get.f l0 a1).bind fun g => if g.2 = true then (if 0 ≤ a2 then (if a2 > 4000 then some ([], 3) else if a3.size < 4611686018427387904 then (if a2 + (a3.size : Int) > 4000 then some ([], 3) else if g.1.size < 549755813888 then file_Put.f l0 a1 ⟨(file_Write.over g.1.data.toList a3.data.toList a2.toNat).toArray⟩ else none) else none) else some ([], 1)) else some ([], 1)
set_option maxHeartbeats 8000000 in
set_option maxRecDepth 100000 in
theorem file_Write.calls (A0 : Option Addr) (c0 : Nat) (l0 : List S55) (a1 : ByteArray) (a2 : Int) (a3 : ByteArray) (r1 : List S55) (r2 : Int) (w : World) (hr0 : Kd.C k55 w A0 l0.length l0) (hc0 : l0.length ≤ c0) (h : file_Write.f l0 a1 a2 a3 = some (r1, r2)) :
    Calls Try.prog 25 #[.slice A0 l0.length c0, .string a1, .int .i64 a2, .string a3] w fun e w' => ∃ v0_ : Value, e = .returned (.tuple #[v0_, .int .i64 r2]) ∧ Kd.R k55 55 w' w.heap.size (fun _ => True) v0_ r1 ∧ Below w.heap.size w w' := by
  unfold file_Write.f at h
  obtain ⟨⟨old, ok⟩, hg, h⟩ := Option.bind_eq_some_iff.1 h
  have HG := Aside0.mk hg
  have HR := Aside0.mk hr0
  have HC := Aside0.mk hc0
  clear hg hr0 hc0
  simp only at h
  cases ok with
  | false =>
    rw [if_neg (by simp)] at h
    injection h with h
    injection h with h1 h2
    subst h1 h2
    go_enter Try.func25, Try.ntmps25
    go_wp2_with (go_at_call 15; go_must ((with_reducible refine (file_Get.calls A0 c0 l0 a1 old false _ HR.out HC.out HG.out).mono ?_); rintro e w1 ⟨rfl, hb⟩; have HB := Aside0.mk hb; clear hb))
    go_ret2
    exact ⟨_, rfl, Kd.R_nil _ _ _ _ _, HB.out⟩
  | true =>
    rw [if_pos rfl] at h
    by_cases c2 : 0 ≤ a2
    · rw [if_pos c2] at h
      obtain ⟨m, rfl⟩ : ∃ m : Nat, a2 = (m : Int) := ⟨a2.toNat, by omega⟩
      have hn0 : ¬ ((m : Int) < 0) := by omega
      have hn0d : decide ((m : Int) < 0) = false := decide_eq_false hn0
      by_cases c3 : (m : Int) > 4000
      · rw [if_pos c3] at h
        injection h with h
        injection h with h1 h2
        subst h1 h2
        have hd3 : decide ((m : Int) > 4000) = true := decide_eq_true c3
        have hd3' : decide ((4000 : Int) < (m : Int)) = true := decide_eq_true c3
        clear c2 c3
        go_enter Try.func25, Try.ntmps25
        go_wp2_with (go_at_call 15; go_must ((with_reducible refine (file_Get.calls A0 c0 l0 a1 old true _ HR.out HC.out HG.out).mono ?_); rintro e w1 ⟨rfl, hb⟩; have HB := Aside0.mk hb; clear hb))
        go_ret2
        exact ⟨_, rfl, Kd.R_nil _ _ _ _ _, HB.out⟩
      · rw [if_neg c3] at h
        have hd3 : decide ((m : Int) > 4000) = false := decide_eq_false c3
        have hd3' : decide ((4000 : Int) < (m : Int)) = false := decide_eq_false c3
        by_cases c4 : a3.size < 4611686018427387904
        · rw [if_pos c4] at h
          have hwr : IntKind.i64.wrap ((m : Int) + (a3.size : Int)) = (m : Int) + (a3.size : Int) := by rw [IntKind.wrap_i64]; omega
          by_cases c5 : (m : Int) + (a3.size : Int) > 4000
          · rw [if_pos c5] at h
            injection h with h
            injection h with h1 h2
            subst h1 h2
            have hd5 : decide ((m : Int) + (a3.size : Int) > 4000) = true := decide_eq_true c5
            have hd5' : decide ((4000 : Int) < (m : Int) + (a3.size : Int)) = true := decide_eq_true c5
            clear c2 c3 c4 c5
            go_enter Try.func25, Try.ntmps25
            go_wp2_with (go_at_call 15; go_must ((with_reducible refine (file_Get.calls A0 c0 l0 a1 old true _ HR.out HC.out HG.out).mono ?_); rintro e w1 ⟨rfl, hb⟩; have HB := Aside0.mk hb; clear hb))
            go_ret2
            exact ⟨_, rfl, Kd.R_nil _ _ _ _ _, HB.out⟩
          · rw [if_neg c5] at h
            have hd5 : decide ((m : Int) + (a3.size : Int) > 4000) = false := decide_eq_false c5
            have hd5' : decide ((4000 : Int) < (m : Int) + (a3.size : Int)) = false := decide_eq_false c5
            by_cases c6 : old.size < 549755813888
            · rw [if_pos c6] at h
              have HP := Aside0.mk h
              have HOLD : Aside0 (old.size < 1099511627776) := ⟨by omega⟩
              have HNUM : Aside0 (m + a3.size ≤ 4000 ∧ old.size < 549755813888) := ⟨by omega⟩
              clear h c2 c3 c4 c5 c6
              obtain ⟨D, hD⟩ : ∃ D, D = m + a3.size - old.size := ⟨_, rfl⟩
              have HD := Aside0.mk hD
              clear hD
              go_enter Try.func25, Try.ntmps25
              go_wp2_with (go_at_call 15; go_must ((with_reducible refine (file_Get.calls A0 c0 l0 a1 old true _ HR.out HC.out HG.out).mono ?_); rintro e w1 ⟨rfl, hb⟩; obtain ⟨v1, W1, hcv, hbs, hbw⟩ := file_Write.Bs.conv w1 old HOLD.out; have HBS := Aside0.mk (file_Write.Bs.lower hbs (below_size hb)); have HB := Aside0.mk (below_step hb hbw); clear hb hbs hbw))
              go_loopg [12] D (fun g v12 wr => ∃ (bs : List UInt8) (gb cap z : Nat), v12 = .slice (some ⟨gb, 0, none⟩) bs.length cap ∧ Aside0 (z + g = D ∧ bs = old.data.toList ++ List.replicate z 0) ∧ Aside0 (file_Write.Bs wr w.heap.size v12 bs) ∧ Aside0 (Below w.heap.size w wr))
              case atStart =>
                have hb2 := HBS.out
                obtain ⟨gb, cap, cur, fr, hv, -⟩ := HBS.out
                exact ⟨_, gb, cap, 0, hv, ⟨by omega, by simp⟩, ⟨hb2⟩, HB⟩
              case round =>
                clear HBS HB
                obtain ⟨bs, gb, cap, z, rfl, HZ, HBS, HB⟩ := hrel
                have hbl : bs.length = old.size + z := by rw [HZ.out.2, List.length_append, List.length_replicate, ← Lib.size_eq]
                have hD := HD.out
                have hz := HZ.out.1
                have hnum := HNUM.out
                match gk, hz, HZ with
                | 0, hz, HZ =>
                  have hdl : decide ((bs.length : Int) < (m : Int) + (a3.size : Int)) = false := decide_eq_false (by omega)
                  have hm0 : (0 : Int) ≤ (m : Int) := by omega
                  have hml : (m : Int) ≤ (bs.length : Int) := by omega
                  have hml' : m ≤ bs.length := by omega
                  obtain ⟨g2, cap2, cur2, fr2, hv2, hgB, hh2, hnc, -⟩ := HBS.out
                  injection hv2 with e1 e2 e3
                  injection e1 with e1
                  injection e1 with e1
                  subst e1 e3
                  have hov : file_Write.over old.data.toList a3.data.toList m = bs.take m ++ a3.data.toList ++ bs.drop (m + a3.size) := by
                    have hfl : file_Write.fill old.data.toList (m + a3.data.toList.length) = bs := by
                      rw [file_Write.fill, HZ.out.2, ← Lib.size_eq, ← Lib.size_eq]
                      congr 2
                      omega
                    rw [file_Write.over, hfl, ← Lib.size_eq a3]
                  have HP2 := HP
                  rw [Int.toNat_natCast, hov] at HP2
                  have hic : m ≤ cap := by omega
                  have hcm : (m : Int) ≤ (cap : Int) := by omega
                  have hnn : ((bs.length : Int) ≤ (cap : Int)) := by omega
                  by_cases hce : cap = m
                  · have h30 : a3.size = 0 := by omega
                    have hbm : bs.length = m := by omega
                    have hnil : a3.data.toList = [] := List.eq_nil_of_length_eq_zero (by rw [← Lib.size_eq]; exact h30)
                    have hcp := run_copy_string (P := Try.prog) wr 74 9 3 5 gb 0 0 0 a3 Try.underlying74 Try.sizeOf5 (by omega) (fun j hj => by omega) (fun j hj => by omega)
                    have hsc : wr.setCells gb 0 (a3.data.toList.map fun x => Value.int .u8 (x.toNat : Int)) = wr := by rw [hnil]; rfl
                    rw [hsc] at hcp
                    have hall : bs.take m ++ a3.data.toList ++ bs.drop (m + a3.size) = bs := by
                      rw [hnil, h30, ← hbm]
                      simp
                    rw [hall] at HP2
                    have hstr := file_Write.Bs.str wr w.heap.size _ _ HBS.out
                    obtain ⟨whole, hwh⟩ : ∃ whole : ByteArray, whole = ⟨bs.toArray⟩ := ⟨_, rfl⟩
                    rw [← hwh] at hstr HP2
                    clear hbl hD hz hnum hov hh2 hgB hwh hsc hall hnil
                    subst hce
                    have hsub : bs.length - cap = 0 := by omega
                    clear hbm h30
                    go_wp2_with (first
                      | ((with_reducible refine gate_builtin (b := .copy) (xs := #[.tmp 48, .tmp 49]) rfl ?_); at_builtin; refine Kd.wpList_copy_run _ rfl _ _ 74 9 rfl _ _ rfl rfl hcp ?_)
                      | (go_at_call 16; go_must ((with_reducible refine (file_Put.calls A0 c0 l0 a1 _ r1 r2 _ ?s1 ?s2 HP2.out).mono ?_); (case s1 => exact Kd.C_below HR.out HB.out); (case s2 => exact HC.out); rintro e w5 ⟨v5, rfl, ho, hb⟩; have HO5 := Aside0.mk (Kd.R_lower ho (below_size HB.out)); have HB5 := Aside0.mk (below_step HB.out hb); clear ho hb)))
                    go_ret2
                    exact ⟨_, rfl, HO5.out, HB5.out⟩
                  · obtain ⟨hcp, hbs2, hbw2⟩ := file_Write.Bs.copy wr w.heap.size bs gb cap HBS.out a3 m (by omega) 3 (cap - m)
                    obtain ⟨W2, hW2⟩ : ∃ W2, W2 = wr.setCells gb m (a3.data.toList.map fun x => Value.int .u8 (x.toNat : Int)) := ⟨_, rfl⟩
                    rw [← hW2] at hcp hbs2 hbw2
                    have hstr := file_Write.Bs.str W2 w.heap.size _ _ hbs2
                    have hln : (bs.take m ++ a3.data.toList ++ bs.drop (m + a3.size)).length = bs.length := by
                      rw [List.length_append, List.length_append, List.length_take, List.length_drop, ← Lib.size_eq]
                      omega
                    have HB2 := Aside0.mk (HB.out.trans hbw2)
                    obtain ⟨whole, hwh⟩ : ∃ whole : ByteArray, whole = ⟨(bs.take m ++ a3.data.toList ++ bs.drop (m + a3.size)).toArray⟩ := ⟨_, rfl⟩
                    rw [← hwh] at hstr HP2
                    clear hbl hD hz hnum hW2 hbs2 hbw2 hov hh2 hgB hwh
                    go_wp2_with (first
                      | ((with_reducible refine gate_builtin (b := .copy) (xs := #[.tmp 48, .tmp 49]) rfl ?_); at_builtin; refine Kd.wpList_copy_run _ rfl _ _ 74 9 rfl _ _ rfl rfl hcp ?_)
                      | (go_at_call 16; go_must ((with_reducible refine (file_Put.calls A0 c0 l0 a1 _ r1 r2 _ ?s1 ?s2 HP2.out).mono ?_); (case s1 => exact Kd.C_below HR.out HB2.out); (case s2 => exact HC.out); rintro e w5 ⟨v5, rfl, ho, hb⟩; have HO5 := Aside0.mk (Kd.R_lower ho (below_size HB2.out)); have HB5 := Aside0.mk (below_step HB2.out hb); clear ho hb)))
                    go_ret2
                    exact ⟨_, rfl, HO5.out, HB5.out⟩
                | g + 1, hz, HZ =>
                  have hdl : decide ((bs.length : Int) < (m : Int) + (a3.size : Int)) = true := decide_eq_true (by omega)
                  obtain ⟨v', W', hrun, hbs', hbw'⟩ := file_Write.Bs.push wr w.heap.size _ bs HBS.out (below_size HB.out) (by omega) 74
                  have hbs2 := hbs'
                  obtain ⟨gb', cap', cur', fr', hv', -⟩ := hbs'
                  subst hv'
                  have HBS2 := Aside0.mk hbs2
                  have HB2 := Aside0.mk (HB.out.trans hbw')
                  have HZ2 : Aside0 (z + 1 + g = D ∧ bs ++ [0] = old.data.toList ++ List.replicate (z + 1) 0) := ⟨by omega, by rw [HZ.out.2, List.append_assoc, List.replicate_succ']⟩
                  clear hbl hD hz hnum hbs2 hbw' HZ
                  go_wp2_with ((with_reducible refine gate_builtin (b := .append) (xs := #[.tmp 43, .tmp 44]) rfl ?_); at_builtin; refine Lib.wpList_append_run _ rfl _ _ _ _ rfl _ _ rfl rfl _ _ hrun ?_)
                  go_roundg g
                  case measure => omega
                  case rel => exact ⟨bs ++ [0], gb', cap', z + 1, by simp, HZ2, by rw [show bs.length + 1 = (bs ++ [0]).length by simp]; exact HBS2, HB2⟩
            · rw [if_neg c6] at h; cases h
        · rw [if_neg c4] at h; cases h
    · rw [if_neg c2] at h
      injection h with h
      injection h with h1 h2
      subst h1 h2
      have hd0 : decide (a2 < 0) = true := decide_eq_true (by omega)
      clear c2
      go_enter Try.func25, Try.ntmps25
      go_wp2_with (go_at_call 15; go_must ((with_reducible refine (file_Get.calls A0 c0 l0 a1 old true _ HR.out HC.out HG.out).mono ?_); rintro e w1 ⟨rfl, hb⟩; have HB := Aside0.mk hb; clear hb))
      go_ret2
      exact ⟨_, rfl, Kd.R_nil _ _ _ _ _, HB.out⟩


-- NOT PRINTED: function 17 (port_write)

/-! ### port_puts: function 18 -/
def port_puts.f (a0 : ByteArray) (a1 : ByteArray) : Option (ByteArray × Bool) := if a0.size + a1.size ≤ 9223372036854775807 then (some (a0 ++ a1, decide ((wrap64 ((a0.size : Int) + (a1.size : Int))) ≤ 4000))) else (none)
set_option maxHeartbeats 8000000 in
set_option maxRecDepth 100000 in
theorem port_puts.calls (a0 : ByteArray) (a1 : ByteArray) (r1 : ByteArray) (r2 : Bool) (w : World) (h : port_puts.f a0 a1 = some (r1, r2)) :
    Calls Try.prog 18 #[.string a0, .string a1] w fun e w' => e = .returned (.tuple #[.string r1, .bool r2]) ∧ Drawn0 w w' := by
  have H : (if a0.size + a1.size ≤ 9223372036854775807 then (some (a0 ++ a1, decide ((wrap64 ((a0.size : Int) + (a1.size : Int))) ≤ 4000))) else (none)) = some (r1, r2) := h
  clear h
  by_cases c3 : a0.size + a1.size ≤ 9223372036854775807
  · rw [if_pos c3] at H
    have c3b0 := eq_true c3
    have c3b1 : decide (a0.size + a1.size ≤ 9223372036854775807) = true := decide_eq_true c3
    try have c3b2 : (9223372036854775807 < a0.size + a1.size) = False := eq_false (Nat.not_lt.2 c3)
    try (have c3b9 := c3; rw [ByteArray.size_append] at c3b9; replace c3b9 := eq_false (Nat.not_lt.2 c3b9))
    simp only [Option.some.injEq, Prod.mk.injEq] at H
    obtain ⟨rfl, rfl⟩ := H
    go_enter Try.func18, Try.ntmps18
    go_wp2
    go_ret2
    exact ⟨by first | rfl | (simp; done) | (simp [*]; done) | (simp; unfold wrap64; omega) | (simp; generalize ByteArray.toList _ = l_; cases l_ <;> simp), by repeat (first | exact Drawn0.refl _ | apply Drawn0.step)⟩
  · rw [if_neg c3] at H
    exact absurd H (by simp)

-- NOT PRINTED: function 8 (port_Write)

-- NOT PRINTED: function 10 (lazaruslaw18_known)

-- NOT PRINTED: function 50 (bytealg_hashStr_string)

-- NOT PRINTED: function 46 (bytealg_IndexRabinKarp_string)

/-! ### stringslite_Index: function 37 -/
def stringslite_Index.f (a0 a1 : ByteArray) : Option Int := if a1.size = 1 then some (Lib.indexByte a0.data.toList (a1.get! 0)) else none
set_option maxHeartbeats 2000000 in
set_option maxRecDepth 100000 in
theorem stringslite_Index.one (s : ByteArray) (c : UInt8) (w : World) :
    Calls Try.prog 37 #[.string s, .string ⟨#[c]⟩] w fun e w' => e = .returned (.int .i64 (Lib.indexByte s.data.toList c)) ∧ ∃ nd, w' = w.drewN nd := by
  have hc : ((c.toNat : Int)).toNat.toUInt8 = c := by simp
  go_enter Try.func37, Try.ntmps37
  go_wp2_with (go_at_call 43; refine (stringslite_IndexByte.calls s _ _ _ rfl).mono ?_; rintro e w' ⟨rfl, nd, rfl⟩)
  · have h : ([c] == s.toList) = true := by assumption
    go_ret
    refine ⟨?_, 0, rfl⟩
    have e : s.data.toList = [c] := by rw [← Lib.toList_data]; exact (beq_iff_eq.1 h).symm
    rw [e]
    simp [Lib.indexByte]
  · go_ret
    exact ⟨by first | rfl | simp, nd, rfl⟩
theorem stringslite_Index.calls (a0 a1 : ByteArray) (r : Int) (w : World) (h : stringslite_Index.f a0 a1 = some r) :
    Calls Try.prog 37 #[.string a0, .string a1] w fun e w' => e = .returned (.int .i64 r) ∧ ∃ nd, w' = w.drewN nd := by
  unfold stringslite_Index.f at h
  by_cases h1 : a1.size = 1
  · rw [if_pos h1] at h
    injection h with h
    subst h
    obtain ⟨c, rfl⟩ : ∃ c, a1 = ⟨#[c]⟩ := by
      obtain ⟨⟨l⟩⟩ := a1
      match l, h1 with
      | [c], _ => exact ⟨c, rfl⟩
    exact stringslite_Index.one a0 c w
  · rw [if_neg h1] at h
    cases h


/-! ### stringslite_Cut: function 33 -/
def stringslite_Cut.f (a0 : ByteArray) (a1 : ByteArray) : Option (ByteArray × ByteArray × Bool) := (stringslite_Index.f a0 a1).bind fun t176 => (if t176 ≥ 0 then (if 0 ≤ t176 then (if t176 ≤ (a0.size : Int) then (if 0 ≤ (wrap64 (t176 + (a1.size : Int))) then (if (wrap64 (t176 + (a1.size : Int))) ≤ (a0.size : Int) then (some (a0.extract 0 (t176 : Int).toNat, a0.extract ((wrap64 (t176 + (a1.size : Int))) : Int).toNat a0.size, true)) else (none)) else (none)) else (none)) else (none)) else (some (a0, (⟨#[]⟩ : ByteArray), false)))
set_option maxHeartbeats 8000000 in
set_option maxRecDepth 100000 in
theorem stringslite_Cut.calls (a0 : ByteArray) (a1 : ByteArray) (r1 : ByteArray) (r2 : ByteArray) (r3 : Bool) (w : World) (h : stringslite_Cut.f a0 a1 = some (r1, r2, r3)) :
    Calls Try.prog 33 #[.string a0, .string a1] w fun e w' => e = .returned (.tuple #[.string r1, .string r2, .bool r3]) ∧ Drawn0 w w' := by
  have H : ((stringslite_Index.f a0 a1).bind fun t176 => (if t176 ≥ 0 then (if 0 ≤ t176 then (if t176 ≤ (a0.size : Int) then (if 0 ≤ (wrap64 (t176 + (a1.size : Int))) then (if (wrap64 (t176 + (a1.size : Int))) ≤ (a0.size : Int) then (some (a0.extract 0 (t176 : Int).toNat, a0.extract ((wrap64 (t176 + (a1.size : Int))) : Int).toNat a0.size, true)) else (none)) else (none)) else (none)) else (none)) else (some (a0, (⟨#[]⟩ : ByteArray), false)))) = some (r1, r2, r3) := h
  clear h
  replace H := Option.bind_eq_some_iff.mp H
  obtain ⟨t176, A30, H⟩ := H
  replace H : (if t176 ≥ 0 then (if 0 ≤ t176 then (if t176 ≤ (a0.size : Int) then (if 0 ≤ (wrap64 (t176 + (a1.size : Int))) then (if (wrap64 (t176 + (a1.size : Int))) ≤ (a0.size : Int) then (some (a0.extract 0 (t176 : Int).toNat, a0.extract ((wrap64 (t176 + (a1.size : Int))) : Int).toNat a0.size, true)) else (none)) else (none)) else (none)) else (none)) else (some (a0, (⟨#[]⟩ : ByteArray), false))) = some (r1, r2, r3) := H
  have A3 := Aside0.mk A30
  clear A30
  by_cases c4 : t176 ≥ 0
  · rw [if_pos c4] at H
    have c4b0 : decide (0 ≤ t176) = true := decide_eq_true c4
    clear c4
    by_cases c5 : 0 ≤ t176
    · rw [if_pos c5] at H
      have c5b0 := eq_true c5
      have c5b1 : decide (0 ≤ t176) = true := decide_eq_true c5
      clear c5
      by_cases c6 : t176 ≤ (a0.size : Int)
      · rw [if_pos c6] at H
        have c6b0 := eq_true c6
        have c6b1 : decide (t176 ≤ (a0.size : Int)) = true := decide_eq_true c6
        clear c6
        obtain ⟨ji7, hji7⟩ : ∃ j_ : Int, (wrap64 (t176 + (a1.size : Int))) = j_ := ⟨_, rfl⟩
        replace H : (if 0 ≤ (ji7) then (if (ji7) ≤ (a0.size : Int) then (some (a0.extract 0 (t176 : Int).toNat, a0.extract ((ji7) : Int).toNat a0.size, true)) else (none)) else (none)) = some (r1, r2, r3) := by first | (rw [hji7] at H; exact H) | (simp only [hji7] at H ⊢; exact H)
        (try rw [hji7] at A3)
        have hji7w : (IntKind.i64.wrap (t176 + (a1.size : Int))) = ji7 := (i64_w _).trans hji7
        by_cases c8 : 0 ≤ (ji7)
        · rw [if_pos c8] at H
          have c8b0 := eq_true c8
          have c8b1 : decide (0 ≤ (ji7)) = true := decide_eq_true c8
          clear c8
          by_cases c9 : (ji7) ≤ (a0.size : Int)
          · rw [if_pos c9] at H
            have c9b0 := eq_true c9
            have c9b1 : decide ((ji7) ≤ (a0.size : Int)) = true := decide_eq_true c9
            clear c9
            simp only [Option.some.injEq, Prod.mk.injEq] at H
            obtain ⟨rfl, rfl, rfl⟩ := H
            go_enter Try.func33, Try.ntmps33
            go_wp2_with (first | (go_at_call 37; (with_reducible refine (stringslite_Index.calls a0 a1 t176 _ A3.out).mono ?_); rintro e w' ⟨rfl, ⟨nd, rfl⟩⟩; (try first | exact ⟨rfl, _, World.drewN_drewN _ _ _⟩ | exact ⟨rfl, _, Eq.trans (World.drewN_drewN _ _ _) (congrArg (World.drewN _) (Nat.add_assoc _ _ _))⟩)))
            repeat (go_quiet (first | (go_at_call 37; (with_reducible refine (stringslite_Index.calls a0 a1 t176 _ A3.out).mono ?_); rintro e w' ⟨rfl, ⟨nd, rfl⟩⟩; (try first | exact ⟨rfl, _, World.drewN_drewN _ _ _⟩ | exact ⟨rfl, _, Eq.trans (World.drewN_drewN _ _ _) (congrArg (World.drewN _) (Nat.add_assoc _ _ _))⟩))); try go_wp2_with (first | (go_at_call 37; (with_reducible refine (stringslite_Index.calls a0 a1 t176 _ A3.out).mono ?_); rintro e w' ⟨rfl, ⟨nd, rfl⟩⟩; (try first | exact ⟨rfl, _, World.drewN_drewN _ _ _⟩ | exact ⟨rfl, _, Eq.trans (World.drewN_drewN _ _ _) (congrArg (World.drewN _) (Nat.add_assoc _ _ _))⟩))))
            go_ret3
            exact ⟨by first | rfl | (simp; done) | (simp only [← hji7] <;> (first | rfl | simp)) | (simp [*]; done), by repeat (first | exact Drawn0.refl _ | apply Drawn0.step)⟩
          · rw [if_neg c9] at H
            exact absurd H (by simp)
        · rw [if_neg c8] at H
          exact absurd H (by simp)
      · rw [if_neg c6] at H
        exact absurd H (by simp)
    · rw [if_neg c5] at H
      exact absurd H (by simp)
  · rw [if_neg c4] at H
    have c4b0 : decide (0 ≤ t176) = false := decide_eq_false c4
    clear c4
    simp only [Option.some.injEq, Prod.mk.injEq] at H
    obtain ⟨rfl, rfl, rfl⟩ := H
    go_enter Try.func33, Try.ntmps33
    go_wp2_with (first | (go_at_call 37; (with_reducible refine (stringslite_Index.calls a0 a1 t176 _ A3.out).mono ?_); rintro e w' ⟨rfl, ⟨nd, rfl⟩⟩; (try first | exact ⟨rfl, _, World.drewN_drewN _ _ _⟩ | exact ⟨rfl, _, Eq.trans (World.drewN_drewN _ _ _) (congrArg (World.drewN _) (Nat.add_assoc _ _ _))⟩)))
    repeat (go_quiet (first | (go_at_call 37; (with_reducible refine (stringslite_Index.calls a0 a1 t176 _ A3.out).mono ?_); rintro e w' ⟨rfl, ⟨nd, rfl⟩⟩; (try first | exact ⟨rfl, _, World.drewN_drewN _ _ _⟩ | exact ⟨rfl, _, Eq.trans (World.drewN_drewN _ _ _) (congrArg (World.drewN _) (Nat.add_assoc _ _ _))⟩))); try go_wp2_with (first | (go_at_call 37; (with_reducible refine (stringslite_Index.calls a0 a1 t176 _ A3.out).mono ?_); rintro e w' ⟨rfl, ⟨nd, rfl⟩⟩; (try first | exact ⟨rfl, _, World.drewN_drewN _ _ _⟩ | exact ⟨rfl, _, Eq.trans (World.drewN_drewN _ _ _) (congrArg (World.drewN _) (Nat.add_assoc _ _ _))⟩))))
    go_ret3
    exact ⟨by first | rfl | (simp; done) | (simp [*]; done) | (simp; unfold wrap64; omega) | (simp; generalize ByteArray.toList _ = l_; cases l_ <;> simp), by repeat (first | exact Drawn0.refl _ | apply Drawn0.step)⟩

/-! ### strings_Cut: function 26 -/
def strings_Cut.f (a0 : ByteArray) (a1 : ByteArray) : Option (ByteArray × ByteArray × Bool) := (stringslite_Cut.f a0 a1).bind fun bt177 => (some (bt177.1, bt177.2.1, bt177.2.2))
set_option maxHeartbeats 8000000 in
set_option maxRecDepth 100000 in
theorem strings_Cut.calls (a0 : ByteArray) (a1 : ByteArray) (r1 : ByteArray) (r2 : ByteArray) (r3 : Bool) (w : World) (h : strings_Cut.f a0 a1 = some (r1, r2, r3)) :
    Calls Try.prog 26 #[.string a0, .string a1] w fun e w' => e = .returned (.tuple #[.string r1, .string r2, .bool r3]) ∧ Drawn0 w w' := by
  have H : ((stringslite_Cut.f a0 a1).bind fun bt177 => (some (bt177.1, bt177.2.1, bt177.2.2))) = some (r1, r2, r3) := h
  clear h
  replace H := Option.bind_eq_some_iff.mp H
  obtain ⟨⟨t177, t178, t179⟩, A30, H⟩ := H
  replace H : (some (t177, t178, t179)) = some (r1, r2, r3) := H
  have A3 := Aside0.mk A30
  clear A30
  simp only [Option.some.injEq, Prod.mk.injEq] at H
  obtain ⟨rfl, rfl, rfl⟩ := H
  go_enter Try.func26, Try.ntmps26
  go_wp2_with (first | ((with_reducible refine gate_callee (f := 33) rfl ?_); refine goesL_ (some 9) rfl rfl Try.func33 (by kernel_rfl) rfl #[.string a0, .string a1] rfl (by (try simp only [List.map_toArray, List.map_cons, List.map_nil]); first | done | rfl | (simp only [List.length_drop, List.length_take]; rfl)) ?_; (with_reducible refine (stringslite_Cut.calls a0 a1 t177 t178 t179 _ A3.out).mono ?_); rintro e w' ⟨rfl, ⟨nd, rfl⟩⟩; refine ⟨_, rfl, ?_⟩))
  go_ret3
  exact ⟨by first | rfl | (simp; done) | (simp [*]; done) | (simp; unfold wrap64; omega) | (simp; generalize ByteArray.toList _ = l_; cases l_ <;> simp), by repeat (first | exact Drawn0.refl _ | apply Drawn0.step)⟩

/-! ### split_Lines: function 19 -/
def split_Lines.f (a0 : ByteArray) : Option (ByteArray × ByteArray × Bool) := (strings_Cut.f a0 (⟨#[10]⟩ : ByteArray)).bind fun bt180 => (some (bt180.1, bt180.2.1, (a0.toList != ([] : List UInt8))))
set_option maxHeartbeats 8000000 in
set_option maxRecDepth 100000 in
theorem split_Lines.calls (a0 : ByteArray) (r1 : ByteArray) (r2 : ByteArray) (r3 : Bool) (w : World) (h : split_Lines.f a0 = some (r1, r2, r3)) :
    Calls Try.prog 19 #[.string a0] w fun e w' => e = .returned (.tuple #[.string r1, .string r2, .bool r3]) ∧ Drawn0 w w' := by
  have H : ((strings_Cut.f a0 (⟨#[10]⟩ : ByteArray)).bind fun bt180 => (some (bt180.1, bt180.2.1, (a0.toList != ([] : List UInt8))))) = some (r1, r2, r3) := h
  clear h
  replace H := Option.bind_eq_some_iff.mp H
  obtain ⟨⟨t180, t181, t182⟩, A20, H⟩ := H
  replace H : (some (t180, t181, (a0.toList != ([] : List UInt8)))) = some (r1, r2, r3) := H
  have A2 := Aside0.mk A20
  clear A20
  simp only [Option.some.injEq, Prod.mk.injEq] at H
  obtain ⟨rfl, rfl, rfl⟩ := H
  go_enter Try.func19, Try.ntmps19
  go_wp2_with (first | ((with_reducible refine gate_callee (f := 26) rfl ?_); refine goesL_ (some 7) rfl rfl Try.func26 (by kernel_rfl) rfl #[.string a0, .string (⟨#[10]⟩ : ByteArray)] rfl (by (try simp only [List.map_toArray, List.map_cons, List.map_nil]); first | done | rfl | (simp only [List.length_drop, List.length_take]; rfl)) ?_; (with_reducible refine (strings_Cut.calls a0 (⟨#[10]⟩ : ByteArray) t180 t181 t182 _ A2.out).mono ?_); rintro e w' ⟨rfl, ⟨nd, rfl⟩⟩; refine ⟨_, rfl, ?_⟩))
  go_ret3
  exact ⟨by first | rfl | (simp; done) | (simp [*]; done) | (simp; unfold wrap64; omega) | (simp; generalize ByteArray.toList _ = l_; cases l_ <;> simp), by repeat (first | exact Drawn0.refl _ | apply Drawn0.step)⟩

/-! ### port_left: function 20 -/
def port_left.f (l0_0 : List (S107)) (l0_1 : List ByteArray) (l0_2 : List (S109)) (l0_3 : List (S55)) (a0_4 : Int) (a0_5 : ByteArray) (a0_6 : ByteArray) (a0_7 : Int) (a0_8 : Int) (a0_9 : ByteArray) (a0_10 : Int) (a0_11 : ByteArray) (l0_12 : List (S111)) (a0_13 : Int) (a0_14 : Int) (a0_15 : Bool) (a0_16 : Bool) (a0_17 : Int) (l0_18 : List ByteArray) (l0_19 : List (S107)) (a0_20 : ByteArray) : Option (ByteArray) := if 0 ≤ (mn (mx a0_7 0) (a0_6.size : Int)) then (if (mn (mx a0_7 0) (a0_6.size : Int)) ≤ (a0_6.size : Int) then (some (a0_6.extract ((mn (mx a0_7 0) (a0_6.size : Int)) : Int).toNat a0_6.size)) else (none)) else (none)
set_option maxHeartbeats 8000000 in
set_option maxRecDepth 100000 in
theorem port_left.calls (A0_0 : Option Addr) (c0_0 : Nat) (l0_0 : List (S107)) (A0_1 : Option Addr) (c0_1 : Nat) (l0_1 : List ByteArray) (A0_2 : Option Addr) (c0_2 : Nat) (l0_2 : List (S109)) (A0_3 : Option Addr) (c0_3 : Nat) (l0_3 : List (S55)) (a0_4 : Int) (a0_5 : ByteArray) (a0_6 : ByteArray) (a0_7 : Int) (a0_8 : Int) (a0_9 : ByteArray) (a0_10 : Int) (a0_11 : ByteArray) (A0_12 : Option Addr) (c0_12 : Nat) (l0_12 : List (S111)) (a0_13 : Int) (a0_14 : Int) (a0_15 : Bool) (a0_16 : Bool) (a0_17 : Int) (A0_18 : Option Addr) (c0_18 : Nat) (l0_18 : List ByteArray) (A0_19 : Option Addr) (c0_19 : Nat) (l0_19 : List (S107)) (a0_20 : ByteArray) (r : ByteArray) (w : World) (hr0_0 : Kd.C k107 w A0_0 l0_0.length l0_0) (hc0_0 : l0_0.length ≤ c0_0) (hr0_1 : Kd.C Kd.string w A0_1 l0_1.length l0_1) (hc0_1 : l0_1.length ≤ c0_1) (hr0_2 : Kd.C k109 w A0_2 l0_2.length l0_2) (hc0_2 : l0_2.length ≤ c0_2) (hr0_3 : Kd.C k55 w A0_3 l0_3.length l0_3) (hc0_3 : l0_3.length ≤ c0_3) (hr0_12 : Kd.C k111 w A0_12 l0_12.length l0_12) (hc0_12 : l0_12.length ≤ c0_12) (hr0_18 : Kd.C Kd.string w A0_18 l0_18.length l0_18) (hc0_18 : l0_18.length ≤ c0_18) (hr0_19 : Kd.C k107 w A0_19 l0_19.length l0_19) (hc0_19 : l0_19.length ≤ c0_19) (h : port_left.f l0_0 l0_1 l0_2 l0_3 a0_4 a0_5 a0_6 a0_7 a0_8 a0_9 a0_10 a0_11 l0_12 a0_13 a0_14 a0_15 a0_16 a0_17 l0_18 l0_19 a0_20 = some r) :
    Calls Try.prog 20 #[.agg #[.slice A0_0 l0_0.length c0_0, .slice A0_1 l0_1.length c0_1, .slice A0_2 l0_2.length c0_2, .slice A0_3 l0_3.length c0_3, .int .i64 a0_4, .string a0_5, .string a0_6, .int .i64 a0_7, .int .i64 a0_8, .string a0_9, .int .i64 a0_10, .string a0_11, .slice A0_12 l0_12.length c0_12, .int .i64 a0_13, .int .i64 a0_14, .bool a0_15, .bool a0_16, .int .i64 a0_17, .slice A0_18 l0_18.length c0_18, .slice A0_19 l0_19.length c0_19, .string a0_20]] w fun e w' => e = .returned (.string r) ∧ Below w.heap.size w w' := by
  have hu38 := Try.underlying38
  have HR0_0 := Aside0.mk hr0_0
  have HC0_0 := Aside0.mk hc0_0
  clear hr0_0 hc0_0
  have HR0_1 := Aside0.mk hr0_1
  have HC0_1 := Aside0.mk hc0_1
  clear hr0_1 hc0_1
  have HR0_2 := Aside0.mk hr0_2
  have HC0_2 := Aside0.mk hc0_2
  clear hr0_2 hc0_2
  have HR0_3 := Aside0.mk hr0_3
  have HC0_3 := Aside0.mk hc0_3
  clear hr0_3 hc0_3
  have HR0_12 := Aside0.mk hr0_12
  have HC0_12 := Aside0.mk hc0_12
  clear hr0_12 hc0_12
  have HR0_18 := Aside0.mk hr0_18
  have HC0_18 := Aside0.mk hc0_18
  clear hr0_18 hc0_18
  have HR0_19 := Aside0.mk hr0_19
  have HC0_19 := Aside0.mk hc0_19
  clear hr0_19 hc0_19
  have HB := Aside0.mk (Below.refl w.heap.size w)
  have H : (if 0 ≤ (mn (mx a0_7 0) (a0_6.size : Int)) then (if (mn (mx a0_7 0) (a0_6.size : Int)) ≤ (a0_6.size : Int) then (some (a0_6.extract ((mn (mx a0_7 0) (a0_6.size : Int)) : Int).toNat a0_6.size)) else (none)) else (none)) = some r := h
  clear h
  obtain ⟨ji2, hji2⟩ : ∃ j_ : Int, (mx a0_7 0) = j_ := ⟨_, rfl⟩
  replace H : (if 0 ≤ (mn (ji2) (a0_6.size : Int)) then (if (mn (ji2) (a0_6.size : Int)) ≤ (a0_6.size : Int) then (some (a0_6.extract ((mn (ji2) (a0_6.size : Int)) : Int).toNat a0_6.size)) else (none)) else (none)) = some r := by first | (rw [hji2] at H; exact H) | (simp only [hji2] at H ⊢; exact H)
  (try (have hji2l : 0 ≤ ji2 := by (rw [← hji2]; unfold mx; (repeat' split) <;> omega)))
  (try (have hji2m : 0 ≤ ji2 := by omega))
  have hji2_ : (if a0_7 < 0 then 0 else a0_7) = ji2 := hji2
  obtain ⟨ji3, hji3⟩ : ∃ j_ : Int, (mn (ji2) (a0_6.size : Int)) = j_ := ⟨_, rfl⟩
  replace H : (if 0 ≤ (ji3) then (if (ji3) ≤ (a0_6.size : Int) then (some (a0_6.extract ((ji3) : Int).toNat a0_6.size)) else (none)) else (none)) = some r := by first | (rw [hji3] at H; exact H) | (simp only [hji3] at H ⊢; exact H)
  have hji3_ : (if (a0_6.size : Int) < (ji2) then (a0_6.size : Int) else (ji2)) = ji3 := hji3
  by_cases c4 : 0 ≤ (ji3)
  · rw [if_pos c4] at H
    have c4b0 := eq_true c4
    have c4b1 : decide (0 ≤ (ji3)) = true := decide_eq_true c4
    clear c4
    by_cases c5 : (ji3) ≤ (a0_6.size : Int)
    · rw [if_pos c5] at H
      have c5b0 := eq_true c5
      have c5b1 : decide ((ji3) ≤ (a0_6.size : Int)) = true := decide_eq_true c5
      clear c5
      obtain rfl := Option.some.inj H
      go_enter Try.func20, Try.ntmps20
      go_wp2_with (first | ((with_reducible refine gate_dst (N := 1) rfl ?_); refine box_event ?hg (N := 1) ?hd (cs := #[.slice A0_0 l0_0.length c0_0, .slice A0_1 l0_1.length c0_1, .slice A0_2 l0_2.length c0_2, .slice A0_3 l0_3.length c0_3, .int .i64 a0_4, .string a0_5, .string a0_6, .int .i64 a0_7, .int .i64 a0_8, .string a0_9, .int .i64 a0_10, .string a0_11, .slice A0_12 l0_12.length c0_12, .int .i64 a0_13, .int .i64 a0_14, .bool a0_15, .bool a0_16, .int .i64 a0_17, .slice A0_18 l0_18.length c0_18, .slice A0_19 l0_19.length c0_19, .string a0_20]) (t := 38) ?hr ?_; (case hd => rfl); (case hg => rfl); (case hr => first | (go_simp; done) | (go_simp; rfl)); intro gb183 hg w6 hbox hb; have n0_ := Aside0.mk (below_step (by repeat (first | (with_reducible first | exact HB.out | apply below_alloc | apply pw_below_drewN | apply below_drew1) | exact HB.out)) hb); have n1_ := Aside0.mk (hbox); have n2_ := Aside0.mk ((by rw [hg]; exact (below_size (by repeat (first | (with_reducible first | exact HB.out | apply below_alloc | apply pw_below_drewN | apply below_drew1) | exact HB.out))) : w.heap.size ≤ gb183)); have n3_ := Aside0.mk ((by rw [hg]; exact (below_size (by repeat (first | (with_reducible first | exact HB.out | apply below_alloc | apply pw_below_drewN | apply below_drew1) | exact HB.out))) : w.heap.size ≤ gb183)); clear HB; have HB := n0_; have BK183 := n1_; have GW183 := n2_; have GE183 := n3_; clear n0_ n1_ n2_ n3_; clear hb hbox hg; have hcz7_0 : w6.cell? ⟨gb183, 0, none⟩ = some (.slice A0_0 l0_0.length c0_0) := (blk_cell BK183.out 0).trans rfl; have hcz7_1 : w6.cell? ⟨gb183, 1, none⟩ = some (.slice A0_1 l0_1.length c0_1) := (blk_cell BK183.out 1).trans rfl; have hcz7_2 : w6.cell? ⟨gb183, 2, none⟩ = some (.slice A0_2 l0_2.length c0_2) := (blk_cell BK183.out 2).trans rfl; have hcz7_3 : w6.cell? ⟨gb183, 3, none⟩ = some (.slice A0_3 l0_3.length c0_3) := (blk_cell BK183.out 3).trans rfl; have hcz7_4 : w6.cell? ⟨gb183, 4, none⟩ = some (.int .i64 a0_4) := (blk_cell BK183.out 4).trans rfl; have hcz7_5 : w6.cell? ⟨gb183, 5, none⟩ = some (.string a0_5) := (blk_cell BK183.out 5).trans rfl; have hcz7_6 : w6.cell? ⟨gb183, 6, none⟩ = some (.string a0_6) := (blk_cell BK183.out 6).trans rfl; have hcz7_7 : w6.cell? ⟨gb183, 7, none⟩ = some (.int .i64 a0_7) := (blk_cell BK183.out 7).trans rfl; have hcz7_8 : w6.cell? ⟨gb183, 8, none⟩ = some (.int .i64 a0_8) := (blk_cell BK183.out 8).trans rfl; have hcz7_9 : w6.cell? ⟨gb183, 9, none⟩ = some (.string a0_9) := (blk_cell BK183.out 9).trans rfl; have hcz7_10 : w6.cell? ⟨gb183, 10, none⟩ = some (.int .i64 a0_10) := (blk_cell BK183.out 10).trans rfl; have hcz7_11 : w6.cell? ⟨gb183, 11, none⟩ = some (.string a0_11) := (blk_cell BK183.out 11).trans rfl; have hcz7_12 : w6.cell? ⟨gb183, 12, none⟩ = some (.slice A0_12 l0_12.length c0_12) := (blk_cell BK183.out 12).trans rfl; have hcz7_13 : w6.cell? ⟨gb183, 13, none⟩ = some (.int .i64 a0_13) := (blk_cell BK183.out 13).trans rfl; have hcz7_14 : w6.cell? ⟨gb183, 14, none⟩ = some (.int .i64 a0_14) := (blk_cell BK183.out 14).trans rfl; have hcz7_15 : w6.cell? ⟨gb183, 15, none⟩ = some (.bool a0_15) := (blk_cell BK183.out 15).trans rfl; have hcz7_16 : w6.cell? ⟨gb183, 16, none⟩ = some (.bool a0_16) := (blk_cell BK183.out 16).trans rfl; have hcz7_17 : w6.cell? ⟨gb183, 17, none⟩ = some (.int .i64 a0_17) := (blk_cell BK183.out 17).trans rfl; have hcz7_18 : w6.cell? ⟨gb183, 18, none⟩ = some (.slice A0_18 l0_18.length c0_18) := (blk_cell BK183.out 18).trans rfl; have hcz7_19 : w6.cell? ⟨gb183, 19, none⟩ = some (.slice A0_19 l0_19.length c0_19) := (blk_cell BK183.out 19).trans rfl; have hcz7_20 : w6.cell? ⟨gb183, 20, none⟩ = some (.string a0_20) := (blk_cell BK183.out 20).trans rfl; have hfz7_0 := blk_frozen BK183.out 0; have hfz7_1 := blk_frozen BK183.out 1; have hfz7_2 := blk_frozen BK183.out 2; have hfz7_3 := blk_frozen BK183.out 3; have hfz7_4 := blk_frozen BK183.out 4; have hfz7_5 := blk_frozen BK183.out 5; have hfz7_6 := blk_frozen BK183.out 6; have hfz7_7 := blk_frozen BK183.out 7; have hfz7_8 := blk_frozen BK183.out 8; have hfz7_9 := blk_frozen BK183.out 9; have hfz7_10 := blk_frozen BK183.out 10; have hfz7_11 := blk_frozen BK183.out 11; have hfz7_12 := blk_frozen BK183.out 12; have hfz7_13 := blk_frozen BK183.out 13; have hfz7_14 := blk_frozen BK183.out 14; have hfz7_15 := blk_frozen BK183.out 15; have hfz7_16 := blk_frozen BK183.out 16; have hfz7_17 := blk_frozen BK183.out 17; have hfz7_18 := blk_frozen BK183.out 18; have hfz7_19 := blk_frozen BK183.out 19; have hfz7_20 := blk_frozen BK183.out 20))
      go_ret
      exact ⟨by first | rfl | (simp [errW_none, errW_some] <;> rfl) | (simp only [← hji2, ← hji3]; first | rfl | (simp [errW_none, errW_some] <;> rfl)) | (simp [*, errW_none, errW_some] <;> rfl), by repeat (first | (with_reducible first | exact HB.out | apply below_alloc | apply pw_below_drewN | apply below_drew1 | refine below_set ?_ GE183.out) | exact HB.out)⟩
    · rw [if_neg c5] at H
      exact absurd H (by simp)
  · rw [if_neg c4] at H
    exact absurd H (by simp)

end Go.Proofs.Ytikninibkljnnaa.QPortLines
