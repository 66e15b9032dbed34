-- Written by a program of this session (wip/tools), out of the kit's print of the loaded program: functions, and proofs that the calls come to them.
import Derived.Test.YtikninibkljnnaaQPortAppendsx0
import Derived.Test.YtikninibkljnnaaQPortAppendsx1
import Derived.Test.YtikninibkljnnaaQPortAppendsx2
import Derived.Test.YtikninibkljnnaaQPortAppendsx3
namespace Go.Proofs.Ytikninibkljnnaa.QPortAppends
open Go.RowKit Go.Proofs.YtikninibkljnnaaW.PrintWords Go.Proofs.YtikninibkljnnaaW.PrintLast Go.Proofs.YtikninibkljnnaaW.PrintMore
attribute [local go_sem] max2_int min2_int max_two min_two max_three min_three max_four min_four   -- for this text's walks alone
set_option linter.unusedVariables false
set_option linter.unusedSimpArgs false

/-! ### file_Write: function 25 -/
/-! bytes of the call's own, told by their letters -/
def file_Write.Bs (W : World) (B : Nat) (v : Value) (bs : List UInt8) : Prop :=
  ∃ (g cap : Nat) (cur : Array Value) (fr : Nat × Nat), v = .slice (some ⟨g, 0, none⟩) bs.length cap ∧ B ≤ g ∧ W.heap[g]? = some (.cells cur 5 fr) ∧ bs.length ≤ cap ∧ cap ≤ 9223372036854775807 ∧ cur.size = cap ∧ cur.toList.take bs.length = bs.map (fun b => Value.int .u8 (b.toNat : Int)) ∧ (fr = (0, 0) ∨ fr = (cap, cap + 1))
theorem file_Write.setCells_fr {g : Nat} {e : TypeId} {fr : Nat × Nat} : ∀ (vs : List Value) (o : Nat) (w : World) (cur : Array Value), w.heap[g]? = some (.cells cur e fr) → o + vs.length ≤ cur.size →
    ∃ cur', (w.setCells g o vs).heap[g]? = some (.cells cur' e fr) ∧ cur'.size = cur.size ∧ cur'.toList = cur.toList.take o ++ vs ++ cur.toList.drop (o + vs.length)
  | [], o, w, cur, h, _ => ⟨cur, h, rfl, by simp⟩
  | v :: r, o, w, cur, h, hl => by
    have h2 : (w.setCell ⟨g, o, none⟩ v).heap[g]? = some (.cells (cur.setIfInBounds o v) e fr) := by simp [World.setCell, Array.getElem?_modify, h]
    simp only [List.length_cons] at hl
    obtain ⟨cur', h3, h4, h5⟩ := file_Write.setCells_fr r (o + 1) (w.setCell ⟨g, o, none⟩ v) _ h2 (by simp; omega)
    refine ⟨cur', h3, by rw [h4]; simp, ?_⟩
    rw [h5, Array.toList_setIfInBounds]
    have ho : o < cur.toList.length := by rw [Array.length_toList]; omega
    rw [List.take_set, List.drop_set_of_lt (by omega)]
    simp only [List.length_cons]
    rw [show o + 1 + r.length = o + (r.length + 1) by omega]
    congr 1
    rw [List.take_succ_eq_append_getElem ho, List.set_append_right _ _ (by rw [List.length_take]; omega)]
    have ho' : o < cur.size := by omega
    simp [Nat.min_eq_left (Nat.le_of_lt ho')]
theorem file_Write.not_frozen {W : World} {g cap : Nat} {cur : Array Value} {e : TypeId} {fr : Nat × Nat} (h : W.heap[g]? = some (.cells cur e fr)) (hf : fr = (0, 0) ∨ fr = (cap, cap + 1)) (j : Nat) (hj : j < cap) : W.frozen? ⟨g, j, none⟩ = false := by
  rcases hf with rfl | rfl
  · simp [World.frozen?, h]
  · simp [World.frozen?, h]
    omega
theorem file_Write.Bs.cell {W : World} {g : Nat} {bs : List UInt8} {cur : Array Value} {fr : Nat × Nat} (h : W.heap[g]? = some (.cells cur 5 fr)) (ht : cur.toList.take bs.length = bs.map (fun b => Value.int .u8 (b.toNat : Int))) (j : Nat) (hj : j < bs.length) : W.cell? ⟨g, j, none⟩ = some (.int .u8 ((bs[j]'hj).toNat : Int)) := by
  rw [cell_of_row W g _ cur _ fr h, ← Array.getElem?_toList]
  have := congrArg (fun l : List Value => l[j]?) ht
  simp only [List.getElem?_take, if_pos hj, List.getElem?_map, List.getElem?_eq_getElem hj, Option.map_some] at this
  exact this
theorem file_Write.info5 : (Try.prog.info? 5).map (fun i => (i.zero, i.size, i.bytes)) = some (some (.int .u8 0), 1, 1) := by kernel_rfl
theorem file_Write.Bs.conv (W : World) (s : ByteArray) (hs : s.size < 1099511627776) : ∃ v W', (convert 9 74 (.string s)).run Try.prog W = .ok v W' ∧ file_Write.Bs W' W.heap.size v s.data.toList ∧ Below W.heap.size W W' := by
  have hr := run_bytes_of_string (P := Try.prog) W 9 74 5 s Try.underlying9 Try.underlying74 Try.underlying5
  have hge := grownCap_ge W s.size 0 5
  have hle := grownCap_le_maxLen W s.size 0 5 (by unfold maxLen; omega)
  have hsz : (bytesRow s (grownCap W s.size 0 5)).size = grownCap W s.size 0 5 := by
    have e : s.data.size = s.size := rfl
    simp [bytesRow, e]
    omega
  refine ⟨_, _, hr, ⟨W.heap.size, grownCap W s.size 0 5, _, _, by rw [Lib.size_eq], Nat.le_refl _, blk_new W.drew _, by rw [← Lib.size_eq]; exact hge, by unfold maxLen at hle; omega, hsz, ?_, .inr (by rw [hsz])⟩, below_alloc (below_drew1 (Below.refl _ _)) _⟩
  rw [bytesRow, Array.toList_append, List.take_append_of_le_length (by simp), List.take_of_length_le (by simp)]
  simp
theorem file_Write.Bs.push (W : World) (B : Nat) (v : Value) (bs : List UInt8) (h : file_Write.Bs W B v bs) (hB : B ≤ W.heap.size) (hl : bs.length < 1099511627776) (ty : TypeId) :
    ∃ v' W', (Builtin.append_ #[74, 74] ty #[v, .slice (some ⟨W.heap.size, 0, none⟩) 1 1]).run Try.prog (W.alloc (.cells #[.int .u8 0] 5)) = .ok v' W' ∧ file_Write.Bs W' B v' (bs ++ [0]) ∧ Below B W W' := by
  obtain ⟨g, cap, cur, fr, rfl, hg, hh, hn, hc, hs, ht, hf⟩ := h
  obtain ⟨i0, hi0, hz0, hzs, hzb⟩ := info_parts file_Write.info5
  have hgl : g < W.heap.size := (Array.getElem?_eq_some_iff.1 hh).1
  have hnew : (W.alloc (.cells #[.int .u8 0] 5)).heap[W.heap.size]? = some (.cells #[.int .u8 0] 5 (0, 0)) := blk_new W _
  have hh2 : (W.alloc (.cells #[.int .u8 0] 5)).heap[g]? = some (.cells cur 5 fr) := ((below_alloc (Below.refl W.heap.size W) _).block g hgl).trans hh
  have hcl : (bs.map (fun b => Value.int .u8 (b.toNat : Int))).length = bs.length := List.length_map _
  have hnews : ∀ j u, ([.int .u8 0] : List Value)[j]? = some u → (W.alloc (.cells #[.int .u8 0] 5)).cell? ((⟨W.heap.size, 0, none⟩ : Addr).add j) = some u := fun j u hj => by
    rw [add_plain, blk_cell hnew]
    simpa using hj
  by_cases hroom : bs.length + 1 ≤ cap
  · have hr := run_append_room_cells (P := Try.prog) (W.alloc (.cells #[.int .u8 0] 5)) 74 ty 5 i0 Try.underlying74 hi0 g 0 bs.length cap ⟨W.heap.size, 0, none⟩ 1 1 [.int .u8 0] (by rw [hzs]; rfl) hnews (by simp [Value.oneCell']) hroom
      (fun j hj => by
        have hj0 : j = 0 := by simpa using hj
        subst hj0
        rw [cell_of_row _ g _ cur _ fr hh2]
        rw [hzs]
        simp; omega)
      (fun j hj => by
        have hj0 : j = 0 := by simpa using hj
        subst hj0
        exact file_Write.not_frozen hh2 hf _ (by rw [hzs]; omega))
    obtain ⟨cur', h1, h2, h3⟩ := file_Write.setCells_fr [.int .u8 0] (0 + bs.length * i0.size) _ cur hh2 (by rw [hzs]; simp; omega)
    refine ⟨_, _, hr, ⟨g, cap, cur', fr, by simp, hg, h1, by simpa using hroom, hc, by rw [h2]; exact hs, ?_, hf⟩, Kd.below_setCells ((Below.refl B W).alloc hB _) hg⟩
    rw [h3, hzs, Nat.zero_add, Nat.mul_one, ht, List.length_append, List.map_append, List.take_append_of_le_length (by simp), List.take_of_length_le (by simp)]
    rfl
  · have hr := run_append_grow (P := Try.prog) (W.alloc (.cells #[.int .u8 0] 5)) 74 ty 5 i0 (.int .u8 0) Try.underlying74 hi0 hz0 ⟨g, 0, none⟩ bs.length cap (bs.map (fun b => Value.int .u8 (b.toNat : Int))) (by rw [hzs, hcl, Nat.mul_one])
      (fun j u hj => by
        have hjl : j < bs.length := by rw [← hcl]; exact (List.getElem?_eq_some_iff.1 hj).1
        rw [add_plain, file_Write.Bs.cell hh2 ht j hjl]
        simpa [List.getElem?_eq_getElem hjl] using hj)
      ⟨W.heap.size, 0, none⟩ 1 1 [.int .u8 0] (by rw [hzs]; rfl) hnews (by omega) (by omega) (by
        exact growslice_fits (need := bs.length + 1) (old := cap) (bytes := i0.bytes) (by omega) (by rw [hzb]; omega))
    have hge := grownCap_ge (W.alloc (.cells #[.int .u8 0] 5)) (bs.length + 1) cap 5
    have hle := grownCap_le_maxLen (W.alloc (.cells #[.int .u8 0] 5)) (bs.length + 1) cap 5 (by unfold maxLen; omega)
    generalize grownCap (W.alloc (.cells #[.int .u8 0] 5)) (bs.length + 1) cap 5 = G at *
    have hsz : ((bs.map (fun b => Value.int .u8 (b.toNat : Int))).toArray ++ [Value.int .u8 0].toArray ++ Builtin.zeroCells (Value.int .u8 0).cells (G - (bs.length + 1))).size = G := by
      rw [Array.size_append, Array.size_append, size_zeroCells]
      simp [Value.cells]
      omega
    refine ⟨_, _, hr, ⟨(W.alloc (.cells #[.int .u8 0] 5)).heap.size, G, _, (0, 0), by simp, Nat.le_trans hB (by simp), blk_new _ _, by simpa using hge, by unfold maxLen at hle; omega, hsz, ?_, .inl rfl⟩, (Below.trans ((Below.refl B W).alloc hB _) ((below_drew1 (Below.refl _ _)).alloc (Nat.le_trans hB (by simp)) _))⟩
    rw [Array.toList_append, Array.toList_append, List.length_append, List.take_append_of_le_length (by simp), List.take_of_length_le (by simp)]
    simp
theorem file_Write.Bs.copy (W : World) (B : Nat) (bs : List UInt8) (g cap : Nat) (h : file_Write.Bs W B (.slice (some ⟨g, 0, none⟩) bs.length cap) bs) (d : ByteArray) (at_ : Nat) (hat : at_ + d.size ≤ bs.length) (ty : TypeId) (dc : Nat) :
    (Builtin.copy_ #[74, 9] ty #[.slice (some ⟨g, at_, none⟩) (bs.length - at_) dc, .string d]).run Try.prog W = .ok (goInt d.size) (W.setCells g at_ (d.data.toList.map fun x => Value.int .u8 (x.toNat : Int))) ∧
      file_Write.Bs (W.setCells g at_ (d.data.toList.map fun x => Value.int .u8 (x.toNat : Int))) B (.slice (some ⟨g, 0, none⟩) bs.length cap) (bs.take at_ ++ d.data.toList ++ bs.drop (at_ + d.size)) ∧ Below B W (W.setCells g at_ (d.data.toList.map fun x => Value.int .u8 (x.toNat : Int))) := by
  obtain ⟨g', cap', cur, fr, hv, hg, hh, hn, hc, hs', ht, hf⟩ := h
  injection hv with h1 h2 h3
  injection h1 with h1
  injection h1 with h1
  subst h1 h3
  have hdl : d.data.toList.length = d.size := (Lib.size_eq d).symm
  have hcl : cur.toList.length = cap := by rw [Array.length_toList]; exact hs'
  obtain ⟨cur', k1, k2, k3⟩ := file_Write.setCells_fr (d.data.toList.map fun x => Value.int .u8 (x.toNat : Int)) at_ W cur hh (by rw [List.length_map, hdl]; omega)
  refine ⟨run_copy_string W _ _ ty 5 g at_ (bs.length - at_) dc d Try.underlying74 Try.sizeOf5 (by omega) (fun j hj => by rw [cell_of_row W g _ cur _ fr hh]; simp; omega) (fun j hj => file_Write.not_frozen hh hf _ (by omega)), ?_, Kd.below_setCells (Below.refl B W) hg⟩
  have hlen : (bs.take at_ ++ d.data.toList ++ bs.drop (at_ + d.size)).length = bs.length := by
    rw [List.length_append, List.length_append, List.length_take, List.length_drop, hdl]
    omega
  refine ⟨g, cap, cur', fr, by rw [hlen], hg, k1, by rw [hlen]; exact hn, hc, by rw [k2]; exact hs', ?_, hf⟩
  rw [hlen, k3, List.length_map, hdl, List.map_append, List.map_append, List.map_take, List.map_drop, ← ht, List.take_take, Nat.min_eq_left (by omega)]
  rw [List.take_append, List.take_of_length_le (by simp only [List.length_append, List.length_take, List.length_map, hdl, hcl]; omega)]
  congr 1
  rw [List.length_append, List.length_take, List.length_map, hdl, hcl, Nat.min_eq_left (by omega), List.drop_take]
theorem file_Write.Bs.str (W : World) (B : Nat) (v : Value) (bs : List UInt8) (h : file_Write.Bs W B v bs) : (convert 74 9 v).run Try.prog W = .ok (.string ⟨bs.toArray⟩) W := by
  obtain ⟨g, cap, cur, fr, rfl, hg, hh, hn, hc, hs', ht, hf⟩ := h
  exact run_convert_bytes_back W 74 9 5 ⟨g, 0, none⟩ cap bs Try.underlying74 Try.underlying5 Try.underlying9 (fun j hj => by rw [add_plain]; exact file_Write.Bs.cell hh ht j hj)
/-- A text into which another one is written at a place. -/
def file_Write.fill (l : List UInt8) (n : Nat) : List UInt8 := l ++ List.replicate (n - l.length) 0
def file_Write.over (l d : List UInt8) (n : Nat) : List UInt8 := (file_Write.fill l (n + d.length)).take n ++ d ++ (file_Write.fill l (n + d.length)).drop (n + d.length)
theorem file_Write.Bs.lower {W : World} {B B' : Nat} {v : Value} {bs : List UInt8} (h : file_Write.Bs W B v bs) (hb : B' ≤ B) : file_Write.Bs W B' v bs := by
  obtain ⟨g, cap, cur, fr, hv, hg, h⟩ := h
  exact ⟨g, cap, cur, fr, hv, Nat.le_trans hb hg, h⟩
def file_Write.f (l0 : List S55) (a1 : ByteArray) (a2 : Int) (a3 : ByteArray) : Option (List S55 × Int) := (file_Get.f l0 a1).bind fun g => if g.2 = true then (if 0 ≤ a2 then (if a2 > 4000 then some ([], 3) else if a3.size < 4611686018427387904 then (if a2 + (a3.size : Int) > 4000 then some ([], 3) else if g.1.size < 549755813888 then file_Put.f l0 a1 ⟨(file_Write.over g.1.data.toList a3.data.toList a2.toNat).toArray⟩ else none) else none) else some ([], 1)) else some ([], 1)
set_option maxHeartbeats 8000000 in
set_option maxRecDepth 100000 in
theorem file_Write.calls (A0 : Option Addr) (c0 : Nat) (l0 : List S55) (a1 : ByteArray) (a2 : Int) (a3 : ByteArray) (r1 : List S55) (r2 : Int) (w : World) (hr0 : Kd.C k55 w A0 l0.length l0) (hc0 : l0.length ≤ c0) (h : file_Write.f l0 a1 a2 a3 = some (r1, r2)) :
    Calls Try.prog 25 #[.slice A0 l0.length c0, .string a1, .int .i64 a2, .string a3] w fun e w' => ∃ v0_ : Value, e = .returned (.tuple #[v0_, .int .i64 r2]) ∧ Kd.R k55 55 w' w.heap.size (fun _ => True) v0_ r1 ∧ Below w.heap.size w w' := by
  unfold file_Write.f at h
  obtain ⟨⟨old, ok⟩, hg, h⟩ := Option.bind_eq_some_iff.1 h
  have HG := Aside0.mk hg
  have HR := Aside0.mk hr0
  have HC := Aside0.mk hc0
  clear hg hr0 hc0
  simp only at h
  cases ok with
  | false =>
    rw [if_neg (by simp)] at h
    injection h with h
    injection h with h1 h2
    subst h1 h2
    go_enter Try.func25, Try.ntmps25
    go_wp2_with (go_at_call 15; go_must ((with_reducible refine (file_Get.calls A0 c0 l0 a1 old false _ HR.out HC.out HG.out).mono ?_); rintro e w1 ⟨rfl, hb⟩; have HB := Aside0.mk hb; clear hb))
    go_ret2
    exact ⟨_, rfl, Kd.R_nil _ _ _ _ _, HB.out⟩
  | true =>
    rw [if_pos rfl] at h
    by_cases c2 : 0 ≤ a2
    · rw [if_pos c2] at h
      obtain ⟨m, rfl⟩ : ∃ m : Nat, a2 = (m : Int) := ⟨a2.toNat, by omega⟩
      have hn0 : ¬ ((m : Int) < 0) := by omega
      have hn0d : decide ((m : Int) < 0) = false := decide_eq_false hn0
      by_cases c3 : (m : Int) > 4000
      · rw [if_pos c3] at h
        injection h with h
        injection h with h1 h2
        subst h1 h2
        have hd3 : decide ((m : Int) > 4000) = true := decide_eq_true c3
        have hd3' : decide ((4000 : Int) < (m : Int)) = true := decide_eq_true c3
        clear c2 c3
        go_enter Try.func25, Try.ntmps25
        go_wp2_with (go_at_call 15; go_must ((with_reducible refine (file_Get.calls A0 c0 l0 a1 old true _ HR.out HC.out HG.out).mono ?_); rintro e w1 ⟨rfl, hb⟩; have HB := Aside0.mk hb; clear hb))
        go_ret2
        exact ⟨_, rfl, Kd.R_nil _ _ _ _ _, HB.out⟩
      · rw [if_neg c3] at h
        have hd3 : decide ((m : Int) > 4000) = false := decide_eq_false c3
        have hd3' : decide ((4000 : Int) < (m : Int)) = false := decide_eq_false c3
        by_cases c4 : a3.size < 4611686018427387904
        · rw [if_pos c4] at h
          have hwr : IntKind.i64.wrap ((m : Int) + (a3.size : Int)) = (m : Int) + (a3.size : Int) := by rw [IntKind.wrap_i64]; omega
          by_cases c5 : (m : Int) + (a3.size : Int) > 4000
          · rw [if_pos c5] at h
            injection h with h
            injection h with h1 h2
            subst h1 h2
            have hd5 : decide ((m : Int) + (a3.size : Int) > 4000) = true := decide_eq_true c5
            have hd5' : decide ((4000 : Int) < (m : Int) + (a3.size : Int)) = true := decide_eq_true c5
            clear c2 c3 c4 c5
            go_enter Try.func25, Try.ntmps25
            go_wp2_with (go_at_call 15; go_must ((with_reducible refine (file_Get.calls A0 c0 l0 a1 old true _ HR.out HC.out HG.out).mono ?_); rintro e w1 ⟨rfl, hb⟩; have HB := Aside0.mk hb; clear hb))
            go_ret2
            exact ⟨_, rfl, Kd.R_nil _ _ _ _ _, HB.out⟩
          · rw [if_neg c5] at h
            have hd5 : decide ((m : Int) + (a3.size : Int) > 4000) = false := decide_eq_false c5
            have hd5' : decide ((4000 : Int) < (m : Int) + (a3.size : Int)) = false := decide_eq_false c5
            by_cases c6 : old.size < 549755813888
            · rw [if_pos c6] at h
              have HP := Aside0.mk h
              have HOLD : Aside0 (old.size < 1099511627776) := ⟨by omega⟩
              have HNUM : Aside0 (m + a3.size ≤ 4000 ∧ old.size < 549755813888) := ⟨by omega⟩
              clear h c2 c3 c4 c5 c6
              obtain ⟨D, hD⟩ : ∃ D, D = m + a3.size - old.size := ⟨_, rfl⟩
              have HD := Aside0.mk hD
              clear hD
              go_enter Try.func25, Try.ntmps25
              go_wp2_with (go_at_call 15; go_must ((with_reducible refine (file_Get.calls A0 c0 l0 a1 old true _ HR.out HC.out HG.out).mono ?_); rintro e w1 ⟨rfl, hb⟩; obtain ⟨v1, W1, hcv, hbs, hbw⟩ := file_Write.Bs.conv w1 old HOLD.out; have HBS := Aside0.mk (file_Write.Bs.lower hbs (below_size hb)); have HB := Aside0.mk (below_step hb hbw); clear hb hbs hbw))
              go_loopg [12] D (fun g v12 wr => ∃ (bs : List UInt8) (gb cap z : Nat), v12 = .slice (some ⟨gb, 0, none⟩) bs.length cap ∧ Aside0 (z + g = D ∧ bs = old.data.toList ++ List.replicate z 0) ∧ Aside0 (file_Write.Bs wr w.heap.size v12 bs) ∧ Aside0 (Below w.heap.size w wr))
              case atStart =>
                have hb2 := HBS.out
                obtain ⟨gb, cap, cur, fr, hv, -⟩ := HBS.out
                exact ⟨_, gb, cap, 0, hv, ⟨by omega, by simp⟩, ⟨hb2⟩, HB⟩
              case round =>
                clear HBS HB
                obtain ⟨bs, gb, cap, z, rfl, HZ, HBS, HB⟩ := hrel
                have hbl : bs.length = old.size + z := by rw [HZ.out.2, List.length_append, List.length_replicate, ← Lib.size_eq]
                have hD := HD.out
                have hz := HZ.out.1
                have hnum := HNUM.out
                match gk, hz, HZ with
                | 0, hz, HZ =>
                  have hdl : decide ((bs.length : Int) < (m : Int) + (a3.size : Int)) = false := decide_eq_false (by omega)
                  have hm0 : (0 : Int) ≤ (m : Int) := by omega
                  have hml : (m : Int) ≤ (bs.length : Int) := by omega
                  have hml' : m ≤ bs.length := by omega
                  obtain ⟨g2, cap2, cur2, fr2, hv2, hgB, hh2, hnc, -⟩ := HBS.out
                  injection hv2 with e1 e2 e3
                  injection e1 with e1
                  injection e1 with e1
                  subst e1 e3
                  have hov : file_Write.over old.data.toList a3.data.toList m = bs.take m ++ a3.data.toList ++ bs.drop (m + a3.size) := by
                    have hfl : file_Write.fill old.data.toList (m + a3.data.toList.length) = bs := by
                      rw [file_Write.fill, HZ.out.2, ← Lib.size_eq, ← Lib.size_eq]
                      congr 2
                      omega
                    rw [file_Write.over, hfl, ← Lib.size_eq a3]
                  have HP2 := HP
                  rw [Int.toNat_natCast, hov] at HP2
                  have hic : m ≤ cap := by omega
                  have hcm : (m : Int) ≤ (cap : Int) := by omega
                  have hnn : ((bs.length : Int) ≤ (cap : Int)) := by omega
                  by_cases hce : cap = m
                  · have h30 : a3.size = 0 := by omega
                    have hbm : bs.length = m := by omega
                    have hnil : a3.data.toList = [] := List.eq_nil_of_length_eq_zero (by rw [← Lib.size_eq]; exact h30)
                    have hcp := run_copy_string (P := Try.prog) wr 74 9 3 5 gb 0 0 0 a3 Try.underlying74 Try.sizeOf5 (by omega) (fun j hj => by omega) (fun j hj => by omega)
                    have hsc : wr.setCells gb 0 (a3.data.toList.map fun x => Value.int .u8 (x.toNat : Int)) = wr := by rw [hnil]; rfl
                    rw [hsc] at hcp
                    have hall : bs.take m ++ a3.data.toList ++ bs.drop (m + a3.size) = bs := by
                      rw [hnil, h30, ← hbm]
                      simp
                    rw [hall] at HP2
                    have hstr := file_Write.Bs.str wr w.heap.size _ _ HBS.out
                    obtain ⟨whole, hwh⟩ : ∃ whole : ByteArray, whole = ⟨bs.toArray⟩ := ⟨_, rfl⟩
                    rw [← hwh] at hstr HP2
                    clear hbl hD hz hnum hov hh2 hgB hwh hsc hall hnil
                    subst hce
                    have hsub : bs.length - cap = 0 := by omega
                    clear hbm h30
                    go_wp2_with (first
                      | ((with_reducible refine gate_builtin (b := .copy) (xs := #[.tmp 48, .tmp 49]) rfl ?_); at_builtin; refine Kd.wpList_copy_run _ rfl _ _ 74 9 rfl _ _ rfl rfl hcp ?_)
                      | (go_at_call 16; go_must ((with_reducible refine (file_Put.calls A0 c0 l0 a1 _ r1 r2 _ ?s1 ?s2 HP2.out).mono ?_); (case s1 => exact Kd.C_below HR.out HB.out); (case s2 => exact HC.out); rintro e w5 ⟨v5, rfl, ho, hb⟩; have HO5 := Aside0.mk (Kd.R_lower ho (below_size HB.out)); have HB5 := Aside0.mk (below_step HB.out hb); clear ho hb)))
                    go_ret2
                    exact ⟨_, rfl, HO5.out, HB5.out⟩
                  · obtain ⟨hcp, hbs2, hbw2⟩ := file_Write.Bs.copy wr w.heap.size bs gb cap HBS.out a3 m (by omega) 3 (cap - m)
                    obtain ⟨W2, hW2⟩ : ∃ W2, W2 = wr.setCells gb m (a3.data.toList.map fun x => Value.int .u8 (x.toNat : Int)) := ⟨_, rfl⟩
                    rw [← hW2] at hcp hbs2 hbw2
                    have hstr := file_Write.Bs.str W2 w.heap.size _ _ hbs2
                    have hln : (bs.take m ++ a3.data.toList ++ bs.drop (m + a3.size)).length = bs.length := by
                      rw [List.length_append, List.length_append, List.length_take, List.length_drop, ← Lib.size_eq]
                      omega
                    have HB2 := Aside0.mk (HB.out.trans hbw2)
                    obtain ⟨whole, hwh⟩ : ∃ whole : ByteArray, whole = ⟨(bs.take m ++ a3.data.toList ++ bs.drop (m + a3.size)).toArray⟩ := ⟨_, rfl⟩
                    rw [← hwh] at hstr HP2
                    clear hbl hD hz hnum hW2 hbs2 hbw2 hov hh2 hgB hwh
                    go_wp2_with (first
                      | ((with_reducible refine gate_builtin (b := .copy) (xs := #[.tmp 48, .tmp 49]) rfl ?_); at_builtin; refine Kd.wpList_copy_run _ rfl _ _ 74 9 rfl _ _ rfl rfl hcp ?_)
                      | (go_at_call 16; go_must ((with_reducible refine (file_Put.calls A0 c0 l0 a1 _ r1 r2 _ ?s1 ?s2 HP2.out).mono ?_); (case s1 => exact Kd.C_below HR.out HB2.out); (case s2 => exact HC.out); rintro e w5 ⟨v5, rfl, ho, hb⟩; have HO5 := Aside0.mk (Kd.R_lower ho (below_size HB2.out)); have HB5 := Aside0.mk (below_step HB2.out hb); clear ho hb)))
                    go_ret2
                    exact ⟨_, rfl, HO5.out, HB5.out⟩
                | g + 1, hz, HZ =>
                  have hdl : decide ((bs.length : Int) < (m : Int) + (a3.size : Int)) = true := decide_eq_true (by omega)
                  obtain ⟨v', W', hrun, hbs', hbw'⟩ := file_Write.Bs.push wr w.heap.size _ bs HBS.out (below_size HB.out) (by omega) 74
                  have hbs2 := hbs'
                  obtain ⟨gb', cap', cur', fr', hv', -⟩ := hbs'
                  subst hv'
                  have HBS2 := Aside0.mk hbs2
                  have HB2 := Aside0.mk (HB.out.trans hbw')
                  have HZ2 : Aside0 (z + 1 + g = D ∧ bs ++ [0] = old.data.toList ++ List.replicate (z + 1) 0) := ⟨by omega, by rw [HZ.out.2, List.append_assoc, List.replicate_succ']⟩
                  clear hbl hD hz hnum hbs2 hbw' HZ
                  go_wp2_with ((with_reducible refine gate_builtin (b := .append) (xs := #[.tmp 43, .tmp 44]) rfl ?_); at_builtin; refine Lib.wpList_append_run _ rfl _ _ _ _ rfl _ _ rfl rfl _ _ hrun ?_)
                  go_roundg g
                  case measure => omega
                  case rel => exact ⟨bs ++ [0], gb', cap', z + 1, by simp, HZ2, by rw [show bs.length + 1 = (bs ++ [0]).length by simp]; exact HBS2, HB2⟩
            · rw [if_neg c6] at h; cases h
        · rw [if_neg c4] at h; cases h
    · rw [if_neg c2] at h
      injection h with h
      injection h with h1 h2
      subst h1 h2
      have hd0 : decide (a2 < 0) = true := decide_eq_true (by omega)
      clear c2
      go_enter Try.func25, Try.ntmps25
      go_wp2_with (go_at_call 15; go_must ((with_reducible refine (file_Get.calls A0 c0 l0 a1 old true _ HR.out HC.out HG.out).mono ?_); rintro e w1 ⟨rfl, hb⟩; have HB := Aside0.mk hb; clear hb))
      go_ret2
      exact ⟨_, rfl, Kd.R_nil _ _ _ _ _, HB.out⟩


-- NOT PRINTED: function 17 (port_write)

/-! ### port_puts: function 18 -/
def port_puts.f (a0 : ByteArray) (a1 : ByteArray) : Option (ByteArray × Bool) := if a0.size + a1.size ≤ 9223372036854775807 then (some (a0 ++ a1, decide ((wrap64 ((a0.size : Int) + (a1.size : Int))) ≤ 4000))) else (none)
set_option maxHeartbeats 8000000 in
set_option maxRecDepth 100000 in
theorem port_puts.calls (a0 : ByteArray) (a1 : ByteArray) (r1 : ByteArray) (r2 : Bool) (w : World) (h : port_puts.f a0 a1 = some (r1, r2)) :
    Calls Try.prog 18 #[.string a0, .string a1] w fun e w' => e = .returned (.tuple #[.string r1, .bool r2]) ∧ Drawn0 w w' := by
  have H : (if a0.size + a1.size ≤ 9223372036854775807 then (some (a0 ++ a1, decide ((wrap64 ((a0.size : Int) + (a1.size : Int))) ≤ 4000))) else (none)) = some (r1, r2) := h
  clear h
  by_cases c3 : a0.size + a1.size ≤ 9223372036854775807
  · rw [if_pos c3] at H
    have c3b0 := eq_true c3
    have c3b1 : decide (a0.size + a1.size ≤ 9223372036854775807) = true := decide_eq_true c3
    try have c3b2 : (9223372036854775807 < a0.size + a1.size) = False := eq_false (Nat.not_lt.2 c3)
    try (have c3b9 := c3; rw [ByteArray.size_append] at c3b9; replace c3b9 := eq_false (Nat.not_lt.2 c3b9))
    simp only [Option.some.injEq, Prod.mk.injEq] at H
    obtain ⟨rfl, rfl⟩ := H
    go_enter Try.func18, Try.ntmps18
    go_wp2
    go_ret2
    exact ⟨by first | rfl | (simp; done) | (simp [*]; done) | (simp; unfold wrap64; omega) | (simp; generalize ByteArray.toList _ = l_; cases l_ <;> simp), by repeat (first | exact Drawn0.refl _ | apply Drawn0.step)⟩
  · rw [if_neg c3] at H
    exact absurd H (by simp)

-- NOT PRINTED: function 8 (port_Write)

/-! ### lazarusref17_Get: function 9 -/
def lazarusref17_Get.f (k : Nat) (l0 : List (S55)) (a1 : ByteArray) : Option (ByteArray × Bool) := (lazarusref17_Find.f k l0 a1).bind fun t159 => (if t159 < 0 then (some ((⟨#[]⟩ : ByteArray), false)) else (if 0 ≤ t159 then (if t159 < (l0.length : Int) then (some ((rd_T55 l0 t159).f1, true)) else (none)) else (none)))
theorem lazarusref17_Get.mono : ∀ a0 a1 k, LeO (lazarusref17_Get.f k a0 a1) (lazarusref17_Get.f (k + 1) a0 a1) := by
  intro a0 a1 k
  unfold lazarusref17_Get.f
  repeat' first
      | (with_reducible exact lazarusref17_Find.mono _ _ _)
      | (with_reducible exact LeO.refl _)
      | (with_reducible exact LeO.none _)
      | (with_reducible refine LeO.ite ?_ ?_)
      | (with_reducible refine LeO.bind ?_ (fun _ => ?_))
      | exact lazarusref17_Find.mono _ _ _
      | exact LeO.none _
      | refine LeO.ite ?_ ?_
      | refine LeO.bind ?_ (fun _ => ?_)
set_option maxHeartbeats 8000000 in
set_option maxRecDepth 100000 in
theorem lazarusref17_Get.calls (k : Nat) (A0 : Option Addr) (c0 : Nat) (l0 : List (S55)) (a1 : ByteArray) (r1 : ByteArray) (r2 : Bool) (w : World) (hr0 : Kd.C k55 w A0 l0.length l0) (hc0 : l0.length ≤ c0) (h : lazarusref17_Get.f k l0 a1 = some (r1, r2)) :
    Calls Try.prog 9 #[.slice A0 l0.length c0, .string a1] w fun e w' => e = .returned (.tuple #[.string r1, .bool r2]) ∧ Drawn0 w w' := by
  have HR0 := Aside0.mk hr0
  have HC0 := Aside0.mk hc0
  clear hr0 hc0
  have H : ((lazarusref17_Find.f k l0 a1).bind fun t159 => (if t159 < 0 then (some ((⟨#[]⟩ : ByteArray), false)) else (if 0 ≤ t159 then (if t159 < (l0.length : Int) then (some ((rd_T55 l0 t159).f1, true)) else (none)) else (none)))) = some (r1, r2) := h
  clear h
  replace H := Option.bind_eq_some_iff.mp H
  obtain ⟨t159, A30, H⟩ := H
  replace H : (if t159 < 0 then (some ((⟨#[]⟩ : ByteArray), false)) else (if 0 ≤ t159 then (if t159 < (l0.length : Int) then (some ((rd_T55 l0 t159).f1, true)) else (none)) else (none))) = some (r1, r2) := H
  have A3 := Aside0.mk A30
  clear A30
  by_cases c4 : t159 < 0
  · rw [if_pos c4] at H
    have c4b0 : decide (t159 < 0) = true := decide_eq_true c4
    clear c4
    simp only [Option.some.injEq, Prod.mk.injEq] at H
    obtain ⟨rfl, rfl⟩ := H
    go_enter Try.func9, Try.ntmps9
    go_wp2_with (first | ((with_reducible refine gate_callee (f := 14) rfl ?_); refine goesL_ (some 9) rfl rfl Try.func14 (by kernel_rfl) rfl #[.slice A0 l0.length c0, .string a1] rfl (by (try simp only [List.map_toArray, List.map_cons, List.map_nil]); first | done | rfl | (simp only [List.length_drop, List.length_take]; rfl)) ?_; (with_reducible refine (lazarusref17_Find.calls k _ _ l0 a1 t159 _ ?side1 ?side2 A3.out).mono ?_); (case side1 => repeat (first | exact HR0.out | (with_reducible refine Kd.C_alloc ?_ _) | (with_reducible refine Kd.C_drewN ?_ _) | (with_reducible refine Kd.C_drew ?_))); (case side2 => exact HC0.out); rintro e w' ⟨rfl, ⟨nd, rfl⟩⟩; refine ⟨_, rfl, ?_⟩))
    go_ret2
    exact ⟨by first | rfl | (simp; done) | (simp [*]; done) | (simp; unfold wrap64; omega) | (simp; generalize ByteArray.toList _ = l_; cases l_ <;> simp), by repeat (first | exact Drawn0.refl _ | apply Drawn0.step)⟩
  · rw [if_neg c4] at H
    have c4b0 : decide (t159 < 0) = false := decide_eq_false c4
    clear c4
    by_cases c5 : 0 ≤ t159
    · rw [if_pos c5] at H
      have c5b0 : decide (0 ≤ t159) = true := decide_eq_true c5
      clear c5
      by_cases c6 : t159 < (l0.length : Int)
      · rw [if_pos c6] at H
        have c6b0 : decide (t159 < (l0.length : Int)) = true := decide_eq_true c6
        clear c6
        simp only [Option.some.injEq, Prod.mk.injEq] at H
        obtain ⟨rfl, rfl⟩ := H
        go_enter Try.func9, Try.ntmps9
        go_wp2_with (first | ((with_reducible refine gate_callee (f := 14) rfl ?_); refine goesL_ (some 9) rfl rfl Try.func14 (by kernel_rfl) rfl #[.slice A0 l0.length c0, .string a1] rfl (by (try simp only [List.map_toArray, List.map_cons, List.map_nil]); first | done | rfl | (simp only [List.length_drop, List.length_take]; rfl)) ?_; (with_reducible refine (lazarusref17_Find.calls k _ _ l0 a1 t159 _ ?side1 ?side2 A3.out).mono ?_); (case side1 => repeat (first | exact HR0.out | (with_reducible refine Kd.C_alloc ?_ _) | (with_reducible refine Kd.C_drewN ?_ _) | (with_reducible refine Kd.C_drew ?_))); (case side2 => exact HC0.out); rintro e w' ⟨rfl, ⟨nd, rfl⟩⟩; refine ⟨_, rfl, ?_⟩; have p160 : 0 ≤ (t159 : Int) := of_decide_eq_true (by first | (with_reducible assumption) | assumption); have q160 : t159 < (l0.length : Int) := of_decide_eq_true (by first | (with_reducible assumption) | assumption); obtain ⟨ad160, e160, hx160_0, hx160_1⟩ := at_T55 HR0.out t159 p160 q160; cases e160; replace p160 := eq_true p160; replace q160 := eq_true q160))
        go_ret2
        exact ⟨by first | rfl | (simp; done) | (simp [*]; done) | (simp; unfold wrap64; omega) | (simp; generalize ByteArray.toList _ = l_; cases l_ <;> simp), by repeat (first | exact Drawn0.refl _ | apply Drawn0.step)⟩
      · rw [if_neg c6] at H
        exact absurd H (by simp)
    · rw [if_neg c5] at H
      exact absurd H (by simp)

-- NOT PRINTED: function 10 (lazaruslaw18_known)

-- NOT PRINTED: function 3 (lazaruslaw18_PortAppends)

end Go.Proofs.Ytikninibkljnnaa.QPortAppends
