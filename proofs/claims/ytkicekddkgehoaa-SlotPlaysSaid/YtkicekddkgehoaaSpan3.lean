/- Contracts of the calls, by hand. -/
import Derived.Test.YtkicekddkgehoaaQSlotLastx1
import Derived.Test.YtkicekddkgehoaaSpan2
namespace Go.Proofs.Ytkicekddkgehoaa.Hnd
open Go.RowKit Go.Proofs.Ytkicekddkgehoaa.QSlotLast Go.Proofs.YtkicekddkgehoaaW.PrintWords Go.Proofs.YtkicekddkgehoaaW.PrintLast Go.Proofs.YtkicekddkgehoaaW.Dk 
set_option linter.unusedVariables false
set_option linter.unusedSimpArgs false
namespace SumP
theorem wf_u8 {x : Int} (h : (Lit.int .u8 x).wf = true) : 0 ≤ x ∧ x ≤ 255 := by
  simpa [Lit.wf, IntKind.min, IntKind.max, IntKind.signed, IntKind.bits] using h
theorem wf_u32 {x : Int} (h : (Lit.int .u32 x).wf = true) : 0 ≤ x ∧ x ≤ 4294967295 := by
  simpa [Lit.wf, IntKind.min, IntKind.max, IntKind.signed, IntKind.bits] using h
theorem wraps_u32 (n : Int) (h₀ : 0 ≤ n) (h₁ : n < 2 ^ 32) : IntKind.u32.wrap n = n := by rw [IntKind.wrap_u32]; omega
theorem u32_or8 (x y : Int) (hx₀ : 0 ≤ x) (hx : x % 256 = 0) (hx₁ : x < 4294967296) (h₀ : 0 ≤ y) (h₁ : y < 256) : bits .or .u32 x y = x + y :=
  bits_join .u32 32 (by decide) wraps_u32 8 x y hx₀ hx hx₁ h₀ h₁ (by omega)
def r1 (x : Int) : Int := Go.bits .xor .u32 (x / 2) ((2197175160 * (Go.bits .and .u32 x 1)) % 4294967296)
def rn : Nat → Int → Int
  | 0, x => x
  | n + 1, x => rn n (r1 x)
def stp (x c : Int) : Int := rn 8 (Go.bits .xor .u32 x (c % 4294967296))
def crc (x : Int) (l : List Int) : Int := l.foldl stp x
theorem getD_lt {α : Type} (l : List α) (i : Nat) (d : α) (h : i < l.length) : l.getD i d = l[i] := by
  rw [List.getD_eq_getElem?_getD, List.getElem?_eq_getElem h]; rfl
theorem w64 {i : Int} (h0 : -9223372036854775808 ≤ i) (h1 : i < 9223372036854775808) : wrap64 i = i := by unfold wrap64; omega

theorem of_l2 {r : Int} (rows : List (List Int)) (n i : Int) (row : List Int) (m j : Int) : ∀ (d : Nat) (x t : Int), 0 ≤ t → t + d = 8 →
    Ev (fun k => sum_Of.l1 k (rn d x) rows n i row m (wrap64 (j + 1))) r → Ev (fun k => sum_Of.l2 k x rows n i row m j t) r
  | 0, x, t, h0, h1, h => Ev.step (fun k => by rw [sum_Of.l2, if_neg (by omega)]; rfl) h
  | d + 1, x, t, h0, h1, h =>
    Ev.step (fun k => by rw [sum_Of.l2, if_pos (by omega), w64 (by omega) (by omega)]; rfl) (of_l2 rows n i row m j d (r1 x) (t + 1) (by omega) (by omega) h)

theorem of_l1 {r : Int} (rows : List (List Int)) (n i : Int) (row : List Int) (hm : (row.length : Int) ≤ 281474976710656) : ∀ (d : Nat) (x j : Int), 0 ≤ j → j + d = row.length →
    Ev (fun k => sum_Of.l0 k (crc x (row.drop j.toNat)) rows n (wrap64 (i + 1))) r → Ev (fun k => sum_Of.l1 k x rows n i row row.length j) r
  | 0, x, j, h0, h1, h => by
    refine Ev.step (fun k => by rw [sum_Of.l1, if_neg (by omega)]) ?_
    rw [List.drop_of_length_le (by omega)] at h
    exact h
  | d + 1, x, j, h0, h1, h => by
    refine Ev.step (fun k => by rw [sum_Of.l1, if_pos (by omega), if_pos h0, if_pos (by omega)]) ?_
    refine of_l2 rows n i row _ j 8 _ 0 (by omega) (by omega) ?_
    rw [w64 (by omega) (by omega)]
    refine of_l1 rows n i row hm d _ (j + 1) (by omega) (by omega) ?_
    have e : row.drop j.toNat = rd row j :: row.drop (j + 1).toNat := by
      have hj : j.toNat < row.length := by omega
      rw [List.drop_eq_getElem_cons hj, rd, getD_lt _ _ _ hj]
      congr 2
      omega
    rw [e] at h
    exact h

theorem of_l0 (rows : List (List Int)) (hn : (rows.length : Int) ≤ 281474976710656) (hr : ∀ row ∈ rows, (row.length : Int) ≤ 281474976710656) : ∀ (d : Nat) (x i : Int), 0 ≤ i → i + d = rows.length →
    Ev (fun k => sum_Of.l0 k x rows rows.length i) (Go.bits .xor .u32 (crc x (rows.drop i.toNat).flatten) 4294967295)
  | 0, x, i, h0, h1 => by
    refine Ev.step (fun k => by rw [sum_Of.l0, if_neg (by omega)]) ?_
    rw [List.drop_of_length_le (by omega)]
    exact Ev.now _
  | d + 1, x, i, h0, h1 => by
    have hj : i.toNat < rows.length := by omega
    have e : rows.drop i.toNat = rd_L3 rows i :: rows.drop (i + 1).toNat := by
      rw [List.drop_eq_getElem_cons hj, rd_L3, getD_lt _ _ _ hj]
      congr 2
      omega
    have hmem : rd_L3 rows i ∈ rows := by rw [rd_L3, getD_lt _ _ _ hj]; exact List.getElem_mem hj
    refine Ev.step (fun k => by rw [sum_Of.l0, if_pos (by omega), if_pos h0, if_pos (by omega)]) ?_
    refine of_l1 rows _ i _ (hr _ hmem) (rd_L3 rows i).length x 0 (by omega) (by omega) ?_
    rw [w64 (by omega) (by omega)]
    have h := of_l0 rows hn hr d (crc x (rd_L3 rows i)) (i + 1) (by omega) (by omega)
    have e2 : crc x (rows.drop i.toNat).flatten = crc (crc x (rd_L3 rows i)) (rows.drop (i + 1).toNat).flatten := by
      rw [e, List.flatten_cons, crc, List.foldl_append]; rfl
    rw [e2]
    exact h

theorem of_ev (rows : List (List Int)) (hn : (rows.length : Int) ≤ 281474976710656) (hr : ∀ row ∈ rows, (row.length : Int) ≤ 281474976710656) :
    Ev (fun k => sum_Of.f k rows) (Go.bits .xor .u32 (crc 4294967295 rows.flatten) 4294967295) := by
  have h := of_l0 rows hn hr rows.length 4294967295 0 (by omega) (by omega)
  exact h
theorem get4 (a b c d : Int) (ha : 0 ≤ a ∧ a ≤ 255) (hb : 0 ≤ b ∧ b ≤ 255) (hc : 0 ≤ c ∧ c ≤ 255) (hd : 0 ≤ d ∧ d ≤ 255) (r : List Int) :
    sum_Get.f 200 (a :: b :: c :: d :: r) = some (a * 16777216 + b * 65536 + c * 256 + d) := by
  have e1 : bits .or .u32 0 (a % 4294967296) = a := by
    have := u32_or8 0 a (by omega) (by omega) (by omega) (by omega) (by omega)
    rw [show a % 4294967296 = a by omega, this]; omega
  have e2 : bits .or .u32 ((a * 256) % 4294967296) (b % 4294967296) = a * 256 + b := by
    rw [u32_or8 _ _ (by omega) (by omega) (by omega) (by omega) (by omega)]; omega
  have e3 : bits .or .u32 (((a * 256 + b) * 256) % 4294967296) (c % 4294967296) = (a * 256 + b) * 256 + c := by
    rw [u32_or8 _ _ (by omega) (by omega) (by omega) (by omega) (by omega)]; omega
  have e4 : bits .or .u32 ((((a * 256 + b) * 256 + c) * 256) % 4294967296) (d % 4294967296) = ((a * 256 + b) * 256 + c) * 256 + d := by
    rw [u32_or8 _ _ (by omega) (by omega) (by omega) (by omega) (by omega)]; omega
  unfold sum_Get.f
  rw [if_neg (by simp; omega), if_pos (by simp; omega)]
  simp [sum_Get.l0, wrap64, rd, e1, e2, e3, e4]
  omega
theorem four_any (n : Int) : sum_Four.f 200 n = some (DS.four n) := by
  unfold sum_Four.f
  rw [if_pos (by decide)]
  simp [sum_Four.l0, wrap64, shr, IntKind.bits, DS.four]
end SumP
def crcO (b : List Int) : Int := Go.bits .xor .u32 (SumP.crc 4294967295 b) 4294967295
theorem of_one (b : List Int) (hb : b.length < 1099511627776) : ∃ k, sum_Of.f k [b] = some (crcO b) := by
  have h := SumP.of_ev [b] (by simp) (by intro row hr; rw [List.mem_singleton.1 hr]; omega)
  simp only [List.flatten_cons, List.flatten_nil, List.append_nil] at h
  exact h.rounds
attribute [local go_sem] Oper.semAt_some
theorem C_rows {w : World} {A : Option Addr} {n c : Nat} {b : List Int} (hn : b.length = n) (hc : b.length ≤ c) (h : (Kd.int .u8).C w A b.length b) : (Kd.slice 5 (Kd.int .u8)).K w b [.slice A n c] := by
  subst hn
  exact ⟨A, c, rfl, hc, h⟩
theorem C_rows4 {w : World} {g : Nat} {A1 A2 A3 A4 : Option Addr} {c1 c2 c3 c4 : Nat} {b1 b2 b3 b4 : List Int} (h : w.heap[g]? = some (.cells #[.slice A1 4 c1, .slice A2 4 c2, .slice A3 4 c3, .slice A4 4 c4] 22 (0, 0)))
    (l1 : b1.length = 4) (l2 : b2.length = 4) (l3 : b3.length = 4) (l4 : b4.length = 4) (k1 : b1.length ≤ c1) (k2 : b2.length ≤ c2) (k3 : b3.length ≤ c3) (k4 : b4.length ≤ c4)
    (h1 : (Kd.int .u8).C w A1 b1.length b1) (h2 : (Kd.int .u8).C w A2 b2.length b2) (h3 : (Kd.int .u8).C w A3 b3.length b3) (h4 : (Kd.int .u8).C w A4 b4.length b4) :
    Kd.C (Kd.slice 5 (Kd.int .u8)) w (some ⟨g, 0, none⟩) 4 [b1, b2, b3, b4] :=
  Kd.C_cells1 (xs := [b1, b2, b3, b4]) h rfl (by simp) (fun j p hj => by
    match j with
    | 0 => injection hj with hj; subst hj; exact ⟨_, rfl, C_rows l1 k1 h1⟩
    | 1 => injection hj with hj; subst hj; exact ⟨_, rfl, C_rows l2 k2 h2⟩
    | 2 => injection hj with hj; subst hj; exact ⟨_, rfl, C_rows l3 k3 h3⟩
    | 3 => injection hj with hj; subst hj; exact ⟨_, rfl, C_rows l4 k4 h4⟩
    | j + 4 => simp at hj)
set_option maxHeartbeats 4000000 in
set_option maxRecDepth 100000 in
theorem head_any (tag : Int) (A : Option Addr) (c : Nat) (b : List Int) (hb : b.length < 1099511627776) (w : World) (hr : (Kd.int .u8).C w A b.length b) (hc : b.length ≤ c) :
    Calls Try.prog 35 #[.int .u32 tag, .slice A b.length c] w fun e w' => ∃ v0, e = .returned v0 ∧ (Kd.int .u8).R 5 w' w.heap.size (fun _ => True) v0 (DS.head crcO tag b) ∧ Below w.heap.size w w' := by
  obtain ⟨ko, hko⟩ := of_one b hb
  have KO := Aside0.mk hko
  have HR := Aside0.mk hr
  have HC := Aside0.mk hc
  have HB := Aside0.mk hb
  have hp1 : (b.length : Int) ≤ 9223372036854775807 := by omega
  have HF : Aside0 ([DS.four tag, DS.four ((b.length : Int) % 4294967296), DS.four (crcO b), DS.four tag].flatten = DS.head crcO tag b) := ⟨by simp [DS.head]⟩
  have L4 : ∀ n, (DS.four n).length = 4 := DS.four_len
  have HL4 := Aside0.mk L4
  clear hko hr hc hb L4
  go_enter Try.func35, Try.ntmps35
  go_wp2_with (first
    | (go_at_call 50; refine (concat_any (some ⟨w5.heap.size, 0, none⟩) 4 [DS.four tag, DS.four ((b.length : Int) % 4294967296), DS.four (crcO b), DS.four tag] (by rw [HF.out]; simp [DS.head, DS.four]) (by rw [HF.out]; simp [DS.head, DS.four]) _ (C_rows4 (blk_new w5 _) (HL4.out _) (HL4.out _) (HL4.out _) (HL4.out _) LC1.out LC2.out LC3.out LC4.out (Kd.C_below E1d.out (below_alloc (Below.refl _ _) _)) (Kd.C_below E2c.out (below_alloc (Below.refl _ _) _)) (Kd.C_below E3a.out (below_alloc (Below.refl _ _) _)) (Kd.C_below E4.out (below_alloc (Below.refl _ _) _))) (by simp)).mono ?_; rintro e w6 ⟨v, rfl, hR, hW⟩; rw [HF.out] at hR; have R6 := Aside0.mk (Kd.R_lower hR (show w.heap.size ≤ _ by have := B5.out.size; simp; omega)); have B6 := Aside0.mk ((below_alloc B5.out _).trans (hW.mono (by have := B5.out.size; simp; omega))); clear hR hW)
    | (go_at_call 51; refine (sum_Four.calls 200 tag (DS.four tag) w4 (SumP.four_any _)).mono ?_; rintro e w5 ⟨v, rfl, hR, hW⟩; have B5 := Aside0.mk (B4.out.trans (hW.mono B4.out.size)); obtain ⟨A4, c4, e4, l4, hC4⟩ := Kd.R_reads hR; rw [HL4.out] at e4; subst e4; have E4 := Aside0.mk hC4; have LC4 := Aside0.mk l4; have E1d := Aside0.mk (Kd.C_below E1c.out hW); have E2c := Aside0.mk (Kd.C_below E2b.out hW); have E3a := Aside0.mk (Kd.C_below E3.out hW); clear hR hW hC4 l4)
    | (go_at_call 51; refine (sum_Four.calls 200 (crcO b) (DS.four (crcO b)) w3 (SumP.four_any _)).mono ?_; rintro e w4 ⟨v, rfl, hR, hW⟩; have B4 := Aside0.mk (B3.out.trans (hW.mono B3.out.size)); obtain ⟨A3, c3, e3, l3, hC3⟩ := Kd.R_reads hR; rw [HL4.out] at e3; subst e3; have E3 := Aside0.mk hC3; have LC3 := Aside0.mk l3; have E1c := Aside0.mk (Kd.C_below E1b.out hW); have E2b := Aside0.mk (Kd.C_below E2a.out hW); clear hR hW hC3 l3)
    | (go_at_call 39; refine (sum_Of.calls ko (some ⟨w2.heap.size, 0, none⟩) 1 [b] (crcO b) _ (Kd.C_slice_one (blk_new w2 _) rfl HC.out (Kd.C_below HR.out (B2.out.trans ((below_alloc (Below.refl _ _) _).mono B2.out.size)))) (by simp) KO.out).mono ?_; rintro e w3 ⟨rfl, hW⟩; have hW' := (below_alloc (Below.refl w2.heap.size w2) _).trans (hW.below.mono (by simp)); have B3 := Aside0.mk (B2.out.trans (hW'.mono B2.out.size)); have E1b := Aside0.mk (Kd.C_below E1a.out hW'); have E2a := Aside0.mk (Kd.C_below E2.out hW'); clear hW hW')
    | (go_at_call 51; refine (sum_Four.calls 200 ((b.length : Int) % 4294967296) (DS.four ((b.length : Int) % 4294967296)) w1 (SumP.four_any _)).mono ?_; rintro e w2 ⟨v, rfl, hR, hW⟩; have B2 := Aside0.mk (B1.out.trans (hW.mono B1.out.size)); obtain ⟨A2, c2, e2, l2, hC2⟩ := Kd.R_reads hR; rw [HL4.out] at e2; subst e2; have E2 := Aside0.mk hC2; have LC2 := Aside0.mk l2; have E1a := Aside0.mk (Kd.C_below E1.out hW); clear hR hW hC2 l2)
    | (go_at_call 51; refine (sum_Four.calls 200 tag (DS.four tag) w (SumP.four_any _)).mono ?_; rintro e w1 ⟨v, rfl, hR, hW⟩; have B1 := Aside0.mk hW; obtain ⟨A1, c1, e1, l1, hC1⟩ := Kd.R_reads hR; rw [HL4.out] at e1; subst e1; have E1 := Aside0.mk hC1; have LC1 := Aside0.mk l1; clear hR hW hC1 l1))
  go_ret
  exact ⟨_, rfl, R6.out, B6.out⟩
end Go.Proofs.Ytkicekddkgehoaa.Hnd
