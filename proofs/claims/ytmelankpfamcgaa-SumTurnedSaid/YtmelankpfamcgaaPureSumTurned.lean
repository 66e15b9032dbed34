/- The law SumTurned over lists: one byte turned turns the sum. No condition beyond the statement's own. -/
import Derived.Test.YtmelankpfamcgaaQSumTurnedx1
namespace Go.Proofs.Ytmelankpfamcgaa.Pure
open Go.RowKit Go.Proofs.Ytmelankpfamcgaa.QSumTurned Go.Proofs.YtmelankpfamcgaaW.PrintWords Go.Proofs.YtmelankpfamcgaaW.PrintLast

theorem wf_u8 {x : Int} (h : (Lit.int .u8 x).wf = true) : 0 ≤ x ∧ x ≤ 255 := by
  simpa [Lit.wf, IntKind.min, IntKind.max, IntKind.signed, IntKind.bits] using h
theorem wf_u32 {x : Int} (h : (Lit.int .u32 x).wf = true) : 0 ≤ x ∧ x ≤ 4294967295 := by
  simpa [Lit.wf, IntKind.min, IntKind.max, IntKind.signed, IntKind.bits] using h
theorem wraps_u32 (n : Int) (h₀ : 0 ≤ n) (h₁ : n < 2 ^ 32) : IntKind.u32.wrap n = n := by rw [IntKind.wrap_u32]; omega
theorem u32_or8 (x y : Int) (hx₀ : 0 ≤ x) (hx : x % 256 = 0) (hx₁ : x < 4294967296) (h₀ : 0 ≤ y) (h₁ : y < 256) : bits .or .u32 x y = x + y :=
  bits_join .u32 32 (by decide) wraps_u32 8 x y hx₀ hx hx₁ h₀ h₁ (by omega)
theorem known_at : lazaruslaw2_known.f 200 = some true := by decide +kernel
theorem known_ev : Ev (fun k => lazaruslaw2_known.f k) true := Ev.of lazaruslaw2_known.mono known_at

def r1 (x : Int) : Int := Go.bits .xor .u32 (x / 2) ((2197175160 * (Go.bits .and .u32 x 1)) % 4294967296)
def rn : Nat → Int → Int
  | 0, x => x
  | n + 1, x => rn n (r1 x)
def stp (x c : Int) : Int := rn 8 (Go.bits .xor .u32 x (c % 4294967296))
def crc (x : Int) (l : List Int) : Int := l.foldl stp x
theorem getD_lt {α : Type} (l : List α) (i : Nat) (d : α) (h : i < l.length) : l.getD i d = l[i] := by
  rw [List.getD_eq_getElem?_getD, List.getElem?_eq_getElem h]; rfl
theorem w64 {i : Int} (h0 : -9223372036854775808 ≤ i) (h1 : i < 9223372036854775808) : wrap64 i = i := by unfold wrap64; omega

theorem of_l2 {r : Int} (rows : List (List Int)) (n i : Int) (row : List Int) (m j : Int) : ∀ (d : Nat) (x t : Int), 0 ≤ t → t + d = 8 →
    Ev (fun k => sum_Of.l1 k (rn d x) rows n i row m (wrap64 (j + 1))) r → Ev (fun k => sum_Of.l2 k x rows n i row m j t) r
  | 0, x, t, h0, h1, h => Ev.step (fun k => by rw [sum_Of.l2, if_neg (by omega)]; rfl) h
  | d + 1, x, t, h0, h1, h =>
    Ev.step (fun k => by rw [sum_Of.l2, if_pos (by omega), w64 (by omega) (by omega)]; rfl) (of_l2 rows n i row m j d (r1 x) (t + 1) (by omega) (by omega) h)

theorem of_l1 {r : Int} (rows : List (List Int)) (n i : Int) (row : List Int) (hm : (row.length : Int) ≤ 281474976710656) : ∀ (d : Nat) (x j : Int), 0 ≤ j → j + d = row.length →
    Ev (fun k => sum_Of.l0 k (crc x (row.drop j.toNat)) rows n (wrap64 (i + 1))) r → Ev (fun k => sum_Of.l1 k x rows n i row row.length j) r
  | 0, x, j, h0, h1, h => by
    refine Ev.step (fun k => by rw [sum_Of.l1, if_neg (by omega)]) ?_
    rw [List.drop_of_length_le (by omega)] at h
    exact h
  | d + 1, x, j, h0, h1, h => by
    refine Ev.step (fun k => by rw [sum_Of.l1, if_pos (by omega), if_pos h0, if_pos (by omega)]) ?_
    refine of_l2 rows n i row _ j 8 _ 0 (by omega) (by omega) ?_
    rw [w64 (by omega) (by omega)]
    refine of_l1 rows n i row hm d _ (j + 1) (by omega) (by omega) ?_
    have e : row.drop j.toNat = rd row j :: row.drop (j + 1).toNat := by
      have hj : j.toNat < row.length := by omega
      rw [List.drop_eq_getElem_cons hj, rd, getD_lt _ _ _ hj]
      congr 2
      omega
    rw [e] at h
    exact h

theorem of_l0 (rows : List (List Int)) (hn : (rows.length : Int) ≤ 281474976710656) (hr : ∀ row ∈ rows, (row.length : Int) ≤ 281474976710656) : ∀ (d : Nat) (x i : Int), 0 ≤ i → i + d = rows.length →
    Ev (fun k => sum_Of.l0 k x rows rows.length i) (Go.bits .xor .u32 (crc x (rows.drop i.toNat).flatten) 4294967295)
  | 0, x, i, h0, h1 => by
    refine Ev.step (fun k => by rw [sum_Of.l0, if_neg (by omega)]) ?_
    rw [List.drop_of_length_le (by omega)]
    exact Ev.now _
  | d + 1, x, i, h0, h1 => by
    have hj : i.toNat < rows.length := by omega
    have e : rows.drop i.toNat = rd_L1 rows i :: rows.drop (i + 1).toNat := by
      rw [List.drop_eq_getElem_cons hj, rd_L1, getD_lt _ _ _ hj]
      congr 2
      omega
    have hmem : rd_L1 rows i ∈ rows := by rw [rd_L1, getD_lt _ _ _ hj]; exact List.getElem_mem hj
    refine Ev.step (fun k => by rw [sum_Of.l0, if_pos (by omega), if_pos h0, if_pos (by omega)]) ?_
    refine of_l1 rows _ i _ (hr _ hmem) (rd_L1 rows i).length x 0 (by omega) (by omega) ?_
    rw [w64 (by omega) (by omega)]
    have h := of_l0 rows hn hr d (crc x (rd_L1 rows i)) (i + 1) (by omega) (by omega)
    have e2 : crc x (rows.drop i.toNat).flatten = crc (crc x (rd_L1 rows i)) (rows.drop (i + 1).toNat).flatten := by
      rw [e, List.flatten_cons, crc, List.foldl_append]; rfl
    rw [e2]
    exact h

theorem of_ev (rows : List (List Int)) (hn : (rows.length : Int) ≤ 281474976710656) (hr : ∀ row ∈ rows, (row.length : Int) ≤ 281474976710656) :
    Ev (fun k => sum_Of.f k rows) (Go.bits .xor .u32 (crc 4294967295 rows.flatten) 4294967295) := by
  have h := of_l0 rows hn hr rows.length 4294967295 0 (by omega) (by omega)
  exact h

theorem xor_rc {a b c : Nat} (h : a ^^^ c = b ^^^ c) : a = b := by
  have := congrArg (· ^^^ c) h
  simpa [Nat.xor_assoc, Nat.xor_self] using this
theorem xor_lc {a b c : Nat} (h : c ^^^ a = c ^^^ b) : a = b := by
  rw [Nat.xor_comm c a, Nat.xor_comm c b] at h
  exact xor_rc h
theorem xor_nat (a b : Nat) (ha : a < 4294967296) (hb : b < 4294967296) : Go.bits .xor .u32 (a : Int) (b : Int) = ((a ^^^ b : Nat) : Int) := by
  have ha' : a % 2 ^ IntKind.u32.bits = a := Nat.mod_eq_of_lt ha
  have hb' : b % 2 ^ IntKind.u32.bits = b := Nat.mod_eq_of_lt hb
  have hx : a ^^^ b < 2 ^ 32 := Nat.xor_lt_two_pow (by simpa using ha) (by simpa using hb)
  simp only [Go.bits, BitVec.ofInt_natCast, BitVec.toNat_xor, BitVec.toNat_ofNat, ha', hb']
  exact wraps_u32 _ (Int.natCast_nonneg _) (by exact_mod_cast hx)
theorem and1_nat (a : Nat) (ha : a < 4294967296) : Go.bits .and .u32 (a : Int) 1 = ((a % 2 : Nat) : Int) := by
  have := bits_mask .u32 32 (by decide) wraps_u32 1 (by decide) a (by omega) (by omega)
  simpa using this
def n1 (x : Nat) : Nat := (x / 2) ^^^ (2197175160 * (x % 2))
theorem n1_lt (x : Nat) (h : x < 4294967296) : n1 x < 4294967296 := by
  have : n1 x < 2 ^ 32 := Nat.xor_lt_two_pow (by omega) (by have := Nat.mod_lt x (show 0 < 2 by decide); omega)
  simpa using this
theorem r1_nat (x : Nat) (h : x < 4294967296) : r1 (x : Int) = (n1 x : Nat) := by
  unfold r1 n1
  rw [and1_nat x h]
  have e1 : ((x : Int) / 2) = ((x / 2 : Nat) : Int) := by omega
  have e2 : (2197175160 * ((x % 2 : Nat) : Int)) % 4294967296 = ((2197175160 * (x % 2) : Nat) : Int) := by omega
  rw [e1, e2, xor_nat _ _ (by omega) (by omega)]
theorem n1_top (x : Nat) (h : x < 4294967296) : (n1 x).testBit 31 = decide (x % 2 = 1) := by
  unfold n1
  rw [Nat.testBit_xor]
  have e1 : (x / 2).testBit 31 = false := Nat.testBit_lt_two_pow (by omega)
  rw [e1]
  rcases Nat.mod_two_eq_zero_or_one x with e | e <;> rw [e] <;> decide
theorem n1_inj {x y : Nat} (hx : x < 4294967296) (hy : y < 4294967296) (h : n1 x = n1 y) : x = y := by
  have t := n1_top x hx
  rw [h, n1_top y hy] at t
  have e : x % 2 = y % 2 := by
    have := decide_eq_decide.mp t
    omega
  unfold n1 at h
  rw [e] at h
  have h2 : x / 2 = y / 2 := xor_rc h
  omega
theorem rn_nat : ∀ (d : Nat) (x : Nat), x < 4294967296 → ∃ y : Nat, y < 4294967296 ∧ rn d (x : Int) = (y : Int)
  | 0, x, h => ⟨x, h, rfl⟩
  | d + 1, x, h => by
    obtain ⟨y, hy, e⟩ := rn_nat d (n1 x) (n1_lt x h)
    exact ⟨y, hy, by rw [rn, r1_nat x h, e]⟩
theorem rn_inj : ∀ (d : Nat) (x y : Nat), x < 4294967296 → y < 4294967296 → rn d (x : Int) = rn d (y : Int) → x = y
  | 0, x, y, _, _, h => by simp [rn] at h; omega
  | d + 1, x, y, hx, hy, h => by
    rw [rn, rn, r1_nat x hx, r1_nat y hy] at h
    exact n1_inj hx hy (rn_inj d _ _ (n1_lt x hx) (n1_lt y hy) h)
theorem stp_nat (x c : Nat) (hx : x < 4294967296) (hc : c < 256) : ∃ y : Nat, y < 4294967296 ∧ stp x c = (y : Int) := by
  have e : ((c : Int) % 4294967296) = (c : Int) := by omega
  unfold stp
  rw [e, xor_nat x c hx (by omega)]
  exact rn_nat 8 _ (by simpa using Nat.xor_lt_two_pow (n := 32) (by simpa using hx) (by omega))
theorem stp_inj (x y c : Nat) (hx : x < 4294967296) (hy : y < 4294967296) (hc : c < 256) (h : stp x c = stp y c) : x = y := by
  have e : ((c : Int) % 4294967296) = (c : Int) := by omega
  unfold stp at h
  rw [e, xor_nat x c hx (by omega), xor_nat y c hy (by omega)] at h
  have := rn_inj 8 _ _ (by simpa using Nat.xor_lt_two_pow (n := 32) (by simpa using hx) (by omega)) (by simpa using Nat.xor_lt_two_pow (n := 32) (by simpa using hy) (by omega)) h
  exact xor_rc this
theorem stp_inj2 (x c c' : Nat) (hx : x < 4294967296) (hc : c < 256) (hc' : c' < 256) (h : stp x c = stp x c') : c = c' := by
  have e : ((c : Int) % 4294967296) = (c : Int) := by omega
  have e' : ((c' : Int) % 4294967296) = (c' : Int) := by omega
  unfold stp at h
  rw [e, e', xor_nat x c hx (by omega), xor_nat x c' hx (by omega)] at h
  have := rn_inj 8 _ _ (by simpa using Nat.xor_lt_two_pow (n := 32) (by simpa using hx) (by omega)) (by simpa using Nat.xor_lt_two_pow (n := 32) (by simpa using hx) (by omega)) h
  exact xor_lc this
theorem crc_nat : ∀ (l : List Int), (∀ x ∈ l, 0 ≤ x ∧ x ≤ 255) → ∀ x : Nat, x < 4294967296 → ∃ y : Nat, y < 4294967296 ∧ crc x l = (y : Int)
  | [], _, x, h => ⟨x, h, rfl⟩
  | c :: l, hl, x, h => by
    have hc := hl c (by simp)
    obtain ⟨n, rfl⟩ := Int.eq_ofNat_of_zero_le hc.1
    obtain ⟨y, hy, e⟩ := stp_nat x n h (by omega)
    obtain ⟨z, hz, e2⟩ := crc_nat l (fun x hx => hl x (by simp [hx])) y hy
    refine ⟨z, hz, ?_⟩
    rw [crc, List.foldl_cons, e]
    exact e2
theorem crc_inj : ∀ (l : List Int), (∀ x ∈ l, 0 ≤ x ∧ x ≤ 255) → ∀ x y : Nat, x < 4294967296 → y < 4294967296 → crc x l = crc y l → x = y
  | [], _, x, y, _, _, h => by simp [crc] at h; omega
  | c :: l, hl, x, y, hx, hy, h => by
    have hc := hl c (by simp)
    obtain ⟨n, rfl⟩ := Int.eq_ofNat_of_zero_le hc.1
    obtain ⟨x', hx', e⟩ := stp_nat x n hx (by omega)
    obtain ⟨y', hy', e'⟩ := stp_nat y n hy (by omega)
    rw [crc, crc, List.foldl_cons, List.foldl_cons, e, e'] at h
    have h2 : x' = y' := crc_inj l (fun x hx => hl x (by simp [hx])) x' y' hx' hy' h
    subst h2
    exact stp_inj x y n hx hy (by omega) (e.trans e'.symm)
theorem crc_turned (l : List Int) (hl : ∀ x ∈ l, 0 ≤ x ∧ x ≤ 255) (i : Nat) (hi : i < l.length) (c : Int) (h0 : 0 ≤ c ∧ c ≤ 255) (hne : c ≠ l[i]) :
    crc 4294967295 (l.set i c) ≠ crc 4294967295 l := by
  intro h
  have e1 : l = l.take i ++ l[i] :: l.drop (i + 1) := by rw [← List.drop_eq_getElem_cons hi, List.take_append_drop]
  have e2 : l.set i c = l.take i ++ c :: l.drop (i + 1) := by rw [List.set_eq_take_append_cons_drop, if_pos hi]
  rw [e2] at h
  conv at h => rhs; rw [e1]
  rw [crc, crc, List.foldl_append, List.foldl_append, List.foldl_cons, List.foldl_cons] at h
  have ht : ∀ x ∈ l.take i, 0 ≤ x ∧ x ≤ 255 := fun x hx => hl x (List.mem_of_mem_take hx)
  have hd : ∀ x ∈ l.drop (i + 1), 0 ≤ x ∧ x ≤ 255 := fun x hx => hl x (List.mem_of_mem_drop hx)
  obtain ⟨p, hp, ep⟩ := crc_nat (l.take i) ht 4294967295 (by omega)
  have hli := hl l[i] (List.getElem_mem hi)
  obtain ⟨a, ha⟩ := Int.eq_ofNat_of_zero_le h0.1
  obtain ⟨b, hb⟩ := Int.eq_ofNat_of_zero_le hli.1
  have ep' : List.foldl stp 4294967295 (l.take i) = (p : Int) := ep
  rw [ep', ha, hb] at h
  obtain ⟨x, hx, ex⟩ := stp_nat p a hp (by omega)
  obtain ⟨y, hy, ey⟩ := stp_nat p b hp (by omega)
  have h' : crc (stp p a) (l.drop (i + 1)) = crc (stp p b) (l.drop (i + 1)) := h
  rw [ex, ey] at h'
  have hxy := crc_inj _ hd x y hx hy h'
  subst hxy
  have := stp_inj2 p a b hp (by omega) (by omega) (ex.trans ey.symm)
  omega

theorem and_mask (x : Int) : 0 ≤ Go.bits .and .i64 x 65535 ∧ Go.bits .and .i64 x 65535 ≤ 65535 := by
  have hn : ((BitVec.ofInt IntKind.i64.bits x) &&& (BitVec.ofInt IntKind.i64.bits 65535)).toNat ≤ 65535 := by
    rw [BitVec.toNat_and]
    exact Nat.le_trans Nat.and_le_right (by decide)
  have e : Go.bits .and .i64 x 65535 = IntKind.i64.wrap (((BitVec.ofInt IntKind.i64.bits x) &&& (BitVec.ofInt IntKind.i64.bits 65535)).toNat : Int) := rfl
  rw [e, IntKind.wrap_i64]
  omega
theorem xor_u8 (a b : Nat) (ha : a < 256) (hb : b < 256) : Go.bits .xor .u8 (a : Int) (b : Int) = ((a ^^^ b : Nat) : Int) := by
  have ha' : a % 2 ^ IntKind.u8.bits = a := Nat.mod_eq_of_lt ha
  have hb' : b % 2 ^ IntKind.u8.bits = b := Nat.mod_eq_of_lt hb
  have hx : a ^^^ b < 2 ^ 8 := Nat.xor_lt_two_pow (by simpa using ha) (by simpa using hb)
  simp only [Go.bits, BitVec.ofInt_natCast, BitVec.toNat_xor, BitVec.toNat_ofNat, ha', hb']
  exact wraps_u8 _ (Int.natCast_nonneg _) (by exact_mod_cast hx)
theorem turned_ne (a b : Int) (ha : 0 ≤ a ∧ a ≤ 255) (hb : 0 ≤ b ∧ b ≤ 255) (h : b ≠ 0) : (0 ≤ Go.bits .xor .u8 a b ∧ Go.bits .xor .u8 a b ≤ 255) ∧ Go.bits .xor .u8 a b ≠ a := by
  obtain ⟨m, rfl⟩ := Int.eq_ofNat_of_zero_le ha.1
  obtain ⟨n, rfl⟩ := Int.eq_ofNat_of_zero_le hb.1
  rw [xor_u8 m n (by omega) (by omega)]
  have hx : m ^^^ n < 2 ^ 8 := Nat.xor_lt_two_pow (by omega) (by omega)
  refine ⟨by omega, fun e => h ?_⟩
  have e' : m ^^^ n = m ^^^ 0 := by rw [Nat.xor_zero]; exact_mod_cast e
  have := xor_lc e'
  omega
theorem sum_ne {a b : Int} (ha : ∃ x : Nat, x < 4294967296 ∧ a = x) (hb : ∃ x : Nat, x < 4294967296 ∧ b = x) (h : a ≠ b) : Go.bits .xor .u32 a 4294967295 ≠ Go.bits .xor .u32 b 4294967295 := by
  obtain ⟨x, hx, rfl⟩ := ha
  obtain ⟨y, hy, rfl⟩ := hb
  have e : (4294967295 : Int) = ((4294967295 : Nat) : Int) := rfl
  rw [e, xor_nat x _ hx (by omega), xor_nat y _ hy (by omega)]
  intro h2
  have : x ^^^ 4294967295 = y ^^^ 4294967295 := by exact_mod_cast h2
  exact h (by rw [xor_rc this])
theorem SumTurned : ∀ (l0 : List Int) (a1 : Int) (a2 : Int), (l0.length * 1 ≤ 140737488351232 ∧ ∀ y2 ∈ l0, (Lit.int .u8 y2).wf = true) → (Lit.int .i64 a1).wf = true → (Lit.int .u8 a2).wf = true → ∃ k, lazaruslaw2_SumTurned.f k l0 a1 a2 = some true := by
  intro l at_ by_ hl _ hb
  have hb := wf_u8 hb
  have hw : ∀ x ∈ l, 0 ≤ x ∧ x ≤ 255 := fun x hx => wf_u8 (hl.2 x hx)
  have j_true : Ev (fun k => lazaruslaw2_SumTurned.j0 k l at_ by_ true) true := Ev.step (fun k => by rw [lazaruslaw2_SumTurned.j0, if_pos rfl]) (Ev.now _)
  refine Ev.rounds (g := fun k => lazaruslaw2_SumTurned.f k l at_ by_) ?_
  unfold lazaruslaw2_SumTurned.f
  by_cases h1 : (l.length : Int) < 1
  · exact Ev.congr (fun k => if_pos h1) j_true
  by_cases h2 : (l.length : Int) > 1000
  · exact Ev.congr (fun k => by rw [if_neg h1, if_pos h2]) j_true
  refine Ev.congr (fun k => by rw [if_neg h1, if_neg h2]) ?_
  by_cases h3 : by_ = 0
  · subst h3; exact j_true
  have e3 : (by_ == 0) = false := by simpa using h3
  rw [e3]
  have hm := and_mask at_
  obtain ⟨m, hmE⟩ : ∃ m, Go.bits .and .i64 at_ 65535 = m := ⟨_, rfl⟩
  rw [hmE] at hm
  have hlen : (([] : List Int) ++ l).length = l.length := by simp
  have ht : Int.tmod m (l.length : Int) = m % l.length := Int.tmod_eq_emod_of_nonneg hm.1
  have ht0 : 0 ≤ m % (l.length : Int) := Int.emod_nonneg _ (by omega)
  have ht1 : m % (l.length : Int) < l.length := Int.emod_lt_of_pos _ (by omega)
  have hi : (m % (l.length : Int)).toNat < l.length := by omega
  have hli := hw l[(m % (l.length : Int)).toNat] (List.getElem_mem hi)
  have hrd : rd l (m % (l.length : Int)) = l[(m % (l.length : Int)).toNat] := by rw [rd, getD_lt _ _ _ hi]
  have hx := turned_ne _ by_ hli hb h3
  have hc := crc_turned l hw _ hi _ hx.1 hx.2
  have hset : ∀ x ∈ l.set (m % (l.length : Int)).toNat (Go.bits .xor .u8 l[(m % (l.length : Int)).toNat] by_), 0 ≤ x ∧ x ≤ 255 := by
    intro x hxm
    rcases List.mem_or_eq_of_mem_set hxm with h | h
    · exact hw x h
    · rw [h]; exact hx.1
  have hne := sum_ne (crc_nat _ hset 4294967295 (by omega)) (crc_nat l hw 4294967295 (by omega)) hc
  refine Ev.step (f := fun k => (sum_Of.f k [l.set (m % (l.length : Int)).toNat (Go.bits .xor .u8 l[(m % (l.length : Int)).toNat] by_)]).bind fun a => (sum_Of.f k [l]).bind fun b => if a = b then some false else (lazaruslaw2_known.f k).bind fun t => some t) (fun k => by
    rw [lazaruslaw2_SumTurned.j0, if_neg (by decide), Option.bind_some]
    simp only [List.nil_append, Option.bind_some]
    rw [hmE, if_pos (by simp; omega), if_neg (by omega), ht, if_pos ht0, if_pos ht1, hrd]) ?_
  refine Ev.bind (of_ev _ (by simp) (fun row h => by simp at h; subst h; simp; omega)) ?_
  refine Ev.bind (of_ev _ (by simp) (fun row h => by simp at h; subst h; omega)) ?_
  refine Ev.congr (fun k => if_neg (by simpa using hne)) ?_
  exact Ev.bind known_ev (Ev.now _)

end Go.Proofs.Ytmelankpfamcgaa.Pure
