/- The law SumTells over lists: the program's sum and numbers in four bytes are the document's. No condition beyond the statement's own. -/
import Derived.Test.YtmelankpfamcgaaQSumTellsx2
namespace Go.Proofs.Ytmelankpfamcgaa.Pure
open Go.RowKit Go.Proofs.Ytmelankpfamcgaa.QSumTells Go.Proofs.YtmelankpfamcgaaW.PrintWords Go.Proofs.YtmelankpfamcgaaW.PrintLast

theorem wf_u8 {x : Int} (h : (Lit.int .u8 x).wf = true) : 0 ≤ x ∧ x ≤ 255 := by
  simpa [Lit.wf, IntKind.min, IntKind.max, IntKind.signed, IntKind.bits] using h
theorem wf_u32 {x : Int} (h : (Lit.int .u32 x).wf = true) : 0 ≤ x ∧ x ≤ 4294967295 := by
  simpa [Lit.wf, IntKind.min, IntKind.max, IntKind.signed, IntKind.bits] using h
theorem wraps_u32 (n : Int) (h₀ : 0 ≤ n) (h₁ : n < 2 ^ 32) : IntKind.u32.wrap n = n := by rw [IntKind.wrap_u32]; omega
theorem u32_or8 (x y : Int) (hx₀ : 0 ≤ x) (hx : x % 256 = 0) (hx₁ : x < 4294967296) (h₀ : 0 ≤ y) (h₁ : y < 256) : bits .or .u32 x y = x + y :=
  bits_join .u32 32 (by decide) wraps_u32 8 x y hx₀ hx hx₁ h₀ h₁ (by omega)
theorem known_at : lazaruslaw2_known.f 200 = some true := by decide +kernel
theorem known_ev : Ev (fun k => lazaruslaw2_known.f k) true := Ev.of lazaruslaw2_known.mono known_at

def r1 (x : Int) : Int := Go.bits .xor .u32 (x / 2) ((2197175160 * (Go.bits .and .u32 x 1)) % 4294967296)
def rn : Nat → Int → Int
  | 0, x => x
  | n + 1, x => rn n (r1 x)
def stp (x c : Int) : Int := rn 8 (Go.bits .xor .u32 x (c % 4294967296))
def crc (x : Int) (l : List Int) : Int := l.foldl stp x
theorem getD_lt {α : Type} (l : List α) (i : Nat) (d : α) (h : i < l.length) : l.getD i d = l[i] := by
  rw [List.getD_eq_getElem?_getD, List.getElem?_eq_getElem h]; rfl
theorem w64 {i : Int} (h0 : -9223372036854775808 ≤ i) (h1 : i < 9223372036854775808) : wrap64 i = i := by unfold wrap64; omega

theorem of_l2 {r : Int} (rows : List (List Int)) (n i : Int) (row : List Int) (m j : Int) : ∀ (d : Nat) (x t : Int), 0 ≤ t → t + d = 8 →
    Ev (fun k => sum_Of.l1 k (rn d x) rows n i row m (wrap64 (j + 1))) r → Ev (fun k => sum_Of.l2 k x rows n i row m j t) r
  | 0, x, t, h0, h1, h => Ev.step (fun k => by rw [sum_Of.l2, if_neg (by omega)]; rfl) h
  | d + 1, x, t, h0, h1, h =>
    Ev.step (fun k => by rw [sum_Of.l2, if_pos (by omega), w64 (by omega) (by omega)]; rfl) (of_l2 rows n i row m j d (r1 x) (t + 1) (by omega) (by omega) h)

theorem of_l1 {r : Int} (rows : List (List Int)) (n i : Int) (row : List Int) (hm : (row.length : Int) ≤ 281474976710656) : ∀ (d : Nat) (x j : Int), 0 ≤ j → j + d = row.length →
    Ev (fun k => sum_Of.l0 k (crc x (row.drop j.toNat)) rows n (wrap64 (i + 1))) r → Ev (fun k => sum_Of.l1 k x rows n i row row.length j) r
  | 0, x, j, h0, h1, h => by
    refine Ev.step (fun k => by rw [sum_Of.l1, if_neg (by omega)]) ?_
    rw [List.drop_of_length_le (by omega)] at h
    exact h
  | d + 1, x, j, h0, h1, h => by
    refine Ev.step (fun k => by rw [sum_Of.l1, if_pos (by omega), if_pos h0, if_pos (by omega)]) ?_
    refine of_l2 rows n i row _ j 8 _ 0 (by omega) (by omega) ?_
    rw [w64 (by omega) (by omega)]
    refine of_l1 rows n i row hm d _ (j + 1) (by omega) (by omega) ?_
    have e : row.drop j.toNat = rd row j :: row.drop (j + 1).toNat := by
      have hj : j.toNat < row.length := by omega
      rw [List.drop_eq_getElem_cons hj, rd, getD_lt _ _ _ hj]
      congr 2
      omega
    rw [e] at h
    exact h

theorem of_l0 (rows : List (List Int)) (hn : (rows.length : Int) ≤ 281474976710656) (hr : ∀ row ∈ rows, (row.length : Int) ≤ 281474976710656) : ∀ (d : Nat) (x i : Int), 0 ≤ i → i + d = rows.length →
    Ev (fun k => sum_Of.l0 k x rows rows.length i) (Go.bits .xor .u32 (crc x (rows.drop i.toNat).flatten) 4294967295)
  | 0, x, i, h0, h1 => by
    refine Ev.step (fun k => by rw [sum_Of.l0, if_neg (by omega)]) ?_
    rw [List.drop_of_length_le (by omega)]
    exact Ev.now _
  | d + 1, x, i, h0, h1 => by
    have hj : i.toNat < rows.length := by omega
    have e : rows.drop i.toNat = rd_L1 rows i :: rows.drop (i + 1).toNat := by
      rw [List.drop_eq_getElem_cons hj, rd_L1, getD_lt _ _ _ hj]
      congr 2
      omega
    have hmem : rd_L1 rows i ∈ rows := by rw [rd_L1, getD_lt _ _ _ hj]; exact List.getElem_mem hj
    refine Ev.step (fun k => by rw [sum_Of.l0, if_pos (by omega), if_pos h0, if_pos (by omega)]) ?_
    refine of_l1 rows _ i _ (hr _ hmem) (rd_L1 rows i).length x 0 (by omega) (by omega) ?_
    rw [w64 (by omega) (by omega)]
    have h := of_l0 rows hn hr d (crc x (rd_L1 rows i)) (i + 1) (by omega) (by omega)
    have e2 : crc x (rows.drop i.toNat).flatten = crc (crc x (rd_L1 rows i)) (rows.drop (i + 1).toNat).flatten := by
      rw [e, List.flatten_cons, crc, List.foldl_append]; rfl
    rw [e2]
    exact h

theorem of_ev (rows : List (List Int)) (hn : (rows.length : Int) ≤ 281474976710656) (hr : ∀ row ∈ rows, (row.length : Int) ≤ 281474976710656) :
    Ev (fun k => sum_Of.f k rows) (Go.bits .xor .u32 (crc 4294967295 rows.flatten) 4294967295) := by
  have h := of_l0 rows hn hr rows.length 4294967295 0 (by omega) (by omega)
  exact h

theorem xor_rc {a b c : Nat} (h : a ^^^ c = b ^^^ c) : a = b := by
  have := congrArg (· ^^^ c) h
  simpa [Nat.xor_assoc, Nat.xor_self] using this
theorem xor_lc {a b c : Nat} (h : c ^^^ a = c ^^^ b) : a = b := by
  rw [Nat.xor_comm c a, Nat.xor_comm c b] at h
  exact xor_rc h
theorem xor_nat (a b : Nat) (ha : a < 4294967296) (hb : b < 4294967296) : Go.bits .xor .u32 (a : Int) (b : Int) = ((a ^^^ b : Nat) : Int) := by
  have ha' : a % 2 ^ IntKind.u32.bits = a := Nat.mod_eq_of_lt ha
  have hb' : b % 2 ^ IntKind.u32.bits = b := Nat.mod_eq_of_lt hb
  have hx : a ^^^ b < 2 ^ 32 := Nat.xor_lt_two_pow (by simpa using ha) (by simpa using hb)
  simp only [Go.bits, BitVec.ofInt_natCast, BitVec.toNat_xor, BitVec.toNat_ofNat, ha', hb']
  exact wraps_u32 _ (Int.natCast_nonneg _) (by exact_mod_cast hx)
theorem and1_nat (a : Nat) (ha : a < 4294967296) : Go.bits .and .u32 (a : Int) 1 = ((a % 2 : Nat) : Int) := by
  have := bits_mask .u32 32 (by decide) wraps_u32 1 (by decide) a (by omega) (by omega)
  simpa using this
def n1 (x : Nat) : Nat := (x / 2) ^^^ (2197175160 * (x % 2))
theorem n1_lt (x : Nat) (h : x < 4294967296) : n1 x < 4294967296 := by
  have : n1 x < 2 ^ 32 := Nat.xor_lt_two_pow (by omega) (by have := Nat.mod_lt x (show 0 < 2 by decide); omega)
  simpa using this
theorem r1_nat (x : Nat) (h : x < 4294967296) : r1 (x : Int) = (n1 x : Nat) := by
  unfold r1 n1
  rw [and1_nat x h]
  have e1 : ((x : Int) / 2) = ((x / 2 : Nat) : Int) := by omega
  have e2 : (2197175160 * ((x % 2 : Nat) : Int)) % 4294967296 = ((2197175160 * (x % 2) : Nat) : Int) := by omega
  rw [e1, e2, xor_nat _ _ (by omega) (by omega)]
theorem n1_top (x : Nat) (h : x < 4294967296) : (n1 x).testBit 31 = decide (x % 2 = 1) := by
  unfold n1
  rw [Nat.testBit_xor]
  have e1 : (x / 2).testBit 31 = false := Nat.testBit_lt_two_pow (by omega)
  rw [e1]
  rcases Nat.mod_two_eq_zero_or_one x with e | e <;> rw [e] <;> decide
theorem n1_inj {x y : Nat} (hx : x < 4294967296) (hy : y < 4294967296) (h : n1 x = n1 y) : x = y := by
  have t := n1_top x hx
  rw [h, n1_top y hy] at t
  have e : x % 2 = y % 2 := by
    have := decide_eq_decide.mp t
    omega
  unfold n1 at h
  rw [e] at h
  have h2 : x / 2 = y / 2 := xor_rc h
  omega
theorem rn_nat : ∀ (d : Nat) (x : Nat), x < 4294967296 → ∃ y : Nat, y < 4294967296 ∧ rn d (x : Int) = (y : Int)
  | 0, x, h => ⟨x, h, rfl⟩
  | d + 1, x, h => by
    obtain ⟨y, hy, e⟩ := rn_nat d (n1 x) (n1_lt x h)
    exact ⟨y, hy, by rw [rn, r1_nat x h, e]⟩
theorem rn_inj : ∀ (d : Nat) (x y : Nat), x < 4294967296 → y < 4294967296 → rn d (x : Int) = rn d (y : Int) → x = y
  | 0, x, y, _, _, h => by simp [rn] at h; omega
  | d + 1, x, y, hx, hy, h => by
    rw [rn, rn, r1_nat x hx, r1_nat y hy] at h
    exact n1_inj hx hy (rn_inj d _ _ (n1_lt x hx) (n1_lt y hy) h)
theorem stp_nat (x c : Nat) (hx : x < 4294967296) (hc : c < 256) : ∃ y : Nat, y < 4294967296 ∧ stp x c = (y : Int) := by
  have e : ((c : Int) % 4294967296) = (c : Int) := by omega
  unfold stp
  rw [e, xor_nat x c hx (by omega)]
  exact rn_nat 8 _ (by simpa using Nat.xor_lt_two_pow (n := 32) (by simpa using hx) (by omega))
theorem stp_inj (x y c : Nat) (hx : x < 4294967296) (hy : y < 4294967296) (hc : c < 256) (h : stp x c = stp y c) : x = y := by
  have e : ((c : Int) % 4294967296) = (c : Int) := by omega
  unfold stp at h
  rw [e, xor_nat x c hx (by omega), xor_nat y c hy (by omega)] at h
  have := rn_inj 8 _ _ (by simpa using Nat.xor_lt_two_pow (n := 32) (by simpa using hx) (by omega)) (by simpa using Nat.xor_lt_two_pow (n := 32) (by simpa using hy) (by omega)) h
  exact xor_rc this
theorem stp_inj2 (x c c' : Nat) (hx : x < 4294967296) (hc : c < 256) (hc' : c' < 256) (h : stp x c = stp x c') : c = c' := by
  have e : ((c : Int) % 4294967296) = (c : Int) := by omega
  have e' : ((c' : Int) % 4294967296) = (c' : Int) := by omega
  unfold stp at h
  rw [e, e', xor_nat x c hx (by omega), xor_nat x c' hx (by omega)] at h
  have := rn_inj 8 _ _ (by simpa using Nat.xor_lt_two_pow (n := 32) (by simpa using hx) (by omega)) (by simpa using Nat.xor_lt_two_pow (n := 32) (by simpa using hx) (by omega)) h
  exact xor_lc this
theorem crc_nat : ∀ (l : List Int), (∀ x ∈ l, 0 ≤ x ∧ x ≤ 255) → ∀ x : Nat, x < 4294967296 → ∃ y : Nat, y < 4294967296 ∧ crc x l = (y : Int)
  | [], _, x, h => ⟨x, h, rfl⟩
  | c :: l, hl, x, h => by
    have hc := hl c (by simp)
    obtain ⟨n, rfl⟩ := Int.eq_ofNat_of_zero_le hc.1
    obtain ⟨y, hy, e⟩ := stp_nat x n h (by omega)
    obtain ⟨z, hz, e2⟩ := crc_nat l (fun x hx => hl x (by simp [hx])) y hy
    refine ⟨z, hz, ?_⟩
    rw [crc, List.foldl_cons, e]
    exact e2
theorem crc_inj : ∀ (l : List Int), (∀ x ∈ l, 0 ≤ x ∧ x ≤ 255) → ∀ x y : Nat, x < 4294967296 → y < 4294967296 → crc x l = crc y l → x = y
  | [], _, x, y, _, _, h => by simp [crc] at h; omega
  | c :: l, hl, x, y, hx, hy, h => by
    have hc := hl c (by simp)
    obtain ⟨n, rfl⟩ := Int.eq_ofNat_of_zero_le hc.1
    obtain ⟨x', hx', e⟩ := stp_nat x n hx (by omega)
    obtain ⟨y', hy', e'⟩ := stp_nat y n hy (by omega)
    rw [crc, crc, List.foldl_cons, List.foldl_cons, e, e'] at h
    have h2 : x' = y' := crc_inj l (fun x hx => hl x (by simp [hx])) x' y' hx' hy' h
    subst h2
    exact stp_inj x y n hx hy (by omega) (e.trans e'.symm)
theorem crc_turned (l : List Int) (hl : ∀ x ∈ l, 0 ≤ x ∧ x ≤ 255) (i : Nat) (hi : i < l.length) (c : Int) (h0 : 0 ≤ c ∧ c ≤ 255) (hne : c ≠ l[i]) :
    crc 4294967295 (l.set i c) ≠ crc 4294967295 l := by
  intro h
  have e1 : l = l.take i ++ l[i] :: l.drop (i + 1) := by rw [← List.drop_eq_getElem_cons hi, List.take_append_drop]
  have e2 : l.set i c = l.take i ++ c :: l.drop (i + 1) := by rw [List.set_eq_take_append_cons_drop, if_pos hi]
  rw [e2] at h
  conv at h => rhs; rw [e1]
  rw [crc, crc, List.foldl_append, List.foldl_append, List.foldl_cons, List.foldl_cons] at h
  have ht : ∀ x ∈ l.take i, 0 ≤ x ∧ x ≤ 255 := fun x hx => hl x (List.mem_of_mem_take hx)
  have hd : ∀ x ∈ l.drop (i + 1), 0 ≤ x ∧ x ≤ 255 := fun x hx => hl x (List.mem_of_mem_drop hx)
  obtain ⟨p, hp, ep⟩ := crc_nat (l.take i) ht 4294967295 (by omega)
  have hli := hl l[i] (List.getElem_mem hi)
  obtain ⟨a, ha⟩ := Int.eq_ofNat_of_zero_le h0.1
  obtain ⟨b, hb⟩ := Int.eq_ofNat_of_zero_le hli.1
  have ep' : List.foldl stp 4294967295 (l.take i) = (p : Int) := ep
  rw [ep', ha, hb] at h
  obtain ⟨x, hx, ex⟩ := stp_nat p a hp (by omega)
  obtain ⟨y, hy, ey⟩ := stp_nat p b hp (by omega)
  have h' : crc (stp p a) (l.drop (i + 1)) = crc (stp p b) (l.drop (i + 1)) := h
  rw [ex, ey] at h'
  have hxy := crc_inj _ hd x y hx hy h'
  subst hxy
  have := stp_inj2 p a b hp (by omega) (by omega) (ex.trans ey.symm)
  omega

theorem get4 (a b c d : Int) (ha : 0 ≤ a ∧ a ≤ 255) (hb : 0 ≤ b ∧ b ≤ 255) (hc : 0 ≤ c ∧ c ≤ 255) (hd : 0 ≤ d ∧ d ≤ 255) (r : List Int) :
    sum_Get.f 200 (a :: b :: c :: d :: r) = some (a * 16777216 + b * 65536 + c * 256 + d) := by
  have e1 : bits .or .u32 0 (a % 4294967296) = a := by
    have := u32_or8 0 a (by omega) (by omega) (by omega) (by omega) (by omega)
    rw [show a % 4294967296 = a by omega, this]; omega
  have e2 : bits .or .u32 ((a * 256) % 4294967296) (b % 4294967296) = a * 256 + b := by
    rw [u32_or8 _ _ (by omega) (by omega) (by omega) (by omega) (by omega)]; omega
  have e3 : bits .or .u32 (((a * 256 + b) * 256) % 4294967296) (c % 4294967296) = (a * 256 + b) * 256 + c := by
    rw [u32_or8 _ _ (by omega) (by omega) (by omega) (by omega) (by omega)]; omega
  have e4 : bits .or .u32 ((((a * 256 + b) * 256 + c) * 256) % 4294967296) (d % 4294967296) = ((a * 256 + b) * 256 + c) * 256 + d := by
    rw [u32_or8 _ _ (by omega) (by omega) (by omega) (by omega) (by omega)]; omega
  unfold sum_Get.f
  rw [if_neg (by simp; omega), if_pos (by simp; omega)]
  simp [sum_Get.l0, wrap64, rd, e1, e2, e3, e4]
  omega
theorem four (n : Int) (h : 0 ≤ n) (h1 : n ≤ 4294967295) : sum_Four.f 200 n = some [n / 16777216, n / 65536 % 256, n / 256 % 256, n % 256] := by
  unfold sum_Four.f
  rw [if_pos (by decide)]
  simp [sum_Four.l0, wrap64, shr, IntKind.bits]
  omega
theorem get_ev (l : List Int) (a b c d : Int) (r : List Int) (e : l = a :: b :: c :: d :: r) (ha : 0 ≤ a ∧ a ≤ 255) (hb : 0 ≤ b ∧ b ≤ 255) (hc : 0 ≤ c ∧ c ≤ 255) (hd : 0 ≤ d ∧ d ≤ 255) : Ev (fun k => sum_Get.f k l) (a * 16777216 + b * 65536 + c * 256 + d) := by
  subst e
  exact Ev.of (sum_Get.mono _) (get4 a b c d ha hb hc hd r)
theorem four_ev (n : Int) (h : 0 ≤ n) (h1 : n ≤ 4294967295) : Ev (fun k => sum_Four.f k n) [n / 16777216, n / 65536 % 256, n / 256 % 256, n % 256] := Ev.of (sum_Four.mono _) (four n h h1)

theorem r1_if (x : Nat) (h : x < 4294967296) : (if (Go.bits .and .u32 (x : Int) 1) = 1 then Go.bits .xor .u32 ((x : Int) / 2) 2197175160 else (x : Int) / 2) = r1 x := by
  rw [r1_nat x h, and1_nat x h]
  have e1 : ((x : Int) / 2) = ((x / 2 : Nat) : Int) := by omega
  unfold n1
  rcases Nat.mod_two_eq_zero_or_one x with e | e
  · rw [e, if_neg (by decide), e1]; simp
  · rw [e, if_pos (show ((1 : Nat) : Int) = 1 from rfl), e1, show (2197175160 : Int) = ((2197175160 : Nat) : Int) from rfl, xor_nat _ _ (by omega) (by omega)]
theorem ref_l1 {r : Int} (l : List Int) (j : Int) : ∀ (d : Nat) (x : Nat) (t : Int), x < 4294967296 → 0 ≤ t → t + d = 8 →
    Ev (fun k => lazarusref2_Of.l0 k l (rn d x) (wrap64 (j + 1))) r → Ev (fun k => lazarusref2_Of.l1 k l x j t) r
  | 0, x, t, _, h0, h1, h => Ev.step (fun k => by rw [lazarusref2_Of.l1, if_neg (by omega)]; rfl) h
  | d + 1, x, t, hx, h0, h1, h => by
    have e := r1_if x hx
    refine Ev.step (f := fun k => lazarusref2_Of.l1 k l (r1 x) j (t + 1)) (fun k => ?_) ?_
    · rw [lazarusref2_Of.l1, if_pos (by omega), w64 (by omega) (by omega)]
      split
      · rename_i hc; rw [if_pos hc] at e; rw [e]
      · rename_i hc; rw [if_neg hc] at e; rw [e]
    · rw [r1_nat x hx]
      refine ref_l1 l j d (n1 x) (t + 1) (n1_lt x hx) (by omega) (by omega) ?_
      rw [← r1_nat x hx]
      exact h
theorem ref_l0 (l : List Int) (hl : (l.length : Int) ≤ 281474976710656) (hw : ∀ x ∈ l, 0 ≤ x ∧ x ≤ 255) : ∀ (d : Nat) (x : Nat) (j : Int), x < 4294967296 → 0 ≤ j → j + d = l.length →
    Ev (fun k => lazarusref2_Of.l0 k l x j) (Go.bits .xor .u32 4294967295 (crc x (l.drop j.toNat)))
  | 0, x, j, _, h0, h1 => by
    refine Ev.step (fun k => by rw [lazarusref2_Of.l0, if_neg (by omega)]) ?_
    rw [List.drop_of_length_le (by omega)]
    exact Ev.now _
  | d + 1, x, j, hx, h0, h1 => by
    have hj : j.toNat < l.length := by omega
    have e : l.drop j.toNat = l[j.toNat] :: l.drop (j + 1).toNat := by
      rw [List.drop_eq_getElem_cons hj]
      congr 2
      omega
    have hrd : rd l j = l[j.toNat] := by rw [rd, getD_lt _ _ _ hj]
    have hc := hw l[j.toNat] (List.getElem_mem hj)
    obtain ⟨c, hcE⟩ := Int.eq_ofNat_of_zero_le hc.1
    have hmod : ((c : Int) % 4294967296) = (c : Int) := by omega
    have hlt : x ^^^ c < 4294967296 := by simpa using Nat.xor_lt_two_pow (n := 32) (by simpa using hx) (by omega)
    refine Ev.step (f := fun k => lazarusref2_Of.l1 k l ((x ^^^ c : Nat) : Int) j 0) (fun k => by rw [lazarusref2_Of.l0, if_pos (by omega), if_pos h0, hrd, hcE, hmod, xor_nat x c hx (by omega)]) ?_
    obtain ⟨y, hy, ey⟩ := rn_nat 8 (x ^^^ c) hlt
    refine ref_l1 l j 8 (x ^^^ c) 0 hlt (by omega) (by omega) ?_
    rw [ey, w64 (by omega) (by omega)]
    have h := ref_l0 l hl hw d y (j + 1) hy (by omega) (by omega)
    have es : crc x (l.drop j.toNat) = crc y (l.drop (j + 1).toNat) := by
      rw [e, crc, List.foldl_cons]
      have : stp x l[j.toNat] = y := by unfold stp; rw [hcE, hmod, xor_nat x c hx (by omega), ey]
      rw [this]; rfl
    rw [es]
    exact h
theorem ref_ev (l : List Int) (hl : (l.length : Int) ≤ 281474976710656) (hw : ∀ x ∈ l, 0 ≤ x ∧ x ≤ 255) : Ev (fun k => lazarusref2_Of.f k l) (Go.bits .xor .u32 (crc 4294967295 l) 4294967295) := by
  have h := ref_l0 l hl hw l.length 4294967295 0 (by omega) (by omega) (by omega)
  obtain ⟨y, hy, ey⟩ := crc_nat l hw 4294967295 (by omega)
  have ey' : crc ((4294967295 : Nat) : Int) (l.drop (0 : Int).toNat) = (y : Int) := ey
  rw [ey'] at h
  have ey2 : crc 4294967295 l = (y : Int) := ey
  have e : (4294967295 : Int) = ((4294967295 : Nat) : Int) := rfl
  rw [ey2, e, xor_nat _ _ hy (by omega), Nat.xor_comm]
  rw [e, xor_nat _ _ (by omega) hy] at h
  exact h
theorem get_ref (l : List Int) (hw : ∀ x ∈ l, 0 ≤ x ∧ x ≤ 255) : ∃ r, Ev (fun k => sum_Get.f k l) r ∧ lazarusref2_Get.f l = some r := by
  by_cases h : (l.length : Int) < 4
  · exact ⟨0, ⟨0, fun k _ => by show sum_Get.f k l = some 0; unfold sum_Get.f; rw [if_pos h]⟩, by unfold lazarusref2_Get.f; rw [if_pos h]⟩
  · obtain ⟨a, b, c, d, r, rfl⟩ : ∃ a b c d r, l = a :: b :: c :: d :: r := by
      match l, h with
      | a :: b :: c :: d :: r, _ => exact ⟨a, b, c, d, r, rfl⟩
      | [], h => simp at h
      | [_], h => simp at h
      | [_, _], h => simp at h
      | [_, _, _], h => simp at h
    have ha := hw a (by simp)
    have hb := hw b (by simp)
    have hc := hw c (by simp)
    have hd := hw d (by simp)
    refine ⟨_, get_ev _ a b c d r rfl ha hb hc hd, ?_⟩
    unfold lazarusref2_Get.f
    rw [if_neg h, if_pos (by simp; omega), if_pos (by simp; omega), if_pos (by simp; omega), if_pos (by simp; omega)]
    simp only [rd, Int.toNat_zero, List.getD_cons_zero, show (1 : Int).toNat = 1 from rfl, show (2 : Int).toNat = 2 from rfl, show (3 : Int).toNat = 3 from rfl, List.getD_cons_succ]
    rw [show (a % 4294967296 * 16777216) % 4294967296 = a * 16777216 by omega, show (b % 4294967296 * 65536) % 4294967296 = b * 65536 by omega, show (c % 4294967296 * 256) % 4294967296 = c * 256 by omega, show d % 4294967296 = d by omega]
    rw [bits_join .u32 32 (by decide) wraps_u32 24 (a * 16777216) (b * 65536) (by omega) (by omega) (by omega) (by omega) (by omega) (by omega)]
    rw [bits_join .u32 32 (by decide) wraps_u32 16 _ (c * 256) (by omega) (by omega) (by omega) (by omega) (by omega) (by omega)]
    rw [u32_or8 _ d (by omega) (by omega) (by omega) (by omega) (by omega)]
theorem SumTells : ∀ (l0 : List Int) (a1 : Int), (l0.length * 1 ≤ 140737488351232 ∧ ∀ y2 ∈ l0, (Lit.int .u8 y2).wf = true) → (Lit.int .u32 a1).wf = true → ∃ k, lazaruslaw2_SumTells.f k l0 a1 = some true := by
  intro l n hl hn
  have hn := wf_u32 hn
  have hw : ∀ x ∈ l, 0 ≤ x ∧ x ≤ 255 := fun x hx => wf_u8 (hl.2 x hx)
  refine Ev.rounds (g := fun k => lazaruslaw2_SumTells.f k l n) ?_
  unfold lazaruslaw2_SumTells.f
  by_cases h : (l.length : Int) > 2000
  · exact Ev.congr (fun k => if_pos h) (Ev.now _)
  refine Ev.congr (fun k => if_neg h) ?_
  have h1 := of_ev [l] (by simp) (fun row hr => by simp at hr; subst hr; omega)
  rw [show ([l] : List (List Int)).flatten = l by simp] at h1
  refine Ev.bind h1 (Ev.bind (ref_ev l (by omega) hw) (Ev.congr (fun k => if_pos rfl) ?_))
  refine Ev.bind (four_ev n hn.1 hn.2) ?_
  have hf : lazarusref2_Four.f n = some [n / 16777216, n / 65536 % 256, n / 256 % 256, n % 256] := by
    unfold lazarusref2_Four.f
    rw [show n / 16777216 % 256 = n / 16777216 by omega]
  refine Ev.congr (fun k => by rw [hf, Option.bind_some, if_pos rfl]) ?_
  refine Ev.bind (four_ev n hn.1 hn.2) ?_
  refine Ev.bind (get_ev _ _ _ _ _ _ rfl (by omega) (by omega) (by omega) (by omega)) ?_
  refine Ev.congr (fun k => if_pos (by omega)) ?_
  obtain ⟨r, hr, hr2⟩ := get_ref l hw
  refine Ev.bind hr (Ev.congr (fun k => by rw [hr2, Option.bind_some, if_pos rfl]) ?_)
  exact Ev.bind known_ev (Ev.now _)

end Go.Proofs.Ytmelankpfamcgaa.Pure
