/- Names are so long and no longer, and none has another letter: the printed law answers true. No conditions beyond the laid tables of the library. -/
import Derived.Test.YtnhmfeihnjdcpaaDoorQGlyphNamesx2
import Derived.Lib.RuneCountTail
namespace Go.Proofs.YtnhmfeihnjdcpaaDoor.Pure
open Go.RowKit Go.Proofs.YtnhmfeihnjdcpaaDoor.QGlyphNames Go.Proofs.YtnhmfeihnjdcpaaDoorW.PrintWords Go.Proofs.YtnhmfeihnjdcpaaDoorW.PrintLast

theorem w64 {x : Int} (h₀ : -9223372036854775808 ≤ x) (h₁ : x < 9223372036854775808) : wrap64 x = x := by unfold wrap64; omega

theorem name_rest (s : ByteArray) : ∀ (d pos : Nat), pos ≠ 0 → glyph_Name.go s d pos = (Kd.letN s d pos).all glyph_Name.mor
  | 0, _, _ => rfl
  | d + 1, pos, h => by
    rw [glyph_Name.go, Kd.letN]
    by_cases hp : pos < s.size
    · have := Kd.width_pos s pos hp
      rw [if_pos hp, if_pos hp, List.all_cons, name_rest s d _ (by omega)]
      cases glyph_Name.mor ((Utf8.decode s pos).1 : Int) <;> simp [h]
    · rw [if_neg hp, if_neg hp]
      rfl
theorem letN_cons (s : ByteArray) (h : s.size ≠ 0) : Kd.letters s = ((Utf8.decode s 0).1 : Int) :: Kd.letN s (s.size - (Utf8.decode s 0).2) (Utf8.decode s 0).2 := by
  have := Kd.letN_at s 0 (by omega)
  rw [Nat.sub_zero, Nat.zero_add] at this
  exact this
theorem name_go (s : ByteArray) (h : s.size ≠ 0) : glyph_Name.go s s.size 0 = (glyph_Name.fst ((Utf8.decode s 0).1 : Int) && (Kd.letters s).all glyph_Name.mor) := by
  have h1 := glyph_Name.go_at s 0 (by omega)
  have hw := Kd.width_pos s 0 (by omega)
  rw [Nat.sub_zero, Nat.zero_add] at h1
  rw [h1, letN_cons s h, List.all_cons, name_rest s _ _ (by omega)]
  cases glyph_Name.fst ((Utf8.decode s 0).1 : Int) <;> cases glyph_Name.mor ((Utf8.decode s 0).1 : Int) <;> simp

theorem get_lt (s : ByteArray) (k : Nat) (h : k < s.size) : s.get! k = s[k]'h := by
  obtain ⟨a⟩ := s
  show a[k]! = a[k]'h
  exact getElem!_pos a k h
theorem bt_get (s : ByteArray) (i : Nat) (h : i < s.size) : ((s.get! i).toNat : Int) = bt s (i : Int) := by
  rw [← bt_at s (i : Int) (by omega), get_lt s i h]
  rfl
/-- A letter and its bytes: one byte below 128, or bytes all above. -/
theorem dec (s : ByteArray) (pos : Nat) (h : pos < s.size) : ((Utf8.decode s pos).2 = 1 ∧ ((Utf8.decode s pos).1 : Int) = bt s (pos : Int) ∧ bt s (pos : Int) < 128) ∨ (128 ≤ (Utf8.decode s pos).1 ∧ 128 ≤ bt s (pos : Int)) := by
  have g0 := bt_get s pos h
  rw [Lib.decode_at]
  generalize (s.get! pos).toNat = b0 at *
  generalize (s.get! (pos + 1)).toNat = b1 at *
  generalize (s.get! (pos + 2)).toNat = b2 at *
  generalize (s.get! (pos + 3)).toNat = b3 at *
  unfold Lib.decodeN
  repeat' split
  all_goals first
    | exact .inl ⟨rfl, g0, by omega⟩
    | exact .inr ⟨by simp only; omega, by omega⟩

theorem mor_big {c : Int} (h : 128 ≤ c) : glyph_Name.mor c = false := by
  unfold glyph_Name.mor glyph_More.f glyph_First.f
  rw [if_pos (by omega), if_neg (by omega), if_pos (by omega), if_neg (by omega)]
  have h1 : (c == 95) = false := beq_eq_false_iff_ne.2 (by omega)
  have h2 : decide (c ≤ 57) = false := decide_eq_false (by omega)
  rw [h1]
  simp only [Option.bind_some]
  rw [if_neg (by simp), if_pos (by omega), h2]
  rfl
theorem mor_less {c : Int} (h : c < 0) : glyph_Name.mor c = false := by
  unfold glyph_Name.mor glyph_More.f glyph_First.f
  rw [if_neg (by omega), if_neg (by omega)]
  have h1 : (c == 95) = false := beq_eq_false_iff_ne.2 (by omega)
  rw [h1]
  simp only [Option.bind_some]
  rw [if_neg (by simp), if_neg (by omega)]
  rfl
theorem b8 (n : Nat) (h : n < 256) : (UInt8.ofNat n).toNat = n := by simp; omega
theorem high (r : Int) (hr : ¬ (0 ≤ r ∧ r < 128)) : ∃ b t, (Utf8.encode r).data.toList = b :: t ∧ 128 ≤ b.toNat := by
  obtain ⟨c, hc, h1, h2⟩ : ∃ c, (if Utf8.valid r then r.toNat else Utf8.runeError) = c ∧ 128 ≤ c ∧ c ≤ 1114111 := by
    by_cases hv : Utf8.valid r = true
    · refine ⟨r.toNat, if_pos hv, ?_, ?_⟩ <;> (simp [Utf8.valid] at hv; omega)
    · exact ⟨65533, if_neg hv, by omega, by omega⟩
  unfold Utf8.encode
  rw [hc]
  simp only
  rw [if_neg (by omega)]
  split
  · exact ⟨_, _, rfl, by rw [b8 _ (by omega)]; omega⟩
  · split
    · exact ⟨_, _, rfl, by rw [b8 _ (by omega)]; omega⟩
    · exact ⟨_, _, rfl, by rw [b8 _ (by omega)]; omega⟩
theorem runes_one (r : Int) : runesBytes [r] = Utf8.encode r := by
  show ByteArray.empty ++ Utf8.encode r = Utf8.encode r
  apply ByteArray.ext
  simp [ByteArray.data_append]
theorem low_at : ∀ n : Nat, n < 128 → glyph_Name.f ((⟨#[107]⟩ : ByteArray) ++ runesBytes [(n : Int)]) = glyph_More.f (n : Int) := by decide +kernel
theorem ks_at : ∀ n : Nat, n < 41 → glyph_Name.f ⟨(List.replicate n (107 : UInt8)).toArray⟩ = some (decide (1 ≤ n) && decide (n ≤ 12)) := by decide +kernel
theorem encode_size (r : Int) : (Utf8.encode r).size ≤ 4 := by
  unfold Utf8.encode
  simp only
  repeat' split
  all_goals simp [ByteArray.size]
theorem k_name (r : Int) : glyph_Name.f ((⟨#[107]⟩ : ByteArray) ++ runesBytes [r]) = glyph_More.f r := by
  by_cases hr : 0 ≤ r ∧ r < 128
  · have := low_at r.toNat (by omega)
    rwa [show ((r.toNat : Nat) : Int) = r by omega] at this
  · obtain ⟨b, t, hl, hb⟩ := high r hr
    have hm : glyph_Name.mor r = false := by
      by_cases h0 : r < 0
      · exact mor_less h0
      · exact mor_big (by omega)
    rw [runes_one, glyph_Name.mor_f, hm]
    have hes := encode_size r
    obtain ⟨s, hs⟩ : ∃ s, (⟨#[107]⟩ : ByteArray) ++ Utf8.encode r = s := ⟨_, rfl⟩
    have hsl : s.data.toList = 107 :: b :: t := by rw [← hs]; simp [ByteArray.data_append, hl]
    have hsz : s.size = t.length + 2 := by rw [Lib.size_eq, hsl]; rfl
    have hsz4 : s.size ≤ 5 := by rw [← hs, ByteArray.size_append]; show 1 + _ ≤ 5; omega
    rw [hs, glyph_Name.f, if_pos (by omega)]
    have g : ∀ i (h : i < s.size), bt s (i : Int) = ((s.data.toList[i]'(by rw [← Lib.size_eq]; exact h)).toNat : Int) := fun i h => by
      rw [← bt_at s (i : Int) (by omega)]
      rfl
    have b0 : bt s ((0 : Nat) : Int) = 107 := by rw [g 0 (by omega)]; simp [hsl]
    have b1 : 128 ≤ bt s ((1 : Nat) : Int) := by rw [g 1 (by omega)]; simp only [hsl]; simp; omega
    have d0 : (Utf8.decode s 0).2 = 1 := by
      rcases dec s 0 (by omega) with h | h
      · exact h.1
      · omega
    have d1 : 128 ≤ (Utf8.decode s 1).1 := by
      rcases dec s 1 (by omega) with h | h
      · omega
      · exact h.1
    have hgo : glyph_Name.go s s.size 0 = false := by
      rw [name_go s (by omega), letN_cons s (by omega), d0, Kd.letN_at s 1 (by omega), List.all_cons, List.all_cons, mor_big (by omega : (128 : Int) ≤ ((Utf8.decode s 1).1 : Int))]
      simp
    rw [hgo]
    rfl
theorem known_at : lazaruslaw7_known.f = some true := by decide +kernel
theorem names_l0 (n : Nat) (hn : n ≤ 40) (x1 : Int) : ∀ (d i : Nat), i + d = n → Ev (fun k => lazaruslaw7_GlyphNames.l0 k (n : Int) x1 ⟨(List.replicate i (107 : UInt8)).toArray⟩ (i : Int)) true
  | 0, i, hd => by
    obtain rfl : i = n := by omega
    have hr := k_name x1
    have hes : (runesBytes [x1]).size ≤ 4 := by rw [runes_one]; exact encode_size x1
    obtain ⟨m, hm⟩ : ∃ m, glyph_More.f x1 = some m := ⟨_, glyph_Name.mor_f x1⟩
    rw [hm] at hr
    refine Ev.step (fun k => by rw [lazaruslaw7_GlyphNames.l0, if_neg (by omega), ks_at i (by omega)]) ?_
    simp only [Option.bind_some]
    by_cases h1 : 1 ≤ i
    · refine Ev.congr (fun k => by rw [if_pos (by omega), if_pos (by simp [h1]; omega)]) ?_
      by_cases h12 : 12 ≤ i
      · exact Ev.congr (fun k => by rw [if_pos (by omega), known_at]; rfl) (Ev.now _)
      · exact Ev.congr (fun k => by rw [if_neg (by omega), if_pos (by omega), hr, hm]; simp [known_at]) (Ev.now _)
    · refine Ev.congr (fun k => by rw [if_neg (by omega), if_pos (by simp [h1])]) ?_
      exact Ev.congr (fun k => by rw [if_neg (by omega), if_pos (by omega), hr, hm]; simp [known_at]) (Ev.now _)
  | d + 1, i, hd => by
    have ih := names_l0 n hn x1 d (i + 1) (by omega)
    have e : (⟨(List.replicate i (107 : UInt8)).toArray⟩ : ByteArray) ++ ⟨#[107]⟩ = ⟨(List.replicate (i + 1) (107 : UInt8)).toArray⟩ := by
      apply ByteArray.ext
      apply Array.ext'
      rw [ByteArray.data_append, List.replicate_succ']
      simp only [Array.toList_append, List.toList_toArray]
    have hz : (⟨(List.replicate i (107 : UInt8)).toArray⟩ : ByteArray).size = i := by simp [ByteArray.size]
    refine Ev.step (fun k => by rw [lazaruslaw7_GlyphNames.l0, if_pos (by omega), if_pos (by omega), e, w64 (by omega) (by omega), show (i : Int) + 1 = ((i + 1 : Nat) : Int) by omega]) ih
theorem GlyphNames : ∀ (a0 : Int) (a1 : Int), (Lit.int .i64 a0).wf = true → (Lit.int .i32 a1).wf = true → ∃ k, lazaruslaw7_GlyphNames.f k a0 a1 = some true := by
  intro n r _ _
  by_cases h0 : n < 0
  · exact ⟨1, by rw [lazaruslaw7_GlyphNames.f, if_pos h0, lazaruslaw7_GlyphNames.j0, if_pos rfl]⟩
  by_cases h40 : n > 40
  · exact ⟨1, by rw [lazaruslaw7_GlyphNames.f, if_neg h0, lazaruslaw7_GlyphNames.j0, if_pos (by simpa using h40)]⟩
  have h := names_l0 n.toNat (by omega) r n.toNat 0 (by omega)
  rw [show ((n.toNat : Nat) : Int) = n by omega] at h
  refine Ev.rounds (g := fun k => lazaruslaw7_GlyphNames.f k n r) (Ev.congr (fun k => by rw [lazaruslaw7_GlyphNames.f, if_neg h0]) ?_)
  exact Ev.step (fun k => by rw [lazaruslaw7_GlyphNames.j0, if_neg (by simpa using h40)]; rfl) h

end Go.Proofs.YtnhmfeihnjdcpaaDoor.Pure
