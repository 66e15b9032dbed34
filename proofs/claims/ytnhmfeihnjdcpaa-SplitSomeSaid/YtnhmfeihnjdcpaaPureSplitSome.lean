/- No field is without letters but by quotes, and none has a blank but by these or where nothing is split: the printed law answers true. No conditions. -/
import Derived.Test.YtnhmfeihnjdcpaaQSplitSomex2
namespace Go.Proofs.Ytnhmfeihnjdcpaa.Pure
open Go.RowKit Go.Proofs.Ytnhmfeihnjdcpaa.QSplitSome Go.Proofs.YtnhmfeihnjdcpaaW.PrintWords Go.Proofs.YtnhmfeihnjdcpaaW.PrintLast

theorem known_at : lazaruslaw15_known.f 60 = some true := by decide +kernel
theorem known_ev : Ev (fun k => lazaruslaw15_known.f k) true := Ev.of lazaruslaw15_known.mono known_at
theorem w64 {x : Int} (h₀ : -9223372036854775808 ≤ x) (h₁ : x < 9223372036854775808) : wrap64 x = x := by unfold wrap64; omega
theorem some_step (k : Nat) (x0 : List S30) (x3 x4 : Bool) (x5 x6 : Int) (h : x6 < (x0.length : Int)) (h0 : 0 ≤ x6) :
    lazaruslaw15_SplitSome.l0 (k + 1) x0 x3 x4 x5 x6 = if wrap64 (x5 + ((rd_T30 x0 x6).f0.size : Int)) > 300 then some true else if x6 > 50 then some true else
      lazaruslaw15_SplitSome.l0 k x0 (x3 || (rd_T30 x0 x6).f1) (x4 || (!(rd_T30 x0 x6).f1 && !(rd_T30 x0 x6).f2 && !(rd_T30 x0 x6).f3)) (wrap64 (x5 + ((rd_T30 x0 x6).f0.size : Int))) (wrap64 (x6 + 1)) := by
  rw [lazaruslaw15_SplitSome.l0, if_pos h]
  generalize rd_T30 x0 x6 = r
  obtain ⟨a, b, c, d⟩ := r
  simp only [if_pos h0]
  cases x3 <;> cases x4 <;> cases b <;> cases c <;> simp
/-- A letter that may stand in a field. -/
def Good (c : S34) : Prop := c.f1 = true ∨ split_Fields.blank c.f0 = false
def Sound (q h : Bool) (s : split_Fields.St) : Prop :=
  (q = false → (∀ f ∈ s.fs, f ≠ []) ∧ (s.begun = true → s.now ≠ [])) ∧ (h = false → (∀ f ∈ s.fs, ∀ c ∈ f, Good c) ∧ ∀ c ∈ s.now, Good c)
theorem sound_end {q h : Bool} {s : split_Fields.St} (hs : Sound q h s) : Sound q h (split_Fields.endS s) := by
  obtain ⟨fs, now, begun⟩ := s
  obtain ⟨h1, h2⟩ := hs
  cases begun with
  | false => exact ⟨fun e => ⟨(h1 e).1, fun e2 => by cases e2⟩, fun e => ⟨(h2 e).1, fun c hc => by cases hc⟩⟩
  | true =>
    refine ⟨fun e => ⟨fun f hf => ?_, fun e2 => by cases e2⟩, fun e => ⟨fun f hf => ?_, fun c hc => by cases hc⟩⟩
    · rcases List.mem_append.1 hf with hf | hf
      · exact (h1 e).1 f hf
      · obtain rfl : f = now := by simpa using hf
        exact (h1 e).2 rfl
    · rcases List.mem_append.1 hf with hf | hf
      · exact (h2 e).1 f hf
      · obtain rfl : f = now := by simpa using hf
        exact (h2 e).2
theorem sound_put {q h : Bool} {s : split_Fields.St} (l : List S34) (hs : Sound q h s) (hl : q = false → l ≠ []) (hg : h = false → ∀ c ∈ l, Good c) : Sound q h (split_Fields.putS l s) := by
  obtain ⟨fs, now, begun⟩ := s
  obtain ⟨h1, h2⟩ := hs
  refine ⟨fun e => ⟨(h1 e).1, fun _ => ?_⟩, fun e => ⟨(h2 e).1, fun c hc => ?_⟩⟩
  · show now ++ l ≠ []
    simp [hl e]
  · rcases List.mem_append.1 hc with hc | hc
    · exact (h2 e).2 c hc
    · exact hg e c hc
theorem sound_plain {q h sp : Bool} (hsp : h = false → sp = true) : ∀ (l : List Int) (s : split_Fields.St), Sound q h s → Sound q h (split_Fields.plainS sp l s)
  | [], s, hs => hs
  | c :: l, s, hs => by
    refine sound_plain hsp l (split_Fields.stepS sp s c) ?_
    unfold split_Fields.stepS
    split
    · exact sound_end hs
    · rename_i hb
      refine sound_put _ hs (fun _ => by simp) (fun e c' hc => ?_)
      obtain rfl : c' = ⟨c, false⟩ := by simpa using hc
      rw [hsp e] at hb
      exact .inr (by simpa using hb)
theorem sound_run {q h : Bool} {s : split_Fields.St} (r : S30) (hs : Sound q h s) (hq : q = false → r.f1 = false) (hh : h = false → (!r.f1 && !r.f2 && !r.f3) = false) : Sound q h (split_Fields.runS s r) := by
  unfold split_Fields.runS
  split
  · exact sound_end hs
  · rename_i h3
    split
    · rename_i h1
      refine sound_put _ hs (fun e => by rw [hq e] at h1; cases h1) (fun _ c hc => ?_)
      obtain ⟨x, _, rfl⟩ := List.mem_map.1 hc
      exact .inl rfl
    · rename_i h1
      refine sound_plain (fun e => ?_) _ _ hs
      have := hh e
      cases h2 : r.f2 with
      | true => rfl
      | false => simp [h1, h2, h3] at this
theorem sound_all {q h : Bool} : ∀ (l : List S30) (s : split_Fields.St), Sound q h s → (q = false → ∀ r ∈ l, r.f1 = false) → (h = false → ∀ r ∈ l, (!r.f1 && !r.f2 && !r.f3) = false) → Sound q h (l.foldl split_Fields.runS s)
  | [], s, hs, _, _ => hs
  | r :: l, s, hs, hq, hh => sound_all l (split_Fields.runS s r) (sound_run r hs (fun e => hq e r (by simp)) (fun e => hh e r (by simp))) (fun e r' hr => hq e r' (by simp [hr])) (fun e r' hr => hh e r' (by simp [hr]))
/-- The letters of one field. -/
theorem some_l2 (x3 x4 : Bool) (fs : List (List S34)) (x8 : Int) (h0 : 0 ≤ x8) (h1 : x8 < fs.length) (hg : x4 = false → ∀ c ∈ rd_L7 fs x8, Good c) (hlen : (rd_L7 fs x8).length < 4611686018427387904)
    (hn : Ev (fun k => lazaruslaw15_SplitSome.l1 k x3 x4 fs (wrap64 (x8 + 1))) true) : ∀ (d : Nat) (x9 : Int), 0 ≤ x9 → x9 + d = (rd_L7 fs x8).length → Ev (fun k => lazaruslaw15_SplitSome.l2 k x3 x4 fs x8 x9) true
  | 0, x9, h9, hd => by
    refine Ev.step (fun k => by rw [lazaruslaw15_SplitSome.l2, if_pos h0, if_pos h1, if_neg (by omega)]) hn
  | d + 1, x9, h9, hd => by
    have ih := some_l2 x3 x4 fs x8 h0 h1 hg hlen hn d (x9 + 1) (by omega) (by omega)
    refine Ev.step (fun k => by rw [lazaruslaw15_SplitSome.l2, if_pos h0, if_pos h1, if_pos (by omega), if_pos h9, w64 (by omega) (by omega)]) ?_
    have hm : rd_T34 (rd_L7 fs x8) x9 ∈ rd_L7 fs x8 := by
      have hj : x9.toNat < (rd_L7 fs x8).length := by omega
      have : rd_T34 (rd_L7 fs x8) x9 = (rd_L7 fs x8)[x9.toNat] := by unfold rd_T34; simp [List.getD_eq_getElem?_getD, hj]
      rw [this]; exact List.getElem_mem hj
    by_cases hq : (rd_T34 (rd_L7 fs x8) x9).f1 = true
    · exact Ev.congr (fun k => if_pos hq) ih
    refine Ev.congr (fun k => if_neg hq) ?_
    by_cases hh : x4 = true
    · exact Ev.congr (fun k => if_pos hh) ih
    refine Ev.congr (fun k => if_neg hh) ?_
    rcases hg (by simpa using hh) _ hm with hgo | hgo
    · exact absurd hgo hq
    simp only [split_Fields.blank, Bool.or_eq_false_iff, beq_eq_false_iff_ne] at hgo
    exact Ev.congr (fun k => by rw [if_neg hgo.1.1, if_neg hgo.1.2, if_neg hgo.2]) ih
theorem some_l1 (x3 x4 : Bool) (fs : List (List S34)) (hf : x3 = false → ∀ f ∈ fs, f ≠ []) (hg : x4 = false → ∀ f ∈ fs, ∀ c ∈ f, Good c) (hl : fs.length < 4611686018427387904) (hlen : ∀ f ∈ fs, f.length < 4611686018427387904) :
    ∀ (d : Nat) (x8 : Int), 0 ≤ x8 → x8 + d = fs.length → Ev (fun k => lazaruslaw15_SplitSome.l1 k x3 x4 fs x8) true
  | 0, x8, h0, hd => by
    refine Ev.step (fun k => by rw [lazaruslaw15_SplitSome.l1, if_neg (by omega)]) ?_
    exact Ev.bind known_ev (Ev.now _)
  | d + 1, x8, h0, hd => by
    have ih := some_l1 x3 x4 fs hf hg hl hlen d (x8 + 1) (by omega) (by omega)
    have hm : rd_L7 fs x8 ∈ fs := by
      have hj : x8.toNat < fs.length := by omega
      have : rd_L7 fs x8 = fs[x8.toNat] := by unfold rd_L7; simp [List.getD_eq_getElem?_getD, hj]
      rw [this]; exact List.getElem_mem hj
    have hn : Ev (fun k => lazaruslaw15_SplitSome.l1 k x3 x4 fs (wrap64 (x8 + 1))) true := by rw [w64 (by omega) (by omega)]; exact ih
    have h2 := some_l2 x3 x4 fs x8 h0 (by omega) (fun e => hg e _ hm) (hlen _ hm) hn (rd_L7 fs x8).length 0 (by omega) (by omega)
    have hj : Ev (fun k => lazaruslaw15_SplitSome.j2 k x3 x4 fs x8 false) true := Ev.step (fun k => by rw [lazaruslaw15_SplitSome.j2, if_neg (by simp)]) h2
    refine Ev.step (fun k => by rw [lazaruslaw15_SplitSome.l1, if_pos (by omega), if_pos h0]) ?_
    by_cases he : ((rd_L7 fs x8).length : Int) = 0
    · refine Ev.congr (fun k => if_pos he) ?_
      cases x3 with
      | true => exact hj
      | false => exact absurd (List.eq_nil_of_length_eq_zero (by omega)) (hf rfl _ hm)
    · exact Ev.congr (fun k => if_neg he) hj
def tot (s : split_Fields.St) : Nat := (s.fs.map List.length).sum + s.now.length
theorem tot_end (s : split_Fields.St) : tot (split_Fields.endS s) ≤ tot s := by
  obtain ⟨fs, now, b⟩ := s
  cases b <;> simp [tot, split_Fields.endS]
theorem tot_put (l : List S34) (s : split_Fields.St) : tot (split_Fields.putS l s) ≤ tot s + l.length := by
  simp [tot, split_Fields.putS]; omega
theorem tot_plain (sp : Bool) : ∀ (l : List Int) (s : split_Fields.St), tot (split_Fields.plainS sp l s) ≤ tot s + l.length
  | [], s => Nat.le_refl _
  | c :: l, s => by
    have h : tot (split_Fields.plainS sp l (split_Fields.stepS sp s c)) ≤ _ := tot_plain sp l (split_Fields.stepS sp s c)
    have h1 : tot (split_Fields.stepS sp s c) ≤ tot s + 1 := by
      unfold split_Fields.stepS
      split
      · have := tot_end s; omega
      · have := tot_put [⟨c, false⟩] s; simpa using this
    show tot (split_Fields.plainS sp l (split_Fields.stepS sp s c)) ≤ _
    simp only [List.length_cons]
    omega
theorem tot_run (s : split_Fields.St) (r : S30) : tot (split_Fields.runS s r) ≤ tot s + r.f0.size := by
  have hl : (Kd.letters r.f0).length ≤ r.f0.size := Kd.letN_len r.f0 r.f0.size 0
  unfold split_Fields.runS
  split
  · have := tot_end s; omega
  · split
    · have := tot_put ((Kd.letters r.f0).map (fun c => (⟨c, true⟩ : S34))) s; simp at this; omega
    · have := tot_plain r.f2 (Kd.letters r.f0) s; omega
theorem tot_all : ∀ (l : List S30) (s : split_Fields.St), tot (l.foldl split_Fields.runS s) ≤ tot s + (l.map (fun r => r.f0.size)).sum
  | [], s => Nat.le_refl _
  | r :: l, s => by
    have h := tot_all l (split_Fields.runS s r)
    have := tot_run s r
    simp only [List.foldl_cons, List.map_cons, List.sum_cons]
    omega
theorem wt_all : ∀ (l : List S30) (s : split_Fields.St), split_Fields.wt (l.foldl split_Fields.runS s) ≤ split_Fields.wt s + split_Fields.cost l
  | [], s => Nat.le_refl _
  | r :: l, s => by
    have h := wt_all l (split_Fields.runS s r)
    have := split_Fields.wt_run s r
    simp only [List.foldl_cons, split_Fields.cost, List.map_cons, List.sum_cons] at h ⊢
    omega
theorem cost_le : ∀ (l : List S30), split_Fields.cost l = 2 * (l.map (fun r => r.f0.size)).sum + l.length
  | [] => rfl
  | r :: l => by
    have := cost_le l
    simp only [split_Fields.cost, List.map_cons, List.sum_cons, List.length_cons] at this ⊢
    omega
theorem le_sum : ∀ (l : List (List S34)), ∀ f ∈ l, f.length ≤ (l.map List.length).sum
  | a :: l, f, h => by
    simp only [List.map_cons, List.sum_cons]
    rcases List.mem_cons.1 h with rfl | h
    · omega
    · have := le_sum l f h; omega
theorem some_l0 (l : List S30) (hw : ∀ r ∈ l, r.f0.size ≤ 140737488351232) : ∀ (d : Nat) (x3 x4 : Bool) (x5 x6 : Int), 0 ≤ x6 → x6 + d = l.length → x6 ≤ 51 → x5 = (((l.take x6.toNat).map (fun r => r.f0.size)).sum : Nat) → x5 ≤ 300 →
    (x3 = false → ∀ r ∈ l.take x6.toNat, r.f1 = false) → (x4 = false → ∀ r ∈ l.take x6.toNat, (!r.f1 && !r.f2 && !r.f3) = false) → Ev (fun k => lazaruslaw15_SplitSome.l0 k l x3 x4 x5 x6) true
  | 0, x3, x4, x5, x6, h0, hd, h51, h5, h300, hq, hh => by
    have ht : l.take x6.toNat = l := List.take_of_length_le (by omega)
    rw [ht] at h5 hq hh
    have hc := cost_le l
    have hcost : split_Fields.cost l < 1099511627776 := by omega
    have hsd : Sound x3 x4 (split_Fields.endS (l.foldl split_Fields.runS ⟨[], [], false⟩)) := sound_end (sound_all l ⟨[], [], false⟩ ⟨fun _ => ⟨by simp, by simp⟩, fun _ => ⟨by simp, by simp⟩⟩ hq hh)
    have hwt := split_Fields.wt_end (l.foldl split_Fields.runS ⟨[], [], false⟩)
    have hwt2 := wt_all l ⟨[], [], false⟩
    have htt := tot_end (l.foldl split_Fields.runS ⟨[], [], false⟩)
    have htt2 := tot_all l ⟨[], [], false⟩
    have hi : split_Fields.wt ⟨[], [], false⟩ = 0 := rfl
    have hi2 : tot ⟨[], [], false⟩ = 0 := rfl
    obtain ⟨s, hs⟩ : ∃ s, split_Fields.endS (l.foldl split_Fields.runS ⟨[], [], false⟩) = s := ⟨_, rfl⟩
    have hf : split_Fields.f l = some s.fs := by rw [split_Fields.f, if_pos hcost, hs]
    rw [hs] at hsd hwt htt
    have hlen : s.fs.length ≤ split_Fields.wt s := by unfold split_Fields.wt; omega
    have hsum : (s.fs.map List.length).sum ≤ tot s := by unfold tot; omega
    refine Ev.step (fun k => by rw [lazaruslaw15_SplitSome.l0, if_neg (by omega), hf]) ?_
    exact some_l1 x3 x4 s.fs (fun e => (hsd.1 e).1) (fun e => (hsd.2 e).1) (by omega) (fun f hf => by have := le_sum s.fs f hf; omega) s.fs.length 0 (by omega) (by omega)
  | d + 1, x3, x4, x5, x6, h0, hd, h51, h5, h300, hq, hh => by
    refine Ev.step (fun k => some_step k l x3 x4 x5 x6 (by omega) h0) ?_
    have hj : x6.toNat < l.length := by omega
    have er : rd_T30 l x6 = l[x6.toNat] := by unfold rd_T30; simp [List.getD_eq_getElem?_getD, hj]
    have hm := hw l[x6.toNat] (List.getElem_mem hj)
    rw [er]
    have e5 : wrap64 (x5 + (l[x6.toNat].f0.size : Int)) = x5 + (l[x6.toNat].f0.size : Int) := w64 (by omega) (by omega)
    rw [e5]
    by_cases hb : x5 + (l[x6.toNat].f0.size : Int) > 300
    · exact Ev.congr (fun k => if_pos hb) (Ev.now _)
    refine Ev.congr (fun k => if_neg hb) ?_
    by_cases h50 : x6 > 50
    · exact Ev.congr (fun k => if_pos h50) (Ev.now _)
    refine Ev.congr (fun k => by rw [if_neg h50, w64 (by omega) (by omega)]) ?_
    have et : l.take (x6 + 1).toNat = l.take x6.toNat ++ [l[x6.toNat]] := by
      rw [show (x6 + 1).toNat = x6.toNat + 1 by omega, List.take_succ_eq_append_getElem hj]
    refine some_l0 l hw d _ _ _ (x6 + 1) (by omega) (by omega) (by omega) ?_ (by omega) ?_ ?_
    · rw [et, List.map_append, List.sum_append, h5]; simp
    · rw [et]
      intro e r hr
      rw [Bool.or_eq_false_iff] at e
      rcases List.mem_append.1 hr with hr | hr
      · exact hq e.1 r hr
      · obtain rfl : r = l[x6.toNat] := by simpa using hr
        exact e.2
    · rw [et]
      intro e r hr
      rw [Bool.or_eq_false_iff] at e
      rcases List.mem_append.1 hr with hr | hr
      · exact hh e.1 r hr
      · obtain rfl : r = l[x6.toNat] := by simpa using hr
        exact e.2
theorem SplitSome : ∀ (l0 : List S30), (l0.length * 24 ≤ 140737488351232 ∧ ∀ y2 ∈ l0, (y2.f0.size ≤ 140737488351232 ∧ True ∧ True ∧ True)) → ∃ k, lazaruslaw15_SplitSome.f k l0 = some true := by
  intro l hl
  exact (some_l0 l (fun r hr => (hl.2 r hr).1) l.length false false 0 0 (by omega) (by omega) (by omega) rfl (by omega) (by simp) (by simp)).rounds

end Go.Proofs.Ytnhmfeihnjdcpaa.Pure
