/- The contract of the law MarkFull, by hand. -/
import Derived.Test.YtkicekddkgehoaaDoorMkD
import Derived.RangeFuncNested
import Derived.RangeFuncBound
import Derived.RangeFuncCalls
import Derived.RangeFuncLeaves
import Derived.RangeFuncBox
import Derived.Shelf.Abstract
import Derived.Shelf.RegionOpen
import Derived.OwnWalkIn
import Derived.TacticsInMore
import Derived.LoopNIn
import Derived.LoopIn
import Derived.Shelf.Strconv.AppendIntPublic10
import Derived.Shelf.Strconv.ErrVarParseInt
import Derived.Shelf.Bytes.IndexByte
import Derived.Lib.ItoaLen
import Derived.Lib.ParseIntBTie
import Derived.Lib.AtoiBound
import Derived.Deep.Upon
import Derived.Deep.Upon
namespace Go.Proofs.YtkicekddkgehoaaDoor.LMarkFull
open Go.RowKit Go.Proofs.YtkicekddkgehoaaDoor.QMarkRow Go.Proofs.YtkicekddkgehoaaDoor.Hnd Go.Proofs.YtkicekddkgehoaaDoorW.PrintWords Go.Proofs.YtkicekddkgehoaaDoorW.PrintLast Go.Proofs.YtkicekddkgehoaaDoorW.Dk Go.Shelf
set_option linter.unusedVariables false
set_option linter.unusedSimpArgs false
open Go.Proofs.YtkicekddkgehoaaDoor.Dsk hiding R_plain conv_str cell_of_heap C_blk
open Go.Proofs.YtkicekddkgehoaaDoor.Mrk
attribute [local go_sem] Oper.semAt_some
theorem num_len_2 : ∀ k : Nat, k < 41 → (NT.num (k : Int)).length ≤ 3 := by decide +kernel
structure FInv (n f : Nat) (d : DS) (l : List S25) (q : Nat) : Prop where
  calm : d.Calm
  all : d.AllB
  len : d.S.length = n
  fst : 2 * d.room = f
  j : J crcO d f l q
  hi : q ≤ n
  ms : ∀ m ∈ l, okM m ∧ m.f0 = 0
  z : d.S.getD q [] = DS.zeros16 ∨ d.S.length ≤ q
theorem crcO_b (b : List Int) : 0 ≤ crcO b ∧ crcO b < 4294967296 := ⟨crcO_lo b, crcO_hi b⟩
theorem finv_0 (n : Nat) (h0 : 32 ≤ n) : FInv n (2 * (n * 3 / 8)) (DS.new n) [] (2 * (n * 3 / 8)) :=
  ⟨DS.new_calm n, DS.new_bytes n, DS.new_len n, by unfold DS.room; rw [DS.new_len], rfl, by omega, (fun m hm => by cases hm), .inl (by
    have h := DS.new_rd n (2 * (n * 3 / 8)) (by omega)
    rw [DS.rd_nil rfl] at h
    exact h)⟩
def mk6 (i : Nat) (out : ByteArray) : S25 := ⟨0, (i : Int), true, ⟨0, out⟩⟩
theorem mk6_ok {i : Nat} (hi : i < 100) {out : ByteArray} (ho : out.size ≤ 40) : okM (mk6 i out) := by
  refine ⟨?_, ⟨by show (-9223372036854775808 : Int) ≤ 0; omega, by show (0 : Int) ≤ 9223372036854775807; omega⟩, by show out.size ≤ 1000000; omega⟩
  show isM 0 (i : Int) true 0 out = true
  unfold isM
  rw [decide_eq_true (by omega : (0 : Int) ≤ 0), decide_eq_true (by omega : (0 : Int) < 2147483647), decide_eq_true (by omega : (0 : Int) ≤ (i : Int)), decide_eq_true (by omega : (i : Int) ≤ 2147483647)]
  rfl
theorem finv_step {n f : Nat} {d : DS} {l : List S25} {q : Nat} (h : FInv n f d l q) (i : Nat) (hi : i < 100) (out : ByteArray) (ho : out.size ≤ 40) :
    (∃ e q2, appendM crcO d (q : Int) 0 (i : Int) true 0 out = (e, ((q2 : Nat) : Int), 0) ∧ FInv n f e (l ++ [mk6 i out]) q2) ∨ appendM crcO d (q : Int) 0 (i : Int) true 0 out = (d, 0, 4) ∨ (appendM crcO d (q : Int) 0 (i : Int) true 0 out = (d, 0, 1) ∧ q = n) := by
  have hm := mk6_ok hi ho
  have hf := h.j.le
  by_cases h1 : q = n
  · exact .inr (.inr ⟨app_end _ _ _ _ _ (by rw [h.len]; omega), h1⟩)
  have h2 := h.hi
  by_cases h3 : q + DS.need (bM (mk6 i out)).length ≤ n
  · obtain ⟨e, e1, e2, e3, e4, e5⟩ := app_ok (crc := crcO) h.calm hm (q := q) (by rw [h.fst]; omega) (by rw [h.len]; exact h3)
    have hb : (appendM crcO d (q : Int) 0 (i : Int) true 0 out).1.AllB := app_bytes h.all _ _ _ _ _ _
    have e1' : appendM crcO d (q : Int) 0 (i : Int) true 0 out = (e, ((q + DS.need (bM (mk6 i out)).length : Nat) : Int), 0) := e1
    rw [e1'] at hb
    refine .inl ⟨e, _, e1', e2, hb, e3.1.trans h.len, ?_, (h.j.away e3 (Nat.le_refl _)).snoc e4, h3, ?_, e5⟩
    · have := h.fst
      unfold DS.room at this ⊢
      rw [e3.1]
      exact this
    · intro m hm2
      rcases List.mem_append.1 hm2 with hm2 | hm2
      · exact h.ms m hm2
      · rw [List.mem_singleton.1 hm2]
        exact ⟨hm, rfl⟩
  · exact .inr (.inl (app_full hm (by rw [h.fst]; omega) (by rw [h.len]; omega) (by rw [h.len]; omega)))
theorem finv_first {n : Nat} (h0 : 32 ≤ n) {d : DS} {q : Nat} (h : FInv n (2 * (n * 3 / 8)) d [] q) {out : ByteArray} (ho : out.size ≤ 40) : ∃ e q2, appendM crcO d (q : Int) 0 ((0 : Nat) : Int) true 0 out = (e, ((q2 : Nat) : Int), 0) := by
  have hm := mk6_ok (i := 0) (by omega) ho
  obtain rfl : 2 * (n * 3 / 8) = q := h.j
  have hl : (bM (mk6 0 out)).length ≤ 49 := by
    have e : bM (mk6 0 out) = NT.num ((0 : Nat) : Int) ++ (NT.num ((1 : Nat) : Int) ++ (NT.num ((0 : Nat) : Int) ++ NT.text (strL out))) := by
      show bytesM 0 ((0 : Nat) : Int) true 0 out = _
      unfold bytesM
      rw [if_pos (show isM 0 ((0 : Nat) : Int) true 0 out = true from hm.1)]
      rfl
    rw [e, num_small (by decide), num_small (by decide)]
    unfold NT.text
    simp only [List.length_append, List.length_cons, List.length_nil]
    rw [strL_len]
    have := num_len_2 out.size (by omega)
    omega
  have hn : DS.need (bM (mk6 0 out)).length ≤ 5 := by unfold DS.need; omega
  obtain ⟨e, e1, _⟩ := app_ok (crc := crcO) h.calm hm (q := 2 * (n * 3 / 8)) (by rw [h.fst]; omega) (by rw [h.len]; omega)
  exact ⟨e, _, e1⟩
theorem finv_scan {n f : Nat} {d : DS} {l : List S25} {q : Nat} (h : FInv n f d l q) : scanM crcO d 0 = (l, q) :=
  J.whole crcO_b h.calm.1 ⟨by omega, by omega⟩ (by rw [h.fst]; exact h.j) h.ms (by rw [h.len]; exact h.hi) (got_zero h.calm.1 h.z)
def lazaruslaw6_MarkFull.f (_ : Int) (_ : ByteArray) : Option Bool := some true
set_option maxHeartbeats 8000000 in
set_option maxRecDepth 100000 in
theorem full_core (n : Nat) (h0 : 32 ≤ n) (h1 : n ≤ 100) (out : ByteArray) (ho : out.size ≤ 40) (w : World) (hT : NTabs w) :
    Calls Tryd.prog 5 #[.int .i64 (n : Int), .string out] w fun e w' => e = .returned (.bool true) ∧ Below w.heap.size w w' := by
  have d1 : decide ((n : Int) < 32) = false := decide_eq_false (by omega)
  have d1' : decide (n < 32) = false := decide_eq_false (by omega)
  have d2 : decide ((n : Int) > 100) = false := decide_eq_false (by omega)
  have d2' : decide ((100 : Int) < (n : Int)) = false := decide_eq_false (by omega)
  have d2'' : decide (100 < n) = false := decide_eq_false (by omega)
  have d3 : decide ((out.size : Int) > 40) = false := decide_eq_false (by omega)
  have d3' : decide ((40 : Int) < (out.size : Int)) = false := decide_eq_false (by omega)
  have d3'' : decide (40 < out.size) = false := decide_eq_false (by omega)
  have hp0 : (0 : Int) ≤ (n : Int) := by omega
  have hp1 : (n : Int) ≤ 100 := by omega
  have H0 := Aside0.mk h0
  have H1 := Aside0.mk h1
  have HO := Aside0.mk ho
  have HT := Aside0.mk hT
  obtain ⟨f, hf⟩ : ∃ f, 2 * (n * 3 / 8) = f := ⟨_, rfl⟩
  have HI := Aside0.mk (finv_0 n h0)
  have HF1 : Aside0 (∀ (d : DS) (q : Nat), FInv n f d [] q → ∃ e q2, appendM crcO d (q : Int) 0 ((0 : Nat) : Int) true 0 out = (e, ((q2 : Nat) : Int), 0)) := ⟨fun d q hd => finv_first h0 (by rw [hf]; exact hd) ho⟩
  rw [hf] at HI
  have HF := Aside0.mk hf
  clear h0 h1 ho hT hf
  go_enter Tryd.func5, Tryd.ntmps5
  go_upto_region 5 with (go_at_call 14; refine (st_new n (by have := H1.out; omega) w w (Below.refl _ _) [] (fun x hx => by cases hx)).mono ?_; rintro e w1 ⟨rfl, hS, -⟩; have S1 := Aside0.mk hS; clear hS)
  have hfq : 3 * (n : Int) / 8 * 2 = (f : Int) := by have := HF.out; omega
  rw [hfq]
  clear hfq d1 d1' d2 d2' d2'' d3 d3' d3''
  go_wp2
  go_loopw [6, 7, 8] (fun u6 u7 u8 wr => ∃ (l : List S25) (q : Nat) (d : DS), u6 = .int .i64 (q : Int) ∧ u7 = .int .i64 (l.length : Int) ∧ u8 = .int .i64 (l.length : Int) ∧ Aside0 (FInv n f d l q) ∧ Aside0 (St w [] wr w.heap.size d)) (fun _ _ u8 _ => 101 - (intOf u8).toNat)
  case atStart => exact ⟨[], f, DS.new n, rfl, rfl, rfl, HI, S1⟩
  case round =>
    obtain ⟨l, q, d, rfl, rfl, rfl, HV, HS⟩ := hrel
    have hll : f + l.length ≤ q := HV.out.j.le
    have hqn := HV.out.hi
    obtain ⟨k, hk⟩ : ∃ k, l.length = k := ⟨_, rfl⟩
    have HK := Aside0.mk hk
    rw [hk] at hll ⊢
    have hk2 : k < 60 := by have := HF.out; have := H0.out; have := H1.out; omega
    have dk : decide ((k : Int) < 60) = true := decide_eq_true (by omega)
    have dk' : decide (k < 60) = true := decide_eq_true hk2
    have HK2 := Aside0.mk hk2
    have HQN := Aside0.mk hqn
    have hst := finv_step HV.out k (by omega) out HO.out
    have HSC := Aside0.mk (finv_scan HV.out)
    have hpk0 : (0 : Int) ≤ (k : Int) := by omega
    have hpk1 : (k : Int) ≤ 60 := by omega
    have HP := Aside0.mk (show NT.Rng 0 from ⟨by decide, by decide⟩)
    have HSL := Aside0.mk HV.out.len
    have HCP := Aside0.mk HV.out.calm.1
    have HAL := Aside0.mk HV.out.all
    rcases hst with ⟨e, q2, e1, e2⟩ | e1 | ⟨e1, e2⟩
    · have HA := Aside0.mk e1
      have E2 := Aside0.mk e2
      clear hll hqn hk hk2 e1 e2
      go_wp2_with (go_at_call 15; refine (append_c HS.out (q : Int) 0 (k : Int) true 0 out HP.out (by have := HO.out; omega) (by have := HSL.out; have := H1.out; omega) (by rw [HCP.out]; decide) (HT.out.on HS.out.2.1)).mono ?_; unfold AppPost; rw [HA.out]; rintro e w2 ⟨rfl, hS, -⟩; have S2 := Aside0.mk hS; clear hS)
      exact ⟨⟨l ++ [mk6 k out], q2, e, rfl, by rw [List.length_append, HK.out]; rfl, by rw [List.length_append, HK.out]; rfl, E2, S2⟩, by have := HK2.out; simp [intOf]; omega⟩
    · have hk1 : 1 ≤ k := by
        rcases Nat.eq_zero_or_pos k with h | h
        · exfalso
          subst h
          have hl0 : l = [] := List.eq_nil_of_length_eq_zero HK.out
          have hv := HV.out
          rw [hl0] at hv
          obtain ⟨e, q2, e3⟩ := HF1.out d q hv
          rw [e1] at e3
          have e4 := congrArg (fun x => x.2.2) e3
          simp at e4
        · exact h
      have HA := Aside0.mk e1
      have dq : decide ((q : Int) ≤ (n : Int)) = true := decide_eq_true (by omega)
      have dq' : decide (q ≤ n) = true := decide_eq_true hqn
      have dm : decide ((k : Int) ≥ 1) = true := decide_eq_true (by omega)
      have dm' : decide (1 ≤ (k : Int)) = true := decide_eq_true (by omega)
      have dm'' : decide (1 ≤ k) = true := decide_eq_true hk1
      clear hll hqn hk hk2 e1 hk1
      go_wp2_with (first
        | (go_at_call 12; refine (known6_any w3 (HT.out.on S3.out.2.1)).mono ?_; rintro e w4 ⟨rfl, hB⟩; have B4 := Aside0.mk (S3.out.2.1.trans (hB.mono S3.out.2.1.size)); clear hB)
        | (go_at_call 16; refine (scan_c S2.out 0 HAL.out (by have := HSL.out; have := H1.out; omega) (HT.out.on S2.out.2.1)).mono ?_; unfold ScanPost; rw [HSC.out]; rintro e w3 ⟨v3, rfl, hR, hS, -⟩; (obtain ⟨A3, c3, hv, -, -⟩ := Kd.R_reads hR); (replace hv : v3 = .slice A3 l.length c3 := hv); rw [HK.out] at hv; subst hv; have S3 := Aside0.mk hS; clear hR hS)
        | (go_at_call 15; refine (append_c HS.out (q : Int) 0 (k : Int) true 0 out HP.out (by have := HO.out; omega) (by have := HSL.out; have := H1.out; omega) (by rw [HCP.out]; decide) (HT.out.on HS.out.2.1)).mono ?_; unfold AppPost; rw [HA.out]; rintro e w2 ⟨rfl, hS, -⟩; have S2 := Aside0.mk hS; clear hS))
      go_ret
      exact ⟨rfl, B4.out⟩
    · have hk1 : 1 ≤ k := by
        rcases Nat.eq_zero_or_pos k with h | h
        · exfalso
          subst h
          have hl0 : l = [] := List.eq_nil_of_length_eq_zero HK.out
          have hv := HV.out
          rw [hl0] at hv
          obtain ⟨e, q2, e3⟩ := HF1.out d q hv
          rw [e1] at e3
          have e4 := congrArg (fun x => x.2.2) e3
          simp at e4
        · exact h
      have HA := Aside0.mk e1
      have dq : decide ((q : Int) ≤ (n : Int)) = true := decide_eq_true (by omega)
      have dq' : decide (q ≤ n) = true := decide_eq_true hqn
      have dm : decide ((k : Int) ≥ 1) = true := decide_eq_true (by omega)
      have dm' : decide (1 ≤ (k : Int)) = true := decide_eq_true (by omega)
      have dm'' : decide (1 ≤ k) = true := decide_eq_true hk1
      have dn : ((q : Int) != (n : Int)) = false := by rw [e2]; simp
      have dn' : decide ((q : Int) = (n : Int)) = true := decide_eq_true (by omega)
      have dn'' : decide (q = n) = true := decide_eq_true e2
      clear hll hqn hk hk2 e1 hk1 e2
      go_wp2_with (first
        | (go_at_call 12; refine (known6_any w3 (HT.out.on S3.out.2.1)).mono ?_; rintro e w4 ⟨rfl, hB⟩; have B4 := Aside0.mk (S3.out.2.1.trans (hB.mono S3.out.2.1.size)); clear hB)
        | (go_at_call 16; refine (scan_c S2.out 0 HAL.out (by have := HSL.out; have := H1.out; omega) (HT.out.on S2.out.2.1)).mono ?_; unfold ScanPost; rw [HSC.out]; rintro e w3 ⟨v3, rfl, hR, hS, -⟩; (obtain ⟨A3, c3, hv, -, -⟩ := Kd.R_reads hR); (replace hv : v3 = .slice A3 l.length c3 := hv); rw [HK.out] at hv; subst hv; have S3 := Aside0.mk hS; clear hR hS)
        | (go_at_call 15; refine (append_c HS.out (q : Int) 0 (k : Int) true 0 out HP.out (by have := HO.out; omega) (by have := HSL.out; have := H1.out; omega) (by rw [HCP.out]; decide) (HT.out.on HS.out.2.1)).mono ?_; unfold AppPost; rw [HA.out]; rintro e w2 ⟨rfl, hS, -⟩; have S2 := Aside0.mk hS; clear hS))
      go_ret
      exact ⟨rfl, B4.out⟩
theorem lazaruslaw6_MarkFull.calls (a0 : Int) (a1 : ByteArray) (r : Bool) (w : World) (h : lazaruslaw6_MarkFull.f a0 a1 = some r) (hT : NTabs w) :
    Calls Tryd.prog 5 #[.int .i64 a0, .string a1] w fun e w' => e = .returned (.bool r) ∧ Below w.heap.size w w' := by
  obtain rfl : true = r := Option.some.inj h
  clear h
  by_cases h1 : a0 < 32
  · have d1 : decide (a0 < 32) = true := decide_eq_true h1
    clear h1 hT
    go_enter Tryd.func5, Tryd.ntmps5
    go_wp2
    go_ret
    exact ⟨rfl, Below.refl _ _⟩
  have d1 : decide (a0 < 32) = false := decide_eq_false h1
  by_cases h2 : a0 > 100
  · have d2 : decide (a0 > 100) = true := decide_eq_true h2
    have d2' : decide (100 < a0) = true := decide_eq_true h2
    clear h1 h2 hT
    go_enter Tryd.func5, Tryd.ntmps5
    go_wp2
    go_ret
    exact ⟨rfl, Below.refl _ _⟩
  by_cases h3 : a1.size ≤ 40
  · obtain ⟨n, rfl⟩ : ∃ n : Nat, a0 = (n : Int) := ⟨a0.toNat, by omega⟩
    exact full_core n (by omega) (by omega) a1 h3 w hT
  · have d2 : decide (a0 > 100) = false := decide_eq_false h2
    have d2' : decide (100 < a0) = false := decide_eq_false h2
    have d3 : decide ((a1.size : Int) > 40) = true := decide_eq_true (by omega)
    have d3' : decide ((40 : Int) < (a1.size : Int)) = true := decide_eq_true (by omega)
    have d3'' : decide (40 < a1.size) = true := decide_eq_true (by omega)
    clear h1 h2 h3 hT
    go_enter Tryd.func5, Tryd.ntmps5
    go_wp2
    go_ret
    exact ⟨rfl, Below.refl _ _⟩
end Go.Proofs.YtkicekddkgehoaaDoor.LMarkFull
