/- The contract of the law SpanApart, by hand. -/
import Derived.Test.YtnahlhabhipfmaaSpan8
import Derived.RangeFuncNested
import Derived.RangeFuncBound
import Derived.RangeFuncCalls
import Derived.RangeFuncLeaves
import Derived.RangeFuncBox
import Derived.Shelf.Abstract
import Derived.Shelf.RegionOpen
import Derived.OwnWalkIn
import Derived.TacticsInMore
import Derived.LoopNIn
import Derived.LoopIn
namespace Go.Proofs.Ytnahlhabhipfmaa.LSpanApart
open Go.RowKit Go.Proofs.Ytnahlhabhipfmaa.QSpanCrash Go.Proofs.Ytnahlhabhipfmaa.Hnd Go.Proofs.YtnahlhabhipfmaaW.PrintWords Go.Proofs.YtnahlhabhipfmaaW.PrintLast Go.Proofs.YtnahlhabhipfmaaW.Dk Go.Shelf
set_option linter.unusedVariables false
set_option linter.unusedSimpArgs false
attribute [local go_sem] Oper.semAt_some
def offs (ll : List (List Int)) (k : Nat) : Nat := ((ll.take k).map fun b => DS.need b.length).sum
theorem offs_succ (ll : List (List Int)) (k : Nat) (hk : k < ll.length) : offs ll (k + 1) = offs ll k + DS.need (ll.getD k []).length := by
  unfold offs
  rw [List.take_add_one, List.getElem?_eq_getElem hk, List.map_append, List.sum_append, List.getD_eq_getElem?_getD, List.getElem?_eq_getElem hk]
  simp
theorem offs_le (ll : List (List Int)) : ∀ k : Nat, k ≤ ll.length → (∀ j, j < k → (ll.getD j []).length ≤ 100) → offs ll k ≤ 8 * k
  | 0, _, _ => by simp [offs]
  | k + 1, hk, h => by
    have h1 := h k (by omega)
    have h2 := offs_le ll k (by omega) (fun j hj => h j (by omega))
    rw [offs_succ ll k (by omega)]
    unfold DS.need
    omega
theorem offs_mono (ll : List (List Int)) (j : Nat) : ∀ k : Nat, j < k → k ≤ ll.length → offs ll j + DS.need (ll.getD j []).length ≤ offs ll k
  | 0, h, _ => by omega
  | k + 1, h, hk => by
    rw [offs_succ ll k (by omega)]
    by_cases e : j = k
    · subst e
      exact Nat.le_refl _
    · have := offs_mono ll j k (by omega) (by omega)
      omega
/-- Spans side by side. -/
structure Apart (ll : List (List Int)) (k : Nat) (d : DS) : Prop where
  calm : d.Calm
  len : d.S.length = 120
  all : d.AllB
  lies : ∀ j : Nat, j < k → DS.Lies crcO d (offs ll j) ((j : Int) + 1) (ll.getD j [])
theorem apart_0 (ll : List (List Int)) : Apart ll 0 (DS.new 120) := ⟨DS.new_calm _, DS.new_len _, DS.new_bytes _, fun j hj => by omega⟩
theorem apart_step {ll : List (List Int)} {k : Nat} {d : DS} (h : Apart ll k d) (hk : k < ll.length) (h8 : ll.length ≤ 8) (h100 : ∀ j, j < k + 1 → (ll.getD j []).length ≤ 100) (hb : DS.Bytes (ll.getD k [])) :
    ∃ e, DS.put crcO d (offs ll k : Int) (DS.need (ll.getD k []).length : Int) ((k : Int) + 1) (ll.getD k []) = (e, 0) ∧ Apart ll (k + 1) e := by
  have h1 := h100 k (by omega)
  have h2 := offs_le ll k (by omega) (fun j hj => h100 j (by omega))
  have hn : DS.need (ll.getD k []).length ≤ 8 := by unfold DS.need; omega
  obtain ⟨e, p1, p2, p3, p4⟩ := DS.put_ok crcO d h.calm (offs ll k) (DS.need (ll.getD k []).length : Int) ((k : Int) + 1) (ll.getD k []) (by omega) (by rw [h.len]; omega)
  refine ⟨e, p1, p2, p3.1.trans h.len, ?_, fun j hj => ?_⟩
  · have := DS.put_bytes (crc := crcO) h.all (offs ll k : Int) (DS.need (ll.getD k []).length : Int) ((k : Int) + 1) hb
    rw [p1] at this
    exact this
  · by_cases ej : j = k
    · subst ej
      exact p4
    · exact (h.lies j (by omega)).away p3 (.inl (offs_mono ll j k (by omega) (by omega)))
theorem apart_get {ll : List (List Int)} {d : DS} (h : Apart ll ll.length d) (k : Nat) (hk : k < ll.length) (h8 : ll.length ≤ 8) (h100 : ∀ j, j < ll.length → (ll.getD j []).length ≤ 100) :
    DS.get crcO d (offs ll k : Int) 120 = ((k : Int) + 1, ll.getD k [], true) := by
  have h1 := h100 k hk
  have h2 := offs_le ll k (by omega) (fun j hj => h100 j (by omega))
  have hn : DS.need (ll.getD k []).length ≤ 8 := by unfold DS.need; omega
  exact (h.lies k hk).get h.calm.1 (crcO_lo _) (crcO_hi _) (by omega) (by omega) (by omega) (by omega) (by rw [h.len]; omega)
theorem room_rd (A0 : Option Addr) (l0 : List Int) (w : World) (hr0 : (Kd.int .u8).C w A0 l0.length l0) : Rd w [] w A0 l0 :=
  ⟨hr0, fun ad e hp => by
    subst e
    have := Kd.C_lt hr0 hp (by decide)
    exact ⟨.inl this, this⟩⟩
def isBB (l : List (List Int)) : Bool := l.all DS.isB
def lazaruslaw4_SpanApart.f (l0 : List (List Int)) : Option Bool := if isBB l0 = true then some true else none
theorem isBB_get {l : List (List Int)} (h : isBB l = true) (k : Nat) : DS.Bytes (l.getD k []) := by
  by_cases hk : k < l.length
  · rw [List.getD_eq_getElem?_getD, List.getElem?_eq_getElem hk]
    exact DS.isB_bytes (List.all_eq_true.1 h _ (List.getElem_mem hk))
  · rw [List.getD_eq_getElem?_getD, List.getElem?_eq_none (by omega)]
    exact DS.bytes_nil
set_option maxHeartbeats 4000000 in
set_option maxRecDepth 100000 in
theorem lazaruslaw4_SpanApart.calls (A0 : Option Addr) (c0 : Nat) (l0 : List (List Int)) (r : Bool) (w : World) (hr0 : Kd.C (Kd.slice 5 (Kd.int .u8)) w A0 l0.length l0) (hc0 : l0.length ≤ c0) (h : lazaruslaw4_SpanApart.f l0 = some r) :
    Calls Try.prog 9 #[.slice A0 l0.length c0] w fun e w' => e = .returned (.bool r) ∧ Below w.heap.size w w' := by
  unfold lazaruslaw4_SpanApart.f at h
  by_cases hB : isBB l0 = true
  · rw [if_pos hB] at h
    obtain rfl : true = r := Option.some.inj h
    clear h
    by_cases h8 : l0.length ≤ 8
    · have d0 : decide ((l0.length : Int) > 8) = false := decide_eq_false (by omega)
      have d0' : decide ((8 : Int) < (l0.length : Int)) = false := decide_eq_false (by omega)
      have d0'' : decide (8 < l0.length) = false := decide_eq_false (by omega)
      have HR := Aside0.mk hr0
      have HC := Aside0.mk hc0
      have HB := Aside0.mk hB
      have H8 := Aside0.mk h8
      clear hr0 hc0 hB h8
      go_enter Try.func9, Try.ntmps9
      go_wp2_with (go_at_call 12; refine (st_new 120 (by decide) w _ (Below.refl _ _) [] (fun x hx => by cases hx)).mono ?_; rintro e w1 ⟨rfl, hS, hM⟩; have S1 := Aside0.mk hS; clear hS hM)
      go_loopw [4, 5] (fun u4 u5 wr => ∃ (k : Nat) (d : DS), u5 = .int .i64 (k : Int) ∧ u4 = .int .i64 ((offs l0 k : Nat) : Int) ∧ Aside0 (k ≤ l0.length) ∧ Aside0 (∀ j, j < k → (l0.getD j []).length ≤ 100) ∧ Aside0 (Apart l0 k d) ∧ Aside0 (St w [] wr w.heap.size d)) (fun u4 u5 _ => l0.length + 1 - (intOf u5).toNat)
      case atStart => exact ⟨0, _, rfl, rfl, ⟨Nat.zero_le _⟩, ⟨fun j hj => by omega⟩, ⟨apart_0 l0⟩, S1⟩
      case round =>
        obtain ⟨k, d, rfl, rfl, HK, H100, HAP, HS⟩ := hrel
        by_cases hlt : k < l0.length
        · have hd : decide ((k : Int) < (l0.length : Int)) = true := decide_eq_true (by omega)
          have hd2 : decide (k < l0.length) = true := decide_eq_true hlt
          obtain ⟨ad, A1, c1, e1, hx0, hl, hC⟩ := at_L3 HR.out (k : Int) (by omega) (by omega)
          subst e1
          have hlt2 := Kd.C_lt HR.out (by omega) (by decide)
          have hrd : rd_L3 l0 (k : Int) = l0.getD k [] := rfl
          rw [hrd] at hx0 hl hC
          rw [Int.toNat_natCast] at hx0
          have hx := (HS.out.2.1.cell (p := ad.add k) (by rw [Go.Proofs.Ytnahlhabhipfmaa.Hnd.add_block]; exact hlt2)).trans hx0
          have HX0 := Aside0.mk hx
          have HX1 := Aside0.mk hx0
          have HLB : Aside0 ((ad.add k).block < w.heap.size) := ⟨by rw [Go.Proofs.Ytnahlhabhipfmaa.Hnd.add_block]; exact hlt2⟩
          have hp0 : (0 : Int) ≤ (k : Int) := by omega
          have hp1 : (k : Int) < (l0.length : Int) := by omega
          have HLT := Aside0.mk hlt
          have HRD := Aside0.mk (room_rd A1 (l0.getD k []) w hC)
          have HLC := Aside0.mk hl
          have hp2 : (k : Int) + 1 ≤ 9223372036854775807 := by have := H8.out; omega
          by_cases hb : (l0.getD k []).length ≤ 100
          · obtain ⟨e, hput, hAP⟩ := apart_step HAP.out hlt H8.out (fun j hj => by
              by_cases ej : j = k
              · rw [ej]; exact hb
              · exact H100.out j (by omega)) (isBB_get HB.out k)
            have HH : Aside0 (∀ j, j < k + 1 → (l0.getD j []).length ≤ 100) := ⟨fun j hj => by
              by_cases ej : j = k
              · rw [ej]; exact hb
              · exact H100.out j (by omega)⟩
            have hof := offs_succ l0 k hlt
            have hol := offs_le l0 (k + 1) (by omega) HH.out
            rw [hof] at hol
            have HOF := Aside0.mk hof
            have HAP2 := Aside0.mk hAP
            have hbl : (l0.getD k []).length < 1099511627776 := by omega
            generalize l0.getD k [] = b at *
            have d1 : decide ((b.length : Int) > 100) = false := decide_eq_false (by omega)
            have d1' : decide ((100 : Int) < (b.length : Int)) = false := decide_eq_false (by omega)
            have d1'' : decide (100 < b.length) = false := decide_eq_false (by omega)
            obtain ⟨n, hn⟩ : ∃ n, DS.need b.length = n := ⟨_, rfl⟩
            rw [hn] at hol
            have HN := Aside0.mk hn
            obtain ⟨o, ho⟩ : ∃ o, offs l0 k = o := ⟨_, rfl⟩
            rw [ho] at hol ⊢
            rw [ho, hn] at hput
            have HPUT := Aside0.mk hput
            have HO := Aside0.mk ho
            have HOL := Aside0.mk hol
            have hp3 : (o : Int) + (n : Int) ≤ 9223372036854775807 := by have := H8.out; omega
            have hp4 : (0 : Int) ≤ (o : Int) := by omega
            have hp5 : (0 : Int) ≤ (n : Int) := by omega
            have HBB := Aside0.mk hb
            clear hlt hb hC hx0 hrd hl hbl hof hol hput hAP hn ho hlt2
            go_upto_region 10 with (fail)
            have hw0 : IntKind.i64.wrap ((k : Int) + 1) = (k : Int) + 1 := by have := H8.out; have := HLT.out; rw [IntKind.wrap_i64]; omega
            have hw : IntKind.u32.wrap ((k : Int) + 1) = (k : Int) + 1 := by have := H8.out; have := HLT.out; rw [IntKind.wrap_u32]; omega
            go_region_held (fun w' => w'.cell? (ad.add k) = some (.slice A1 b.length c1)) (first | exact hx | exact X2.out | exact X3.out) (first
              | (go_at_call 26; refine (st_putS S2.out (o : Int) (n : Int) ((k : Int) + 1) A1 c1 b (HRD.out.step' (Below.refl _ _) S2.out.2.1 (fun x hx => by cases hx) (fun x hx => by cases hx)) HLC.out (by have := HBB.out; omega) (by rw [HAP.out.calm.1]; decide) (by omega) (by have := HOL.out; have := H8.out; omega)).mono ?_; rw [HPUT.out]; rintro e w3 ⟨rfl, hS, hM, hZ⟩; have S3 := Aside0.mk hS; (have X3 := Aside0.mk ((hS.2.1.cell (p := ad.add k) HLB.out).trans HX1.out)); clear hS hM hZ)
              | (go_at_call 23; refine (need_c b.length (by have := HBB.out; omega) _).mono ?_; rw [HN.out]; rintro e w2 ⟨rfl, hB⟩; have S2 := Aside0.mk (HS.out.after ((below_drew1 (Below.refl wr.heap.size wr)).trans (hB.mono (by simp)))); (have X2 := Aside0.mk ((S2.out.2.1.cell (p := ad.add k) HLB.out).trans HX1.out)); clear hB))
            clear hw hw0 hx
            have hx := X3.out
            go_wp2_with (go_at_call 23; refine (need_c b.length (by have := HBB.out; omega) w3).mono ?_; rw [HN.out]; rintro e w4 ⟨rfl, hB⟩; have S4 := Aside0.mk (S3.out.after hB); clear hB)
            all_goals exact ⟨⟨k + 1, e, by go_num, by rw [HOF.out, HO.out, HN.out]; go_num, ⟨by have := HLT.out; omega⟩, HH, HAP2, S4⟩, by have := HLT.out; simp [intOf]; omega⟩
          · generalize l0.getD k [] = b at *
            have d1 : decide ((b.length : Int) > 100) = true := decide_eq_true (by omega)
            have d1' : decide ((100 : Int) < (b.length : Int)) = true := decide_eq_true (by omega)
            have d1'' : decide (100 < b.length) = true := decide_eq_true (by omega)
            clear hb hC hx0 hrd hl hlt2 hlt
            go_wp2
            go_ret
            exact ⟨rfl, HS.out.2.1⟩
        · obtain rfl : k = l0.length := by have := HK.out; omega
          have hd : decide ((l0.length : Int) < (l0.length : Int)) = false := decide_eq_false (by omega)
          have hd2 : decide (l0.length < l0.length) = false := decide_eq_false (by omega)
          clear hlt
          obtain ⟨W1, hW1⟩ : ∃ W1, W1 = wr := ⟨_, rfl⟩
          subst hW1
          go_wp2
          clear hd hd2
          go_loopw [4, 6] (fun u4 u6 wr => ∃ k : Nat, u6 = .int .i64 (k : Int) ∧ u4 = .int .i64 ((offs l0 k : Nat) : Int) ∧ Aside0 (k ≤ l0.length) ∧ Aside0 (St w [] wr w.heap.size d)) (fun u4 u6 _ => l0.length + 1 - (intOf u6).toNat)
          case atStart => exact ⟨0, rfl, rfl, ⟨Nat.zero_le _⟩, HS⟩
          case round =>
            clear HK HS
            obtain ⟨k, rfl, rfl, HK, HS⟩ := hrel
            by_cases hlt : k < l0.length
            · have hd : decide ((k : Int) < (l0.length : Int)) = true := decide_eq_true (by omega)
              have hd2 : decide (k < l0.length) = true := decide_eq_true hlt
              obtain ⟨ad, A1, c1, e1, hx0, hl, hC⟩ := at_L3 HR.out (k : Int) (by omega) (by omega)
              subst e1
              have hlt2 := Kd.C_lt HR.out (by omega) (by decide)
              have hrd : rd_L3 l0 (k : Int) = l0.getD k [] := rfl
              rw [hrd] at hx0 hl hC
              rw [Int.toNat_natCast] at hx0
              have HX1 := Aside0.mk hx0
              have HLB : Aside0 ((ad.add k).block < w.heap.size) := ⟨by rw [Go.Proofs.Ytnahlhabhipfmaa.Hnd.add_block]; exact hlt2⟩
              have hp0 : (0 : Int) ≤ (k : Int) := by omega
              have hp1 : (k : Int) < (l0.length : Int) := by omega
              have HLT := Aside0.mk hlt
              have HRD := Aside0.mk (room_rd A1 (l0.getD k []) w hC)
              have hp2 : (k : Int) + 1 ≤ 9223372036854775807 := by have := H8.out; omega
              have HG := Aside0.mk (apart_get HAP.out k hlt H8.out H100.out)
              have hof := offs_succ l0 k hlt
              have hol := offs_le l0 (k + 1) (by omega) (fun j hj => H100.out j (by omega))
              rw [hof] at hol
              have HOF := Aside0.mk hof
              have hbl : (l0.getD k []).length ≤ 100 := H100.out k hlt
              have HBB := Aside0.mk hbl
              generalize l0.getD k [] = b at *
              obtain ⟨n, hn⟩ : ∃ n, DS.need b.length = n := ⟨_, rfl⟩
              rw [hn] at hol
              have HN := Aside0.mk hn
              have hgo := HG.out
              clear HG
              obtain ⟨o, ho⟩ : ∃ o, offs l0 k = o := ⟨_, rfl⟩
              rw [ho] at hol hgo ⊢
              have HG := Aside0.mk hgo
              have HO := Aside0.mk ho
              have HOL := Aside0.mk hol
              have hp3 : (o : Int) + (n : Int) ≤ 9223372036854775807 := by have := H8.out; omega
              have hp4 : (0 : Int) ≤ (o : Int) := by omega
              have hp5 : (0 : Int) ≤ (n : Int) := by omega
              clear hlt hC hx0 hrd hl hbl hof hol hgo hn ho hlt2
              go_upto_region 18 with (go_at_call 27; refine (st_get HS.out (o : Int) 120 HAP.out.all (by have := HOL.out; have := H8.out; omega) (by rw [HAP.out.len]; decide) (by decide) (by decide)).mono ?_; rw [HG.out]; rintro e w5 ⟨v5, rfl, hR, hS, hB⟩; have S5 := Aside0.mk hS; (obtain ⟨A5, c5, hv, -, hC5⟩ := Kd.R_reads hR); subst hv; have C5 := Aside0.mk hC5; clear hR hS hB hC5)
              have X5 : Aside0 (w5.cell? (ad.add k) = some (.slice A1 b.length c1)) := ⟨(S5.out.2.1.cell (p := ad.add k) HLB.out).trans HX1.out⟩
              have R5 : Aside0 ((Kd.int .u8).C w5.drew A1 b.length b) := ⟨Kd.C_drew (HRD.out.step' (Below.refl _ _) S5.out.2.1 (fun x hx => by cases hx) (fun x hx => by cases hx)).1⟩
              have hw0 : IntKind.i64.wrap ((k : Int) + 1) = (k : Int) + 1 := by have := H8.out; have := HLT.out; rw [IntKind.wrap_i64]; omega
              have hw : IntKind.u32.wrap ((k : Int) + 1) = (k : Int) + 1 := by have := H8.out; have := HLT.out; rw [IntKind.wrap_u32]; omega
              go_region_held (fun w' => w'.cell? (ad.add k) = some (.slice A1 b.length c1) ∧ (convert 26 9 (.slice A5 b.length c5)).run Try.prog w' = .ok (.string (strOfNums b)) w' ∧ (convert 26 9 (.slice A1 b.length c1)).run Try.prog w' = .ok (.string (strOfNums b)) w') (exact ⟨X5.out, conv_str (Kd.C_drew C5.out), conv_str R5.out⟩) (fail)
              clear hw hw0
              have hx := X5.out
              go_wp2_with (go_at_call 23; refine (need_c b.length (by have := HBB.out; omega) _).mono ?_; rw [HN.out]; rintro e w6 ⟨rfl, hB⟩; have S6 := Aside0.mk (S5.out.after ((below_drew1 (Below.refl w5.heap.size w5)).trans (hB.mono (by simp)))); clear hB)
              all_goals exact ⟨⟨k + 1, by go_num, by rw [HOF.out, HO.out, HN.out]; go_num, ⟨by have := HLT.out; omega⟩, S6⟩, by have := HLT.out; simp [intOf]; omega⟩
            · obtain rfl : k = l0.length := by have := HK.out; omega
              have hd : decide ((l0.length : Int) < (l0.length : Int)) = false := decide_eq_false (by omega)
              have hd2 : decide (l0.length < l0.length) = false := decide_eq_false (by omega)
              clear hlt
              go_wp2_with (go_at_call 25; refine (known4_any _).mono ?_; rintro e w9 ⟨rfl, hB⟩; have B9 := Aside0.mk (HS.out.2.1.trans (hB.mono HS.out.2.1.size)); clear hB)
              go_ret
              exact ⟨rfl, B9.out⟩
    · have d0 : decide ((l0.length : Int) > 8) = true := decide_eq_true (by omega)
      have d0' : decide ((8 : Int) < (l0.length : Int)) = true := decide_eq_true (by omega)
      have d0'' : decide (8 < l0.length) = true := decide_eq_true (by omega)
      clear hr0 hc0 hB h8
      go_enter Try.func9, Try.ntmps9
      go_wp2
      go_ret
      exact ⟨rfl, Below.refl _ _⟩
  · rw [if_neg hB] at h
    cases h
end Go.Proofs.Ytnahlhabhipfmaa.LSpanApart
