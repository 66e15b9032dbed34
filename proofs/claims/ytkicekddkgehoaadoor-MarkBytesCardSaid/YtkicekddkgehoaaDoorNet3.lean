/- Contracts of the calls, by hand. -/
import Derived.Test.YtkicekddkgehoaaDoorQMarkBytesx2
import Derived.Test.YtkicekddkgehoaaDoorNet2
import Derived.RangeFuncNested
import Derived.RangeFuncBound
import Derived.RangeFuncCalls
import Derived.RangeFuncLeaves
import Derived.RangeFuncBox
import Derived.Shelf.Abstract
import Derived.Shelf.RegionOpen
import Derived.OwnWalkIn
import Derived.TacticsInMore
import Derived.LoopNIn
import Derived.LoopIn
import Derived.Sort.QuietIn
import Derived.Sort.CutIn
import Derived.Stop.RegionWithIn
import Derived.StillTailTactics
import Derived.Shelf.Strconv.AppendIntPublic10
import Derived.Shelf.Strconv.ErrVarParseInt
import Derived.Shelf.Bytes.IndexByte
import Derived.Lib.ItoaLen
import Derived.Lib.ParseIntBTie
import Derived.Lib.AtoiBound
namespace Go.Proofs.YtkicekddkgehoaaDoor.Hnd
open Go.RowKit Go.Proofs.YtkicekddkgehoaaDoor.QMarkBytes Go.Proofs.YtkicekddkgehoaaDoorW.PrintWords Go.Proofs.YtkicekddkgehoaaDoorW.PrintLast  Go.Shelf
set_option linter.unusedVariables false
set_option linter.unusedSimpArgs false
attribute [local go_sem] Oper.semAt_some
theorem parse_ok (s : ByteArray) (hs : s.size ≤ 1099511627776) (w : World) (hT : NTabs w) (v : Int) (h : Lib.parseIntB 64 s.data.toList = .ok v) :
    Calls Tryd.prog 57 #[.string s, .int .i64 10, .int .i64 64] w fun e w' => e = .returned (.tuple #[.int .i64 v, .nilIface]) ∧ Below w.heap.size w w' :=
  (parse_c s hs w hT).mono fun e w' ⟨n, u, e1, hp, hb⟩ => by
    rcases hp with ⟨rfl, h2⟩ | ⟨_, h2⟩
    · rw [h] at h2
      injection h2 with h2
      subst h2
      exact ⟨e1, hb⟩
    · exact absurd h (h2 v)
theorem parse_bad (s : ByteArray) (hs : s.size ≤ 1099511627776) (w : World) (hT : NTabs w) (h : ∀ m, Lib.parseIntB 64 s.data.toList ≠ .ok m) :
    Calls Tryd.prog 57 #[.string s, .int .i64 10, .int .i64 64] w fun e w' => ∃ n t p, e = .returned (.tuple #[.int .i64 n, .iface t p]) ∧ Below w.heap.size w w' :=
  (parse_c s hs w hT).mono fun e w' ⟨n, u, e1, hp, hb⟩ => by
    rcases hp with ⟨rfl, h2⟩ | ⟨⟨t, p, rfl⟩, _⟩
    · exact absurd h2 (h n)
    · exact ⟨n, t, p, e1, hb⟩
theorem equal_c {w : World} {A0 A1 : Option Addr} {c0 c1 n0 n1 : Nat} {l0 l1 : List Int} (h0 : (Kd.int .u8).C w A0 n0 l0) (e0 : l0.length ≤ c0) (h1 : (Kd.int .u8).C w A1 n1 l1) (e1 : l1.length ≤ c1) (b0 : NBytes l0) (b1 : NBytes l1) :
    Calls Tryd.prog 29 #[.slice A0 n0 c0, .slice A1 n1 c1] w fun e w' => e = .returned (.bool (decide (l0 = l1))) ∧ Below w.heap.size w w' := by
  obtain rfl : l0.length = n0 := h0.1
  obtain rfl : l1.length = n1 := h1.1
  refine (bytes_Equal.calls A0 c0 l0 A1 c1 l1 (decide (l0 = l1)) w h0 e0 h1 e1 ?_).mono ?_
  · unfold bytes_Equal.f
    congr 1
    rw [Lib.strOfNums_toList, Lib.strOfNums_toList]
    by_cases h : l0 = l1
    · subst h
      simp
    · rw [decide_eq_false h]
      rw [beq_eq_false_iff_ne]
      intro e
      apply h
      have := congrArg NT.ints e
      rwa [show NT.ints (Lib.bytesOf l0) = l0 from NT.ints_u8s b0, show NT.ints (Lib.bytesOf l1) = l1 from NT.ints_u8s b1] at this
  · intro e w' h
    exact ⟨h.1, h.2.below⟩
def tk (b : List Int) : Int × Nat × Bool := match NT.take b with | some p => (p.1, p.2, true) | none => (0, 0, false)
theorem bytes_take {b : List Int} (h : NBytes b) (m : Nat) : NBytes (b.take m) := fun x hx => h x (List.mem_of_mem_take hx)
set_option maxHeartbeats 4000000 in
set_option maxRecDepth 100000 in
theorem nnum_c {w : World} {A : Option Addr} {c : Nat} {b : List Int} (hC : (Kd.int .u8).C w A b.length b) (hc : b.length ≤ c) (hp : Plain A c) (hb : NBytes b) (hl : b.length ≤ 1099511627776) (hT : NTabs w) :
    Calls Tryd.prog 44 #[.slice A b.length c] w fun e w' => e = .returned (.tuple #[.int .i64 (tk b).1, .int .i64 ((tk b).2.1 : Int), .bool (tk b).2.2]) ∧ Below w.heap.size w w' := by
  have HC := Aside0.mk hC
  have HP := Aside0.mk hp
  have HB := Aside0.mk hb
  have HT := Aside0.mk hT
  have HCC := Aside0.mk hc
  have HLB := Aside0.mk hl
  by_cases hs : NT.stop b < b.length
  · have HI := index_c hC hp hb
    rw [if_pos hs] at HI
    have htk1 := fun n => NT.take_ok (n := n) hs
    have htk2 := NT.take_bad hs
    obtain ⟨i, hi⟩ : ∃ i, NT.stop b = i := ⟨_, rfl⟩
    rw [hi] at HI hs htk1 htk2
    have HIX := Aside0.mk HI
    clear HI hi
    have d1 : decide ((i : Int) < 0) = false := decide_eq_false (by omega)
    have ht1 := run_take A c b.length i (by omega)
    have ht2 := run_take A c b.length (i + 1) (by omega)
    rw [Int.natCast_add] at ht2
    have ht3 : ∀ W : World, (Instr.slice 26 (.slice A b.length c) none (some (.int .i64 ((i : Int) + 1))) none).run Tryd.prog W = .ok (.slice A (i + 1) c) W := ht2
    have hC1 := take_C hC (m := i) (by omega)
    have HC2 := Aside0.mk (take_C hC (m := i + 1) (by omega))
    have hcv := conv_str (c := c) hC1
    have hwr : wrap64 ((i : Int) + 1) = (i : Int) + 1 := by unfold wrap64; omega
    have hwr2 : IntKind.i64.wrap ((i : Int) + 1) = (i : Int) + 1 := by rw [IntKind.wrap_i64]; omega
    have HL1 : Aside0 ((b.take (i + 1)).length ≤ c) := ⟨by rw [List.length_take]; omega⟩
    have HB1 := Aside0.mk (bytes_take hb (i + 1))
    obtain ⟨s, hsq⟩ : ∃ s, strOfNums (b.take i) = s := ⟨_, rfl⟩
    have hsd : s.data.toList = NT.u8s (b.take i) := by rw [← hsq, strOf_data]
    have hss : s.size ≤ 1099511627776 := by
      have h1 : s.size = (NT.u8s (b.take i)).length := by rw [← hsd, Array.length_toList]; rfl
      rw [h1]
      unfold NT.u8s
      rw [List.length_map, List.length_take]
      omega
    rw [← hsd] at htk1 htk2
    rw [hsq] at hcv
    have HSS := Aside0.mk hss
    clear hC1 hsq hsd hss ht2
    by_cases hok : ∃ n, Lib.parseIntB 64 s.data.toList = .ok n
    · obtain ⟨n, hn⟩ := hok
      have htk := htk1 n hn
      have hrg : NT.Rng n := by
        have h2 := hn
        rw [Lib.parseIntB_64] at h2
        exact Lib.atoiAll_bounds h2
      have HRG := Aside0.mk hrg
      have HN := Aside0.mk hn
      have hbx : NBytes (NT.num n) := NT.num_bytes n
      have HBX := Aside0.mk hbx
      obtain ⟨xs, hxs⟩ : ∃ xs, NT.num n = xs := ⟨_, rfl⟩
      rw [hxs] at HBX
      have HX := Aside0.mk hxs
      obtain ⟨ys, hys⟩ : ∃ ys, b.take (i + 1) = ys := ⟨_, rfl⟩
      rw [hys] at HC2 HL1 HB1
      rw [hxs, hys] at htk
      by_cases hq : xs = ys
      · have hres : tk b = (n, i + 1, true) := by unfold tk; rw [htk, if_pos hq]
        have dq : decide (xs = ys) = true := decide_eq_true hq
        rw [hres]
        have DQ := Aside0.mk dq
        clear hC hc hp hb hl hT hs htk htk1 htk2 hn hrg hbx hxs hys hq dq hres
        go_enter Tryd.func44, Tryd.ntmps44
        go_upto_region 4 with (first
          | (go_at_call 56; refine HIX.out.mono ?_; rintro e w0 ⟨rfl, rfl⟩))
        go_upto_region 5 with (fail)
        refine (parse_ok s HSS.out w HT.out n HN.out).mono ?_
        rintro e w1 ⟨rfl, hB⟩
        have B1 := Aside0.mk hB
        clear hB
        go_upto_region 5 with (fail)
        go_region_held (fun _ => True) (trivial) (first
          | (go_at_call 29; refine (equal_c L2.out.2 L2.out.1 (Kd.C_below (Kd.C_below HC2.out B1.out) B2.out) HL1.out HBX.out HB1.out).mono ?_; rw [DQ.out]; rintro e w3 ⟨rfl, hB⟩; have B3 := Aside0.mk (B2.out.trans (hB.mono B2.out.size)); clear hB)
          | (go_at_call 23; refine (num_c n HRG.out _ (HT.out.on (B1.out.trans ((below_drew1 (Below.refl _ _)).mono B1.out.size)))).mono ?_; rw [HX.out]; rintro e w2 ⟨v2, rfl, hR, hB⟩; (obtain ⟨A2, c2, rfl, hl2, hC2, hp2, hm2⟩ := R_plain hR); have L2 : Aside0 (_ ∧ _) := ⟨hl2, hC2⟩; have B2 := Aside0.mk (show Below w1.heap.size w1 w2 from (below_drew1 (Below.refl _ _)).trans hB); clear hR hB hl2 hC2 hp2 hm2))
        go_wp2
        exact bodyPost_ret (v := .tuple #[.int .i64 n, .int .i64 ((i : Int) + 1), .bool true]) (by simp [results, Tryd.results44, go_sem]) rfl ⟨rfl, B1.out.trans (B3.out.mono B1.out.size)⟩
      · have hres : tk b = (0, 0, false) := by unfold tk; rw [htk, if_neg hq]
        have dq : decide (xs = ys) = false := decide_eq_false hq
        rw [hres]
        have DQ := Aside0.mk dq
        clear hC hc hp hb hl hT hs htk htk1 htk2 hn hrg hbx hxs hys hq dq hres
        go_enter Tryd.func44, Tryd.ntmps44
        go_upto_region 4 with (first
          | (go_at_call 56; refine HIX.out.mono ?_; rintro e w0 ⟨rfl, rfl⟩))
        go_upto_region 5 with (fail)
        refine (parse_ok s HSS.out w HT.out n HN.out).mono ?_
        rintro e w1 ⟨rfl, hB⟩
        have B1 := Aside0.mk hB
        clear hB
        go_upto_region 5 with (fail)
        go_region_held (fun _ => True) (trivial) (first
          | (go_at_call 29; refine (equal_c L2.out.2 L2.out.1 (Kd.C_below (Kd.C_below HC2.out B1.out) B2.out) HL1.out HBX.out HB1.out).mono ?_; rw [DQ.out]; rintro e w3 ⟨rfl, hB⟩; have B3 := Aside0.mk (B2.out.trans (hB.mono B2.out.size)); clear hB)
          | (go_at_call 23; refine (num_c n HRG.out _ (HT.out.on (B1.out.trans ((below_drew1 (Below.refl _ _)).mono B1.out.size)))).mono ?_; rw [HX.out]; rintro e w2 ⟨v2, rfl, hR, hB⟩; (obtain ⟨A2, c2, rfl, hl2, hC2, hp2, hm2⟩ := R_plain hR); have L2 : Aside0 (_ ∧ _) := ⟨hl2, hC2⟩; have B2 := Aside0.mk (show Below w1.heap.size w1 w2 from (below_drew1 (Below.refl _ _)).trans hB); clear hR hB hl2 hC2 hp2 hm2))
        go_wp2
        exact bodyPost_ret (v := .tuple #[.int .i64 0, .int .i64 0, .bool false]) (by simp [results, Tryd.results44, go_sem]) rfl ⟨rfl, B1.out.trans (B3.out.mono B1.out.size)⟩
    · have htk := htk2 (fun m e => hok ⟨m, e⟩)
      have hres : tk b = (0, 0, false) := by unfold tk; rw [htk]
      rw [hres]
      have HBAD := Aside0.mk (fun m e => hok ⟨m, e⟩ : ∀ m, Lib.parseIntB 64 s.data.toList ≠ .ok m)
      clear hC hc hp hb hl hT hs htk htk1 htk2 hok hres
      go_enter Tryd.func44, Tryd.ntmps44
      go_upto_region 4 with (first
        | (go_at_call 56; refine HIX.out.mono ?_; rintro e w0 ⟨rfl, rfl⟩))
      go_upto_region 5 with (fail)
      refine (parse_bad s HSS.out w HT.out HBAD.out).mono ?_
      rintro e w1 ⟨n, tp, pp, rfl, hB⟩
      have B1 := Aside0.mk hB
      clear hB
      go_upto_region 5 with (fail)
      go_quiet (first | fail)
      go_wp2
      exact bodyPost_ret (v := .tuple #[.int .i64 0, .int .i64 0, .bool false]) (by simp [results, Tryd.results44, go_sem]) rfl ⟨rfl, B1.out.trans (pw_below_drewN (Below.refl _ _) _ |>.mono B1.out.size)⟩
  · have HI := index_c hC hp hb
    rw [if_neg hs] at HI
    have HIX := Aside0.mk HI
    have hres : tk b = (0, 0, false) := by unfold tk; rw [NT.take_none hs]
    rw [hres]
    clear HI hC hc hp hb hl hT hs hres
    go_enter Tryd.func44, Tryd.ntmps44
    go_wp2_with (go_at_call 56; refine HIX.out.mono ?_; rintro e w0 ⟨rfl, rfl⟩)
    exact bodyPost_ret (v := .tuple #[.int .i64 0, .int .i64 0, .bool false]) (by simp [results, Tryd.results44, go_sem]) rfl ⟨rfl, Below.refl _ _⟩
end Go.Proofs.YtkicekddkgehoaaDoor.Hnd
