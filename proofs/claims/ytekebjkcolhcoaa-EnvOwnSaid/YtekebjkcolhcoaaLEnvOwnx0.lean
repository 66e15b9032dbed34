/- The contract of the law EnvOwn, by hand. -/
import Derived.Test.YtekebjkcolhcoaaOwn1
import Derived.Test.YtekebjkcolhcoaaEnvI
import Derived.RangeFuncNested
import Derived.StillTail
import Derived.Deep.RegionHeld
import Derived.StillTailTactics
namespace Go.Proofs.Ytekebjkcolhcoaa.LEnvOwn
open Go.RowKit Go.Proofs.Ytekebjkcolhcoaa.QEnvOwn Go.Proofs.Ytekebjkcolhcoaa.Hnd Go.Proofs.YtekebjkcolhcoaaW.PrintWords Go.Proofs.YtekebjkcolhcoaaW.PrintLast  Go
set_option linter.unusedVariables false
set_option linter.unusedSimpArgs false
attribute [local go_sem] Oper.semAt_some
theorem get_c' {W : World} {A0 A1 A2 : Option Addr} {c0 c1 c2 : Nat} {V VA : List S71} {F : List S67} {k : Nat} (hI : EI V F k) (hk : k ≤ 1000) (n v : ByteArray) (hVA : ins S71.f0 V n ⟨n, v⟩ = VA) (h0 : VA.length ≤ c0) (h2 : F.length ≤ c2) (C0 : Kd.C k71 W A0 VA.length VA) (C1 : Kd.C Kd.string W A1 0 []) (C2 : Kd.C k67 W A2 F.length F) :
    Calls Try.prog 12 #[.agg #[.slice A0 VA.length c0, .slice A1 0 c1, .slice A2 F.length c2], .string n] W fun e w' => e = .returned (.tuple #[.string v, .bool true]) ∧ Below W.heap.size W w' := by
  subst hVA
  have hl := ins_len S71.f0 n (⟨n, v⟩ : S71) V
  have hs := ins_srt S71.f0 n ⟨n, v⟩ rfl V hI.sv
  have hg := get_f (ins S71.f0 V n ⟨n, v⟩) [] F n (by have := hI.lv; omega) hs
  rw [if_pos (ins_has S71.f0 n ⟨n, v⟩ rfl V), ins_at S71.f0 z71 n ⟨n, v⟩ rfl V hI.sv] at hg
  exact env_Get.calls A0 c0 _ A1 c1 [] A2 c2 F n v true W C0 h0 C1 (Nat.zero_le _) C2 h2 hg
def lazaruslaw14_EnvOwn.f (_ : List S41) (_ _ : S41) : Option Bool := some true
set_option maxHeartbeats 16000000 in
set_option maxRecDepth 100000 in
theorem own_core (A0 : Option Addr) (c0 : Nat) (l0 : List S41) (a b : S41) (w : World) (hr0 : Kd.C k41 w A0 l0.length l0) (hc0 : l0.length ≤ c0) (h20 : l0.length ≤ 20) :
    Calls Try.prog 4 #[.slice A0 l0.length c0, .agg #[.int .i64 a.f0, .string a.f1, .string a.f2, .int .i64 a.f3], .agg #[.int .i64 b.f0, .string b.f1, .string b.f2, .int .i64 b.f3]] w fun e w' => e = .returned (.bool true) ∧ Below w.heap.size w w' := by
  have a1 : decide ((l0.length : Int) > 20) = false := decide_eq_false (by omega)
  have a2 : decide ((20 : Int) < (l0.length : Int)) = false := decide_eq_false (by omega)
  have a3 : decide (20 < l0.length) = false := decide_eq_false (by omega)
  have hba := below_alloc (Below.refl w.heap.size w) (.cells #[.int .i64 a.f0, .string a.f1, .string a.f2, .int .i64 a.f3] 41)
  have hna := blk_new w (.cells #[.int .i64 a.f0, .string a.f1, .string a.f2, .int .i64 a.f3] 41)
  obtain ⟨Wa, hWa⟩ : ∃ Wa, Wa = w.alloc (.cells #[.int .i64 a.f0, .string a.f1, .string a.f2, .int .i64 a.f3] 41) := ⟨_, rfl⟩
  have HWa := Aside0.mk hWa
  rw [← hWa] at hba hna
  have hsa : Wa.heap.size = w.heap.size + 1 := by rw [hWa]; simp
  have hbb := below_alloc (Below.refl Wa.heap.size Wa) (.cells #[.int .i64 b.f0, .string b.f1, .string b.f2, .int .i64 b.f3] 41)
  have hnb := blk_new Wa (.cells #[.int .i64 b.f0, .string b.f1, .string b.f2, .int .i64 b.f3] 41)
  obtain ⟨Wb, hWb⟩ : ∃ Wb, Wb = Wa.alloc (.cells #[.int .i64 b.f0, .string b.f1, .string b.f2, .int .i64 b.f3] 41) := ⟨_, rfl⟩
  have HWb := Aside0.mk hWb
  rw [← hWb] at hbb hnb
  have hna2 := (hbb.block _ (Array.getElem?_eq_some_iff.1 hna).1).trans hna
  have hsb : Wb.heap.size = w.heap.size + 2 := by rw [hWb]; simp [hsa]
  rw [hsa] at hnb
  obtain ⟨qa, hqa⟩ : ∃ qa, w.heap.size = qa := ⟨_, rfl⟩
  have B0 : Aside0 (Below w.heap.size w Wb) := ⟨hba.trans (hbb.mono hba.size)⟩
  rw [hqa] at hna2 hnb
  have HQA := Aside0.mk hqa
  obtain ⟨qb, hqb⟩ : ∃ qb, qa + 1 = qb := ⟨_, rfl⟩
  rw [hqb] at hnb
  have HQB := Aside0.mk hqb
  have NA := Aside0.mk hna2
  have NB := Aside0.mk hnb
  have HR0 := Aside0.mk (Kd.C_below (Kd.C_below hr0 hba) hbb)
  have HC0 := Aside0.mk hc0
  have H20 := Aside0.mk h20
  have hlt7 : qa < Wb.heap.size ∧ qb < Wb.heap.size := ⟨(Array.getElem?_eq_some_iff.1 hna2).1, (Array.getElem?_eq_some_iff.1 hnb).1⟩
  clear hr0 hc0 h20 hba hna hWa hbb hnb hWb hna2 hsa hsb hqa hqb
  go_enter Try.func4, Try.ntmps4
  go_upto_region 1 with (fail)
  rw [← HWa.out, ← HWb.out, HQA.out, HQB.out]
  have z0 := (blk_cell NA.out 0).trans rfl
  go_upto_region 4 with (fail)
  have hb1 := below_alloc (Below.refl Wb.heap.size Wb) (.cells #[.slice none 0 0, .slice none 0 0, .slice none 0 0] 26)
  have hn1 := blk_new Wb (.cells #[.slice none 0 0, .slice none 0 0, .slice none 0 0] 26)
  obtain ⟨W1, hW1⟩ : ∃ W1, W1 = Wb.alloc (.cells #[.slice none 0 0, .slice none 0 0, .slice none 0 0] 26) := ⟨_, rfl⟩
  rw [← hW1] at hb1 hn1 ⊢
  obtain ⟨g7, hg7⟩ : ∃ g7, Wb.heap.size = g7 := ⟨_, rfl⟩
  have HGE : Aside0 (Wb.heap.size ≤ g7) := ⟨by omega⟩
  have B1 := Aside0.mk hb1
  rw [hg7] at hn1 ⊢
  have N1 := Aside0.mk hn1
  clear hb1 hn1 hW1 hg7 a1 a2 a3 z0
  go_wp2
  go_loopw [8] (fun u8 wr => ∃ (k : Nat) (v0 v1 v2 : Value) (V : List S71) (F : List S67), u8 = .int .i64 (k : Int) ∧ Aside0 (k ≤ l0.length) ∧ Aside0 (EI V F k) ∧ Aside0 (wr.heap[g7]? = some (.cells #[v0, v1, v2] 26 (0, 0))) ∧ Aside0 (EnvR wr Wb.heap.size v0 v1 v2 V F) ∧ Aside0 (Below Wb.heap.size Wb wr)) (fun u8 _ => l0.length + 1 - (intOf u8).toNat)
  case atStart => exact ⟨0, _, _, _, [], [], rfl, ⟨Nat.zero_le _⟩, ⟨⟨trivial, trivial, Nat.le_refl _, Nat.le_refl _⟩⟩, N1, ⟨⟨Kd.R_nil _ _ _ _ _, Kd.R_nil _ _ _ _ _, Kd.R_nil _ _ _ _ _⟩⟩, B1⟩
  case round =>
    obtain ⟨k, v0, v1, v2, V, F, rfl, HK, HI, HN, HE, HB⟩ := hrel
    have h20 := H20.out
    have hk := HK.out
    have hp0 : (0 : Int) ≤ (l0.length : Int) := by omega
    have hp1 : (l0.length : Int) ≤ 20 := by omega
    have hp2 : (0 : Int) ≤ (k : Int) := by omega
    have hp3 : (k : Int) ≤ 20 := by omega
    by_cases hlt : k < l0.length
    · have dl : decide ((k : Int) < (l0.length : Int)) = true := decide_eq_true (by omega)
      have dl' : decide (k < l0.length) = true := decide_eq_true hlt
      have hp4 : (k : Int) < (l0.length : Int) := by omega
      obtain ⟨ad, e1, hcell⟩ := act_at HR0.out k hlt
      subst e1
      obtain ⟨x, hxq⟩ : ∃ x, l0.getD k z41 = x := ⟨_, rfl⟩
      rw [hxq] at hcell
      have HCE := Aside0.mk hcell
      have HLT := Aside0.mk hlt
      clear hxq hcell hlt h20 hk
      go_upto_region 7 with (fail)
      obtain ⟨A1, c1, A2, c2, A3, c3, rfl, rfl, rfl, hl1, hl3, hC1, hC2, hC3⟩ := HE.out.reads
      have hd := below_drew1 (Below.refl wr.heap.size wr)
      have HSS : Aside0 (∀ W', Below wr.heap.size wr W' → W'.cell? ⟨g7, 0, none⟩ = some (.slice A1 V.length c1) ∧ W'.cell? ⟨g7, 1, none⟩ = some (.slice A2 0 c2) ∧ W'.cell? ⟨g7, 2, none⟩ = some (.slice A3 F.length c3) ∧ W'.cell? (ad.add (k * 4)) = some (.int .i64 x.f0) ∧ W'.cell? ⟨(ad.add (k * 4)).block, (ad.add (k * 4)).off + 1, none⟩ = some (.string x.f1) ∧ W'.cell? ⟨(ad.add (k * 4)).block, (ad.add (k * 4)).off + 2, none⟩ = some (.string x.f2) ∧ W'.cell? ⟨(ad.add (k * 4)).block, (ad.add (k * 4)).off + 3, none⟩ = some (.int .i64 x.f3)) := ⟨fun W' hB => by
        have hh := (hB.block _ (Array.getElem?_eq_some_iff.1 HN.out).1).trans HN.out
        exact ⟨(blk_cell hh 0).trans rfl, (blk_cell hh 1).trans rfl, (blk_cell hh 2).trans rfl, HCE.out W' (HB.out.trans (hB.mono HB.out.size))⟩⟩
      have SC : Aside0 (EnvPost wr.drew (ins S71.f0 V x.f1 ⟨x.f1, x.f2⟩) F = EnvPost wr.drew (ins S71.f0 V x.f1 ⟨x.f1, x.f2⟩) F) := ⟨rfl⟩
      have HC1 := Aside0.mk (Kd.C_below hC1 hd)
      have HC2 := Aside0.mk (Kd.C_below hC2 hd)
      have HC3 := Aside0.mk (Kd.C_below hC3 hd)
      have HL1 := Aside0.mk hl1
      have HL3 := Aside0.mk hl3
      have hS0 := HSS.out _ hd
      clear hC1 hC2 hC3 hl1 hl3 SC dl dl'
      refine rm_region 23 (fun w' => w'.cell? ⟨g7, 0, none⟩ = some (.slice A1 V.length c1) ∧ w'.cell? ⟨g7, 1, none⟩ = some (.slice A2 0 c2) ∧ w'.cell? ⟨g7, 2, none⟩ = some (.slice A3 F.length c3) ∧ w'.cell? (ad.add (k * 4)) = some (.int .i64 x.f0) ∧ w'.cell? ⟨(ad.add (k * 4)).block, (ad.add (k * 4)).off + 1, none⟩ = some (.string x.f1) ∧ w'.cell? ⟨(ad.add (k * 4)).block, (ad.add (k * 4)).off + 2, none⟩ = some (.string x.f2) ∧ w'.cell? ⟨(ad.add (k * 4)).block, (ad.add (k * 4)).off + 3, none⟩ = some (.int .i64 x.f3)) (by kernel_rfl) ?_
      refine rm_take (i := 0) (dst := some 26) (v := ?_) (by kernel_rfl) (by kernel_rfl) (by kernel_rfl) (by kernel_rfl) (by kernel_rfl) (fun _ _ _ h => h) (by rfl) ?_ (by assumption) ?_
      rotate_left
      · intro o ho w' hSw
        cases ho
        (try dsimp only at hSw)
        go_simp
        first | done | with_reducible rfl
      simp only [Act.put, List.setIfInBounds_toArray, List.set_cons_zero, List.set_cons_succ]
      refine rm_take (i := 1) (dst := some 27) (v := ?_) (by kernel_rfl) (by kernel_rfl) (by kernel_rfl) (by kernel_rfl) (by kernel_rfl) (fun _ _ _ h => h) (by rfl) ?_ (by assumption) ?_
      rotate_left
      · intro o ho w' hSw
        cases ho
        (try dsimp only at hSw)
        go_simp
        first | done | with_reducible rfl
      simp only [Act.put, List.setIfInBounds_toArray, List.set_cons_zero, List.set_cons_succ]
      refine rm_take (i := 2) (dst := some 28) (v := ?_) (by kernel_rfl) (by kernel_rfl) (by kernel_rfl) (by kernel_rfl) (by kernel_rfl) (fun _ _ _ h => h) (by rfl) ?_ (by assumption) ?_
      rotate_left
      · intro o ho w' hSw
        cases ho
        (try dsimp only at hSw)
        go_simp
        first | done | with_reducible rfl
      simp only [Act.put, List.setIfInBounds_toArray, List.set_cons_zero, List.set_cons_succ]
      refine rm_take (i := 3) (dst := some 29) (v := ?_) (by kernel_rfl) (by kernel_rfl) (by kernel_rfl) (by kernel_rfl) (by kernel_rfl) (fun _ _ _ h => h) (by rfl) ?_ (by assumption) ?_
      rotate_left
      · intro o ho w' hSw
        cases ho
        (try dsimp only at hSw)
        go_simp
        first | done | with_reducible rfl
      simp only [Act.put, List.setIfInBounds_toArray, List.set_cons_zero, List.set_cons_succ]
      refine rm_take (i := 4) (dst := some 30) (v := ?_) (by kernel_rfl) (by kernel_rfl) (by kernel_rfl) (by kernel_rfl) (by kernel_rfl) (fun _ _ _ h => h) (by rfl) ?_ (by assumption) ?_
      rotate_left
      · intro o ho w' hSw
        cases ho
        (try dsimp only at hSw)
        go_simp
        first | done | with_reducible rfl
      simp only [Act.put, List.setIfInBounds_toArray, List.set_cons_zero, List.set_cons_succ]
      refine rm_take (i := 5) (dst := some 31) (v := ?_) (by kernel_rfl) (by kernel_rfl) (by kernel_rfl) (by kernel_rfl) (by kernel_rfl) (fun _ _ _ h => h) (by rfl) ?_ (by assumption) ?_
      rotate_left
      · intro o ho w' hSw
        cases ho
        (try dsimp only at hSw)
        go_simp
        first | done | with_reducible rfl
      simp only [Act.put, List.setIfInBounds_toArray, List.set_cons_zero, List.set_cons_succ]
      refine rm_take (i := 6) (dst := some 32) (v := ?_) (by kernel_rfl) (by kernel_rfl) (by kernel_rfl) (by kernel_rfl) (by kernel_rfl) (fun _ _ _ h => h) (by rfl) ?_ (by assumption) ?_
      rotate_left
      · intro o ho w' hSw
        cases ho
        (try dsimp only at hSw)
        go_simp
        first | done | with_reducible rfl
      simp only [Act.put, List.setIfInBounds_toArray, List.set_cons_zero, List.set_cons_succ]
      refine rm_take (i := 7) (dst := some 33) (v := ?_) (by kernel_rfl) (by kernel_rfl) (by kernel_rfl) (by kernel_rfl) (by kernel_rfl) (fun _ _ _ h => h) (by rfl) ?_ (by assumption) ?_
      rotate_left
      · intro o ho w' hSw
        cases ho
        (try dsimp only at hSw)
        go_simp
        first | done | with_reducible rfl
      simp only [Act.put, List.setIfInBounds_toArray, List.set_cons_zero, List.set_cons_succ]
      refine rm_take (i := 8) (dst := some 34) (v := ?_) (by kernel_rfl) (by kernel_rfl) (by kernel_rfl) (by kernel_rfl) (by kernel_rfl) (fun _ _ _ h => h) (by rfl) ?_ (by assumption) ?_
      rotate_left
      · intro o ho w' hSw
        cases ho
        (try dsimp only at hSw)
        go_simp
        first | done | with_reducible rfl
      simp only [Act.put, List.setIfInBounds_toArray, List.set_cons_zero, List.set_cons_succ]
      refine rm_take (i := 9) (dst := some 35) (v := ?_) (by kernel_rfl) (by kernel_rfl) (by kernel_rfl) (by kernel_rfl) (by kernel_rfl) (fun _ _ _ h => h) (by rfl) ?_ (by assumption) ?_
      rotate_left
      · intro o ho w' hSw
        cases ho
        (try dsimp only at hSw)
        go_simp
        first | done | with_reducible rfl
      simp only [Act.put, List.setIfInBounds_toArray, List.set_cons_zero, List.set_cons_succ]
      refine rm_take (i := 10) (dst := some 36) (v := ?_) (by kernel_rfl) (by kernel_rfl) (by kernel_rfl) (by kernel_rfl) (by kernel_rfl) (fun _ _ _ h => h) (by rfl) ?_ (by assumption) ?_
      rotate_left
      · intro o ho w' hSw
        cases ho
        (try dsimp only at hSw)
        go_simp
        first | done | with_reducible rfl
      simp only [Act.put, List.setIfInBounds_toArray, List.set_cons_zero, List.set_cons_succ]
      refine rm_take (i := 12) (dst := some 38) (v := ?_) (by kernel_rfl) (by kernel_rfl) (by kernel_rfl) (by kernel_rfl) (by kernel_rfl) (fun _ _ _ h => h) (by rfl) ?_ (by assumption) ?_
      rotate_left
      · intro o ho w' hSw
        cases ho
        (try dsimp only at hSw)
        go_simp
        first | done | with_reducible rfl
      simp only [Act.put, List.setIfInBounds_toArray, List.set_cons_zero, List.set_cons_succ]
      refine rm_take (i := 13) (dst := some 39) (v := ?_) (by kernel_rfl) (by kernel_rfl) (by kernel_rfl) (by kernel_rfl) (by kernel_rfl) (fun _ _ _ h => h) (by rfl) ?_ (by assumption) ?_
      rotate_left
      · intro o ho w' hSw
        cases ho
        (try dsimp only at hSw)
        go_simp
        first | done | with_reducible rfl
      simp only [Act.put, List.setIfInBounds_toArray, List.set_cons_zero, List.set_cons_succ]
      refine rm_take (i := 14) (dst := some 40) (v := ?_) (by kernel_rfl) (by kernel_rfl) (by kernel_rfl) (by kernel_rfl) (by kernel_rfl) (fun _ _ _ h => h) (by rfl) ?_ (by assumption) ?_
      rotate_left
      · intro o ho w' hSw
        cases ho
        (try dsimp only at hSw)
        go_simp
        first | done | with_reducible rfl
      simp only [Act.put, List.setIfInBounds_toArray, List.set_cons_zero, List.set_cons_succ]
      refine rm_take (i := 15) (dst := some 41) (v := ?_) (by kernel_rfl) (by kernel_rfl) (by kernel_rfl) (by kernel_rfl) (by kernel_rfl) (fun _ _ _ h => h) (by rfl) ?_ (by assumption) ?_
      rotate_left
      · intro o ho w' hSw
        cases ho
        (try dsimp only at hSw)
        go_simp
        first | done | with_reducible rfl
      simp only [Act.put, List.setIfInBounds_toArray, List.set_cons_zero, List.set_cons_succ]
      refine rm_take (i := 16) (dst := some 42) (v := ?_) (by kernel_rfl) (by kernel_rfl) (by kernel_rfl) (by kernel_rfl) (by kernel_rfl) (fun _ _ _ h => h) (by rfl) ?_ (by assumption) ?_
      rotate_left
      · intro o ho w' hSw
        cases ho
        (try dsimp only at hSw)
        go_simp
        first | done | with_reducible rfl
      simp only [Act.put, List.setIfInBounds_toArray, List.set_cons_zero, List.set_cons_succ]
      refine rm_take (i := 17) (dst := some 43) (v := ?_) (by kernel_rfl) (by kernel_rfl) (by kernel_rfl) (by kernel_rfl) (by kernel_rfl) (fun _ _ _ h => h) (by rfl) ?_ (by assumption) ?_
      rotate_left
      · intro o ho w' hSw
        cases ho
        (try dsimp only at hSw)
        go_simp
        first | done | with_reducible rfl
      simp only [Act.put, List.setIfInBounds_toArray, List.set_cons_zero, List.set_cons_succ]
      refine rm_take (i := 18) (dst := some 44) (v := ?_) (by kernel_rfl) (by kernel_rfl) (by kernel_rfl) (by kernel_rfl) (by kernel_rfl) (fun _ _ _ h => h) (by rfl) ?_ (by assumption) ?_
      rotate_left
      · intro o ho w' hSw
        cases ho
        (try dsimp only at hSw)
        go_simp
        first | done | with_reducible rfl
      simp only [Act.put, List.setIfInBounds_toArray, List.set_cons_zero, List.set_cons_succ]
      refine rm_take (i := 19) (dst := some 45) (v := ?_) (by kernel_rfl) (by kernel_rfl) (by kernel_rfl) (by kernel_rfl) (by kernel_rfl) (fun _ _ _ h => h) (by rfl) ?_ (by assumption) ?_
      rotate_left
      · intro o ho w' hSw
        cases ho
        (try dsimp only at hSw)
        go_simp
        first | done | with_reducible rfl
      simp only [Act.put, List.setIfInBounds_toArray, List.set_cons_zero, List.set_cons_succ]
      refine rm_take (i := 20) (dst := some 46) (v := ?_) (by kernel_rfl) (by kernel_rfl) (by kernel_rfl) (by kernel_rfl) (by kernel_rfl) (fun _ _ _ h => h) (by rfl) ?_ (by assumption) ?_
      rotate_left
      · intro o ho w' hSw
        cases ho
        (try dsimp only at hSw)
        go_simp
        first | done | with_reducible rfl
      simp only [Act.put, List.setIfInBounds_toArray, List.set_cons_zero, List.set_cons_succ]
      refine rm_take (i := 21) (dst := some 47) (v := ?_) (by kernel_rfl) (by kernel_rfl) (by kernel_rfl) (by kernel_rfl) (by kernel_rfl) (fun _ _ _ h => h) (by rfl) ?_ (by assumption) ?_
      rotate_left
      · intro o ho w' hSw
        cases ho
        (try dsimp only at hSw)
        go_simp
        first | done | with_reducible rfl
      simp only [Act.put, List.setIfInBounds_toArray, List.set_cons_zero, List.set_cons_succ]
      have hI2 := HI.out.step x.f1 x.f2 x.f3
      obtain ⟨V2, hV2⟩ : ∃ V2, ins S71.f0 V x.f1 ⟨x.f1, x.f2⟩ = V2 := ⟨_, rfl⟩
      obtain ⟨F2, hF2⟩ : ∃ F2, ins S67.f0 F x.f1 ⟨x.f1, x.f3⟩ = F2 := ⟨_, rfl⟩
      rw [hV2, hF2] at hI2
      have HI2 := Aside0.mk hI2
      have HV2 := Aside0.mk hV2
      have HF2 := Aside0.mk hF2
      clear hI2 hV2 hF2
      refine rm_call (i := 11) (by kernel_rfl) rfl (fun K hK => ?_)
      go_simp
      go_wp2_with (go_at_call 10; refine (set_c HI.out (by have := HK.out; have := H20.out; omega) HL1.out HL3.out HC1.out HC2.out HC3.out x.f1 x.f2).mono ?_; unfold EnvPost; rw [HV2.out]; rintro e w2 ⟨u0, u1, u2, rfl, hE, hB⟩; have D2 := Aside0.mk (hd.trans hB); obtain ⟨A4, c4, A5, c5, A6, c6, rfl, rfl, rfl, hl4, hl6, hC4, hC5, hC6⟩ := hE.reads; have HC4 := Aside0.mk hC4; have HC5 := Aside0.mk hC5; have HC6 := Aside0.mk hC6; have HL4 := Aside0.mk hl4; have HL6 := Aside0.mk hl6; clear hE hB hl4 hl6 hC4 hC5 hC6)
      refine hK.out _ _ (.inr (HSS.out _ D2.out)) ?_
      clear hK K
      refine rm_call (i := 22) (by kernel_rfl) rfl (fun K hK => ?_)
      go_simp
      go_wp2_with (go_at_call 9; refine (define_c (k := k + 1) HI2.out.lv (Nat.le_trans HI.out.lf (Nat.le_succ _)) HI.out.sf (by have := HK.out; have := H20.out; omega) HL4.out HL6.out HC4.out HC5.out HC6.out x.f1 x.f3).mono ?_; unfold EnvPost; rw [HF2.out]; rintro e w3 ⟨d0, d1, d2, rfl, hE, hB⟩; have D3 := Aside0.mk (D2.out.trans (hB.mono D2.out.size)); have E3 := Aside0.mk (hE.lower (Nat.le_trans HB.out.size D2.out.size)); clear hE hB)
      refine hK.out _ _ (.inr (HSS.out _ D3.out)) ?_
      clear hK K
      obtain ⟨A7, c7, A8, c8, A9, c9, rfl, rfl, rfl, -, -, -, -, -⟩ := E3.out.reads
      have n3 := (D3.out.block _ (Array.getElem?_eq_some_iff.1 HN.out).1).trans HN.out
      have hB3 := HB.out.trans (D3.out.mono HB.out.size)
      have g0 := (blk_cell n3 0).trans rfl
      have g1 := (blk_cell n3 1).trans rfl
      have g2 := (blk_cell n3 2).trans rfl
      have f0 := blk_frozen n3 0
      have f1 := blk_frozen n3 1
      have f2 := blk_frozen n3 2
      have HN9 := Aside0.mk (blk_put (blk_put (blk_put n3 0 (.slice A7 V2.length c7) rfl) 1 (.slice A8 0 c8) rfl) 2 (.slice A9 F2.length c9) rfl)
      have HE9 := Aside0.mk (((E3.out.set n3 0 (.slice A7 V2.length c7)).set (blk_put n3 0 (.slice A7 V2.length c7) rfl) 1 (.slice A8 0 c8)).set (blk_put (blk_put n3 0 (.slice A7 V2.length c7) rfl) 1 (.slice A8 0 c8) rfl) 2 (.slice A9 F2.length c9))
      have HB9 := Aside0.mk (((hB3.setCell (p := ⟨g7, 0, none⟩) HGE.out (.slice A7 V2.length c7)).setCell (p := ⟨g7, 1, none⟩) HGE.out (.slice A8 0 c8)).setCell (p := ⟨g7, 2, none⟩) HGE.out (.slice A9 F2.length c9))
      clear n3 hB3
      refine rm_call (i := 23) (by kernel_rfl) rfl (fun K hK => ?_)
      go_simp
      go_wp2
      refine hK.out _ _ (by first | exact .inl rfl | exact .inl trivial | simp) ?_
      clear hK K g0 g1 g2 f0 f1 f2
      refine rm_done (by kernel_rfl) ?_ _
      go_wp2
      exact ⟨⟨k + 1, _, _, _, V2, F2, by go_num, ⟨HLT.out⟩, HI2, HN9, HE9, HB9⟩, by have := HLT.out; simp [intOf]; omega⟩
    · obtain rfl : k = l0.length := by omega
      have dl : decide ((l0.length : Int) < (l0.length : Int)) = false := decide_eq_false (by omega)
      have dl' : decide (l0.length < l0.length) = false := decide_eq_false (by omega)
      obtain ⟨A1, c1, A2, c2, A3, c3, rfl, rfl, rfl, hl1, hl3, hC1, hC2, hC3⟩ := HE.out.reads
      have HSS : Aside0 (∀ W', Below wr.heap.size wr W' → W'.cell? ⟨g7, 0, none⟩ = some (.slice A1 V.length c1) ∧ W'.cell? ⟨g7, 1, none⟩ = some (.slice A2 0 c2) ∧ W'.cell? ⟨g7, 2, none⟩ = some (.slice A3 F.length c3)) := ⟨fun W' hB => by
        have hh := (hB.block _ (Array.getElem?_eq_some_iff.1 HN.out).1).trans HN.out
        exact ⟨(blk_cell hh 0).trans rfl, (blk_cell hh 1).trans rfl, (blk_cell hh 2).trans rfl⟩⟩
      have HC1 := Aside0.mk hC1
      have HC2 := Aside0.mk hC2
      have HC3 := Aside0.mk hC3
      have HL1 := Aside0.mk hl1
      have HL3 := Aside0.mk hl3
      have OD := Aside0.mk (below_drew1 (Below.refl wr.heap.size wr))
      clear hC1 hC2 hC3 hl1 hl3 hlt h20 hk
      go_upto_region 8 with (fail)
      refine wp_region_keys (fun listed a' w' => ∃ (v9 v49 v50 v51 v52 v53 v54 v55 v56 v57 : Value) (g9 : Nat) , a' = { tmps := #[Value.slice A0 l0.length c0, Value.agg #[.int .i64 a.f0, .string a.f1, .string a.f2, .int .i64 a.f3], Value.agg #[.int .i64 b.f0, .string b.f1, .string b.f2, .int .i64 b.f3], undef, Value.pointer (some { block := qa, off := 0 }), Value.pointer (some { block := qb, off := 0 }), Value.bool false, Value.pointer (some { block := g7, off := 0 }), Value.int IntKind.i64 ↑l0.length, v9, undef, undef, undef, undef, undef, undef, Value.slice A0 l0.length c0, Value.int IntKind.i64 ↑l0.length, Value.bool false, Value.agg #[Value.slice none 0 0, Value.slice none 0 0, Value.slice none 0 0], Value.int IntKind.i64 ↑l0.length, Value.slice A0 l0.length c0, Value.int IntKind.i64 ↑l0.length, Value.bool false, u24, u25, u26, u27, u28, u29, u30, u31, u32, u33, u34, u35, u36, u37, u38, u39, u40, u41, u42, u43, u44, u45, u46, u47, u48, v49, v50, v51, v52, v53, v54, v55, v56, v57, undef, undef, undef, undef, undef, undef, undef, undef, undef, undef, undef, undef, undef, undef, undef, undef, undef, undef, undef, undef, undef, undef, undef, undef, undef, undef, undef, undef, undef, undef, undef, undef, undef, undef, undef, undef, undef, undef, undef, undef, undef, undef, undef, undef, undef, undef, undef, undef, undef, undef, undef, undef, undef, undef, undef, undef, undef, undef, undef, undef], defers := [] } ∧ Aside0 (Below wr.heap.size wr w') ∧ (Lst listed 0 → ¬ Lst listed 3 → Aside0 (Kd.R k71 71 w' wr.heap.size (fun _ => True) v49 [])) ∧ (Lst listed 1 → v50 = .pointer (some ⟨g7, 0, none⟩)) ∧ (Lst listed 2 → v51 = .slice A1 V.length c1) ∧ (Lst listed 3 → Aside0 (Kd.R k71 71 w' wr.heap.size (fun _ => True) v52 V)) ∧ (Lst listed 4 → ¬ Lst listed 7 → Aside0 (Kd.R k67 67 w' wr.heap.size (fun _ => True) v53 [])) ∧ (Lst listed 5 → v54 = .pointer (some ⟨g7, 2, none⟩)) ∧ (Lst listed 6 → v55 = .slice A3 F.length c3) ∧ (Lst listed 7 → Aside0 (Kd.R k67 67 w' wr.heap.size (fun _ => True) v56 F)) ∧ (Lst listed 8 → v57 = .agg #[v52, .slice none 0 0, v56]) ∧ (Lst listed 9 → (v9 = .pointer (some ⟨g9, 0, none⟩) ∧ wr.heap.size ≤ g9)) ∧ (Lst listed 9 → ¬ Lst listed 10 → Aside0 (w'.heap[g9]? = some (.cells #[.slice none 0 0, .slice none 0 0, .slice none 0 0] 26 (0, 0)))) ∧ (Lst listed 10 → Aside0 (w'.heap[g9]? = some (.cells #[v52, .slice none 0 0, v56] 26 (0, 0))))) (by kernel_rfl) (by kernel_rfl) ?_ ?_ ?_
      · exact ⟨_, _, _, _, _, _, _, _, _, _, 0, rfl, ⟨below_drew1 (Below.refl _ _)⟩, fun h _ => absurd h (lst_none (by decide)), fun h => absurd h (lst_none (by decide)), fun h => absurd h (lst_none (by decide)), fun h => absurd h (lst_none (by decide)), fun h _ => absurd h (lst_none (by decide)), fun h => absurd h (lst_none (by decide)), fun h => absurd h (lst_none (by decide)), fun h => absurd h (lst_none (by decide)), fun h => absurd h (lst_none (by decide)), fun h => absurd h (lst_none (by decide)), fun h _ => absurd h (lst_none (by decide)), fun h => absurd h (lst_none (by decide))⟩
      · rintro listed a' w' ⟨v9, v49, v50, v51, v52, v53, v54, v55, v56, v57, g9, rfl, hB, k0, k1, k2, k3, k4, k5, k6, k7, k8, k9, k10, k11⟩ hcl i hlt hi
        have hlt : i < 11 := hlt
        have hor : i = 0 ∨ i = 1 ∨ i = 2 ∨ i = 3 ∨ i = 4 ∨ i = 5 ∨ i = 6 ∨ i = 7 ∨ i = 8 ∨ i = 9 ∨ i = 10 := by omega
        rcases hor with rfl | rfl | rfl | rfl | rfl | rfl | rfl | rfl | rfl | rfl | rfl
        · refine keys_step rfl (fun K hK => ?_)
          refine Kd.R_lit_step (w0 := wr) k71 wr.heap.size 71 ?hw (N := 49) ?hd (xs := []) (inner := []) (ok := fun _ => True) (okp := fun _ => True) ?hr ?hp (fun _ hk => hk) trivial hB.out hB.out.size (by simp) ?_
          case hw => go_simp
          case hd => rfl
          case hr => first | (go_simp; done) | (go_simp; rfl)
          case hp => exact (Reps.none _ _)
          intro u1 w1 ho hb hg _
          have hb1 : Below w'.heap.size w' w1 := pw_below_grown (Below.refl _ _) none (Nat.le_refl _) hg (fun _ h => nomatch h)
          refine hK.out _ _ ?_
          exact ⟨_, _, _, _, _, _, _, _, _, _, g9, rfl, ⟨hb⟩, fun p0 n3 => ⟨ho⟩, fun p1 => (k1 ((lst_ne (by decide)).1 p1)), fun p2 => (k2 ((lst_ne (by decide)).1 p2)), fun p3 => ⟨Kd.R_below (k3 ((lst_ne (by decide)).1 p3)).out hb1⟩, fun p4 n7 => ⟨Kd.R_below (k4 ((lst_ne (by decide)).1 p4) (fun e => n7 ((lst_ne (by decide)).2 e))).out hb1⟩, fun p5 => (k5 ((lst_ne (by decide)).1 p5)), fun p6 => (k6 ((lst_ne (by decide)).1 p6)), fun p7 => ⟨Kd.R_below (k7 ((lst_ne (by decide)).1 p7)).out hb1⟩, fun p8 => (k8 ((lst_ne (by decide)).1 p8)), fun p9 => (k9 ((lst_ne (by decide)).1 p9)), fun p9 n10 => ⟨(hb1.block _ (Array.getElem?_eq_some_iff.1 (k10 ((lst_ne (by decide)).1 p9) (fun e => n10 ((lst_ne (by decide)).2 e))).out).1).trans (k10 ((lst_ne (by decide)).1 p9) (fun e => n10 ((lst_ne (by decide)).2 e))).out⟩, fun p10 => ⟨(hb1.block _ (Array.getElem?_eq_some_iff.1 (k11 ((lst_ne (by decide)).1 p10)).out).1).trans (k11 ((lst_ne (by decide)).1 p10)).out⟩⟩
        · refine keys_step rfl (fun K hK => ?_)
          go_simp
          (try go_wp2)
          refine hK.out _ _ ?_
          exact ⟨_, _, _, _, _, _, _, _, _, _, g9, rfl, hB, fun p0 n3 => (k0 ((lst_ne (by decide)).1 p0) (fun e => n3 ((lst_ne (by decide)).2 e))), fun p1 => rfl, fun p2 => (k2 ((lst_ne (by decide)).1 p2)), fun p3 => (k3 ((lst_ne (by decide)).1 p3)), fun p4 n7 => (k4 ((lst_ne (by decide)).1 p4) (fun e => n7 ((lst_ne (by decide)).2 e))), fun p5 => (k5 ((lst_ne (by decide)).1 p5)), fun p6 => (k6 ((lst_ne (by decide)).1 p6)), fun p7 => (k7 ((lst_ne (by decide)).1 p7)), fun p8 => (k8 ((lst_ne (by decide)).1 p8)), fun p9 => (k9 ((lst_ne (by decide)).1 p9)), fun p9 n10 => (k10 ((lst_ne (by decide)).1 p9) (fun e => n10 ((lst_ne (by decide)).2 e))), fun p10 => (k11 ((lst_ne (by decide)).1 p10))⟩
        · obtain rfl := k1 (ready_dep hi (by kernel_rfl))
          have hS := HSS.out _ hB.out
          refine keys_step rfl (fun K hK => ?_)
          go_simp
          (try go_wp2)
          refine hK.out _ _ ?_
          exact ⟨_, _, _, _, _, _, _, _, _, _, g9, rfl, hB, fun p0 n3 => (k0 ((lst_ne (by decide)).1 p0) (fun e => n3 ((lst_ne (by decide)).2 e))), fun _ => rfl, fun p2 => rfl, fun p3 => (k3 ((lst_ne (by decide)).1 p3)), fun p4 n7 => (k4 ((lst_ne (by decide)).1 p4) (fun e => n7 ((lst_ne (by decide)).2 e))), fun p5 => (k5 ((lst_ne (by decide)).1 p5)), fun p6 => (k6 ((lst_ne (by decide)).1 p6)), fun p7 => (k7 ((lst_ne (by decide)).1 p7)), fun p8 => (k8 ((lst_ne (by decide)).1 p8)), fun p9 => (k9 ((lst_ne (by decide)).1 p9)), fun p9 n10 => (k10 ((lst_ne (by decide)).1 p9) (fun e => n10 ((lst_ne (by decide)).2 e))), fun p10 => (k11 ((lst_ne (by decide)).1 p10))⟩
        · have hs := k0 (ready_dep hi (by kernel_rfl)) (ready_not hi)
          obtain rfl := k2 (ready_dep hi (by kernel_rfl))
          refine keys_step rfl (fun K hK => ?_)
          refine Kd.R_append_rows_step k71 (w0 := wr) wr.heap.size ?hw (.tmp 49) (.tmp 51) 22 71 (.agg #[.string ⟨#[]⟩, .string ⟨#[]⟩]) 32 rfl Try.underlying22 api_Binding_57.ins_info rfl (by decide) (by decide) _ [] V A1 V.length c1 (fun _ => True) (fun _ => False) rfl rfl hs.out ?aR (fun _ _ h => h) (fun _ hk => hk.elim) (fun _ _ => trivial) hB.out hB.out.size ?aL ?_
          case hw => go_simp
          case aR => exact Kd.C_below HC1.out hB.out
          case aL => simp only [List.length_nil]; have := HI.out.lv; omega
          intro u1 w1 ho hb hg hat
          have hty := Kd.R_typed hs.out
          refine hK.out _ _ ?_
          exact ⟨_, _, _, _, _, _, _, _, _, _, g9, rfl, ⟨hb⟩, fun _ h3 => lst_not h3, fun p1 => (k1 ((lst_ne (by decide)).1 p1)), fun _ => rfl, fun p3 => ⟨ho⟩, fun p4 n7 => ⟨Kd.R_over' (k4 ((lst_ne (by decide)).1 p4) (fun e => n7 ((lst_ne (by decide)).2 e))).out hty (by decide) hg⟩, fun p5 => (k5 ((lst_ne (by decide)).1 p5)), fun p6 => (k6 ((lst_ne (by decide)).1 p6)), fun p7 => ⟨Kd.R_over' (k7 ((lst_ne (by decide)).1 p7)).out hty (by decide) hg⟩, fun p8 => absurd (hcl 8 3 (by kernel_rfl) ((lst_ne (by decide)).1 p8)) (ready_not hi), fun p9 => (k9 ((lst_ne (by decide)).1 p9)), fun p9 n10 => ⟨blk_grown (k10 ((lst_ne (by decide)).1 p9) (fun e => n10 ((lst_ne (by decide)).2 e))).out hg (fun he => by obtain ⟨cs, hc⟩ := hty _ he.symm; have := (k10 ((lst_ne (by decide)).1 p9) (fun e => n10 ((lst_ne (by decide)).2 e))).out.symm.trans hc; injection this with this; injection this with _ this; exact absurd this (by decide))⟩, fun p10 => absurd (hcl 8 3 (by kernel_rfl) (hcl 10 8 (by kernel_rfl) ((lst_ne (by decide)).1 p10))) (ready_not hi)⟩
        · refine keys_step rfl (fun K hK => ?_)
          refine Kd.R_lit_step (w0 := wr) k67 wr.heap.size 67 ?hw (N := 53) ?hd (xs := []) (inner := []) (ok := fun _ => True) (okp := fun _ => True) ?hr ?hp (fun _ hk => hk) trivial hB.out hB.out.size (by simp) ?_
          case hw => go_simp
          case hd => rfl
          case hr => first | (go_simp; done) | (go_simp; rfl)
          case hp => exact (Reps.none _ _)
          intro u1 w1 ho hb hg _
          have hb1 : Below w'.heap.size w' w1 := pw_below_grown (Below.refl _ _) none (Nat.le_refl _) hg (fun _ h => nomatch h)
          refine hK.out _ _ ?_
          exact ⟨_, _, _, _, _, _, _, _, _, _, g9, rfl, ⟨hb⟩, fun p0 n3 => ⟨Kd.R_below (k0 ((lst_ne (by decide)).1 p0) (fun e => n3 ((lst_ne (by decide)).2 e))).out hb1⟩, fun p1 => (k1 ((lst_ne (by decide)).1 p1)), fun p2 => (k2 ((lst_ne (by decide)).1 p2)), fun p3 => ⟨Kd.R_below (k3 ((lst_ne (by decide)).1 p3)).out hb1⟩, fun p4 n7 => ⟨ho⟩, fun p5 => (k5 ((lst_ne (by decide)).1 p5)), fun p6 => (k6 ((lst_ne (by decide)).1 p6)), fun p7 => ⟨Kd.R_below (k7 ((lst_ne (by decide)).1 p7)).out hb1⟩, fun p8 => (k8 ((lst_ne (by decide)).1 p8)), fun p9 => (k9 ((lst_ne (by decide)).1 p9)), fun p9 n10 => ⟨(hb1.block _ (Array.getElem?_eq_some_iff.1 (k10 ((lst_ne (by decide)).1 p9) (fun e => n10 ((lst_ne (by decide)).2 e))).out).1).trans (k10 ((lst_ne (by decide)).1 p9) (fun e => n10 ((lst_ne (by decide)).2 e))).out⟩, fun p10 => ⟨(hb1.block _ (Array.getElem?_eq_some_iff.1 (k11 ((lst_ne (by decide)).1 p10)).out).1).trans (k11 ((lst_ne (by decide)).1 p10)).out⟩⟩
        · refine keys_step rfl (fun K hK => ?_)
          go_simp
          (try go_wp2)
          refine hK.out _ _ ?_
          exact ⟨_, _, _, _, _, _, _, _, _, _, g9, rfl, hB, fun p0 n3 => (k0 ((lst_ne (by decide)).1 p0) (fun e => n3 ((lst_ne (by decide)).2 e))), fun p1 => (k1 ((lst_ne (by decide)).1 p1)), fun p2 => (k2 ((lst_ne (by decide)).1 p2)), fun p3 => (k3 ((lst_ne (by decide)).1 p3)), fun p4 n7 => (k4 ((lst_ne (by decide)).1 p4) (fun e => n7 ((lst_ne (by decide)).2 e))), fun p5 => rfl, fun p6 => (k6 ((lst_ne (by decide)).1 p6)), fun p7 => (k7 ((lst_ne (by decide)).1 p7)), fun p8 => (k8 ((lst_ne (by decide)).1 p8)), fun p9 => (k9 ((lst_ne (by decide)).1 p9)), fun p9 n10 => (k10 ((lst_ne (by decide)).1 p9) (fun e => n10 ((lst_ne (by decide)).2 e))), fun p10 => (k11 ((lst_ne (by decide)).1 p10))⟩
        · obtain rfl := k5 (ready_dep hi (by kernel_rfl))
          have hS := HSS.out _ hB.out
          refine keys_step rfl (fun K hK => ?_)
          go_simp
          (try go_wp2)
          refine hK.out _ _ ?_
          exact ⟨_, _, _, _, _, _, _, _, _, _, g9, rfl, hB, fun p0 n3 => (k0 ((lst_ne (by decide)).1 p0) (fun e => n3 ((lst_ne (by decide)).2 e))), fun p1 => (k1 ((lst_ne (by decide)).1 p1)), fun p2 => (k2 ((lst_ne (by decide)).1 p2)), fun p3 => (k3 ((lst_ne (by decide)).1 p3)), fun p4 n7 => (k4 ((lst_ne (by decide)).1 p4) (fun e => n7 ((lst_ne (by decide)).2 e))), fun _ => rfl, fun p6 => rfl, fun p7 => (k7 ((lst_ne (by decide)).1 p7)), fun p8 => (k8 ((lst_ne (by decide)).1 p8)), fun p9 => (k9 ((lst_ne (by decide)).1 p9)), fun p9 n10 => (k10 ((lst_ne (by decide)).1 p9) (fun e => n10 ((lst_ne (by decide)).2 e))), fun p10 => (k11 ((lst_ne (by decide)).1 p10))⟩
        · have hs := k4 (ready_dep hi (by kernel_rfl)) (ready_not hi)
          obtain rfl := k6 (ready_dep hi (by kernel_rfl))
          refine keys_step rfl (fun K hK => ?_)
          refine Kd.R_append_rows_step k67 (w0 := wr) wr.heap.size ?hw (.tmp 53) (.tmp 55) 24 67 (.agg #[.string ⟨#[]⟩, .int .i64 0]) 24 rfl Try.underlying24 api_Fun_56.ins_info rfl (by decide) (by decide) _ [] F A3 F.length c3 (fun _ => True) (fun _ => False) rfl rfl hs.out ?aR (fun _ _ h => h) (fun _ hk => hk.elim) (fun _ _ => trivial) hB.out hB.out.size ?aL ?_
          case hw => go_simp
          case aR => exact Kd.C_below HC3.out hB.out
          case aL => simp only [List.length_nil]; have := HI.out.lf; omega
          intro u1 w1 ho hb hg hat
          have hty := Kd.R_typed hs.out
          refine hK.out _ _ ?_
          exact ⟨_, _, _, _, _, _, _, _, _, _, g9, rfl, ⟨hb⟩, fun p0 n3 => ⟨Kd.R_over' (k0 ((lst_ne (by decide)).1 p0) (fun e => n3 ((lst_ne (by decide)).2 e))).out hty (by decide) hg⟩, fun p1 => (k1 ((lst_ne (by decide)).1 p1)), fun p2 => (k2 ((lst_ne (by decide)).1 p2)), fun p3 => ⟨Kd.R_over' (k3 ((lst_ne (by decide)).1 p3)).out hty (by decide) hg⟩, fun _ h7 => lst_not h7, fun p5 => (k5 ((lst_ne (by decide)).1 p5)), fun _ => rfl, fun p7 => ⟨ho⟩, fun p8 => absurd (hcl 8 7 (by kernel_rfl) ((lst_ne (by decide)).1 p8)) (ready_not hi), fun p9 => (k9 ((lst_ne (by decide)).1 p9)), fun p9 n10 => ⟨blk_grown (k10 ((lst_ne (by decide)).1 p9) (fun e => n10 ((lst_ne (by decide)).2 e))).out hg (fun he => by obtain ⟨cs, hc⟩ := hty _ he.symm; have := (k10 ((lst_ne (by decide)).1 p9) (fun e => n10 ((lst_ne (by decide)).2 e))).out.symm.trans hc; injection this with this; injection this with _ this; exact absurd this (by decide))⟩, fun p10 => absurd (hcl 8 7 (by kernel_rfl) (hcl 10 8 (by kernel_rfl) ((lst_ne (by decide)).1 p10))) (ready_not hi)⟩
        · obtain ⟨A52, c52, rfl⟩ := Kd.R_slice (k3 (ready_dep hi (by kernel_rfl))).out
          obtain ⟨A56, c56, rfl⟩ := Kd.R_slice (k7 (ready_dep hi (by kernel_rfl))).out
          refine keys_step rfl (fun K hK => ?_)
          go_simp
          (try go_wp2)
          refine hK.out _ _ ?_
          exact ⟨_, _, _, _, _, _, _, _, _, _, g9, rfl, hB, fun p0 n3 => (k0 ((lst_ne (by decide)).1 p0) (fun e => n3 ((lst_ne (by decide)).2 e))), fun p1 => (k1 ((lst_ne (by decide)).1 p1)), fun p2 => (k2 ((lst_ne (by decide)).1 p2)), fun p3 => (k3 ((lst_ne (by decide)).1 p3)), fun p4 n7 => (k4 ((lst_ne (by decide)).1 p4) (fun e => n7 ((lst_ne (by decide)).2 e))), fun p5 => (k5 ((lst_ne (by decide)).1 p5)), fun p6 => (k6 ((lst_ne (by decide)).1 p6)), fun p7 => (k7 ((lst_ne (by decide)).1 p7)), fun p8 => rfl, fun p9 => (k9 ((lst_ne (by decide)).1 p9)), fun p9 n10 => (k10 ((lst_ne (by decide)).1 p9) (fun e => n10 ((lst_ne (by decide)).2 e))), fun p10 => absurd (hcl 10 8 (by kernel_rfl) ((lst_ne (by decide)).1 p10)) (ready_not hi)⟩
        · refine keys_step rfl (fun K hK => ?_)
          have hb1 := below_alloc (Below.refl w'.heap.size w') (.cells #[.slice none 0 0, .slice none 0 0, .slice none 0 0] 26)
          have hn1 := blk_new w' (.cells #[.slice none 0 0, .slice none 0 0, .slice none 0 0] 26)
          go_simp
          (try go_wp2)
          refine hK.out _ _ ?_
          exact ⟨_, _, _, _, _, _, _, _, _, _, w'.heap.size, rfl, ⟨hB.out.trans (hb1.mono hB.out.size)⟩, fun p0 n3 => ⟨Kd.R_below (k0 ((lst_ne (by decide)).1 p0) (fun e => n3 ((lst_ne (by decide)).2 e))).out hb1⟩, fun p1 => (k1 ((lst_ne (by decide)).1 p1)), fun p2 => (k2 ((lst_ne (by decide)).1 p2)), fun p3 => ⟨Kd.R_below (k3 ((lst_ne (by decide)).1 p3)).out hb1⟩, fun p4 n7 => ⟨Kd.R_below (k4 ((lst_ne (by decide)).1 p4) (fun e => n7 ((lst_ne (by decide)).2 e))).out hb1⟩, fun p5 => (k5 ((lst_ne (by decide)).1 p5)), fun p6 => (k6 ((lst_ne (by decide)).1 p6)), fun p7 => ⟨Kd.R_below (k7 ((lst_ne (by decide)).1 p7)).out hb1⟩, fun p8 => (k8 ((lst_ne (by decide)).1 p8)), fun p9 => ⟨rfl, hB.out.size⟩, fun p9 n10 => ⟨hn1⟩, fun p10 => absurd (hcl 10 9 (by kernel_rfl) ((lst_ne (by decide)).1 p10)) (ready_not hi)⟩
        · obtain ⟨rfl, hg9⟩ := k9 (ready_dep hi (by kernel_rfl))
          have hbx := (k10 (ready_dep hi (by kernel_rfl)) (ready_not hi)).out
          obtain ⟨A52, c52, rfl⟩ := Kd.R_slice (k3 (hcl 8 3 (by kernel_rfl) (ready_dep hi (by kernel_rfl)))).out
          obtain ⟨A56, c56, rfl⟩ := Kd.R_slice (k7 (hcl 8 7 (by kernel_rfl) (ready_dep hi (by kernel_rfl)))).out
          obtain rfl := k8 (ready_dep hi (by kernel_rfl))
          have x0 := (blk_cell hbx 0).trans rfl
          have x1 := (blk_cell hbx 1).trans rfl
          have x2 := (blk_cell hbx 2).trans rfl
          have y0 := blk_frozen hbx 0
          have y1 := blk_frozen hbx 1
          have y2 := blk_frozen hbx 2
          refine keys_step rfl (fun K hK => ?_)
          go_simp
          go_wp2
          refine hK.out _ _ ?_
          exact ⟨_, _, _, _, _, _, _, _, _, _, g9, rfl, ⟨((hB.out.setCell (p := ⟨g9, 0, none⟩) hg9 _).setCell (p := ⟨g9, 1, none⟩) hg9 _).setCell (p := ⟨g9, 2, none⟩) hg9 _⟩, fun p0 n3 => ⟨Kd.R_set (Kd.R_set (Kd.R_set (k0 ((lst_ne (by decide)).1 p0) (fun e => n3 ((lst_ne (by decide)).2 e))).out hbx (by decide) 0 _) (blk_put hbx 0 _ rfl) (by decide) 1 _) (blk_put (blk_put hbx 0 _ rfl) 1 _ rfl) (by decide) 2 _⟩, fun p1 => (k1 ((lst_ne (by decide)).1 p1)), fun p2 => (k2 ((lst_ne (by decide)).1 p2)), fun p3 => ⟨Kd.R_set (Kd.R_set (Kd.R_set (k3 ((lst_ne (by decide)).1 p3)).out hbx (by decide) 0 _) (blk_put hbx 0 _ rfl) (by decide) 1 _) (blk_put (blk_put hbx 0 _ rfl) 1 _ rfl) (by decide) 2 _⟩, fun p4 n7 => ⟨Kd.R_set (Kd.R_set (Kd.R_set (k4 ((lst_ne (by decide)).1 p4) (fun e => n7 ((lst_ne (by decide)).2 e))).out hbx (by decide) 0 _) (blk_put hbx 0 _ rfl) (by decide) 1 _) (blk_put (blk_put hbx 0 _ rfl) 1 _ rfl) (by decide) 2 _⟩, fun p5 => (k5 ((lst_ne (by decide)).1 p5)), fun p6 => (k6 ((lst_ne (by decide)).1 p6)), fun p7 => ⟨Kd.R_set (Kd.R_set (Kd.R_set (k7 ((lst_ne (by decide)).1 p7)).out hbx (by decide) 0 _) (blk_put hbx 0 _ rfl) (by decide) 1 _) (blk_put (blk_put hbx 0 _ rfl) 1 _ rfl) (by decide) 2 _⟩, fun p8 => rfl, fun p9 => ⟨rfl, hg9⟩, fun _ h10 => lst_not h10, fun p10 => ⟨blk_put (blk_put (blk_put hbx 0 _ rfl) 1 _ rfl) 2 _ rfl⟩⟩
      · rintro listed a' wq ⟨v9, v49, v50, v51, v52, v53, v54, v55, v56, v57, g9, rfl, hB, k0, k1, k2, k3, k4, k5, k6, k7, k8, k9, k10, k11⟩ hall
        have R52 := k3 (hall 3 (by decide))
        have R56 := k7 (hall 7 (by decide))
        obtain ⟨A52, c52, rfl, l52, C52⟩ := Kd.R_reads R52.out
        obtain ⟨A56, c56, rfl, l56, C56⟩ := Kd.R_reads R56.out
        obtain ⟨rfl, hg9⟩ := k9 (hall 9 (by decide))
        have N9 := k11 (hall 10 (by decide))
        have HBW := hB
        clear hB hall k0 k1 k2 k3 k4 k5 k6 k7 k8 k9 k10 k11
        have C52 := Aside0.mk C52
        have C56 := Aside0.mk C56
        have L52 := Aside0.mk l52
        have L56 := Aside0.mk l56
        clear R52 R56 l52 l56
        obtain ⟨VA, hVA⟩ : ∃ VA, ins S71.f0 V a.f1 ⟨a.f1, a.f2⟩ = VA := ⟨_, rfl⟩
        have HVA := Aside0.mk hVA
        obtain ⟨VB, hVB⟩ : ∃ VB, ins S71.f0 V b.f1 ⟨b.f1, b.f2⟩ = VB := ⟨_, rfl⟩
        have HVB := Aside0.mk hVB
        clear hVA hVB
        have HS9 : Aside0 (∀ W', Below wq.heap.size wq W' → (W'.cell? ⟨g7, 0, none⟩ = some (.slice A1 V.length c1) ∧ W'.cell? ⟨g7, 1, none⟩ = some (.slice A2 0 c2) ∧ W'.cell? ⟨g7, 2, none⟩ = some (.slice A3 F.length c3)) ∧ (W'.cell? ⟨qa, 1, none⟩ = some (.string a.f1) ∧ W'.cell? ⟨qa, 2, none⟩ = some (.string a.f2)) ∧ (W'.cell? ⟨qb, 1, none⟩ = some (.string b.f1) ∧ W'.cell? ⟨qb, 2, none⟩ = some (.string b.f2))) := ⟨fun W' hB => by
          have hw := HBW.out.trans (hB.mono HBW.out.size)
          have ha := blk_below (blk_below NA.out HB.out) hw
          have hb := blk_below (blk_below NB.out HB.out) hw
          exact ⟨HSS.out _ hw, ⟨(blk_cell ha 1).trans rfl, (blk_cell ha 2).trans rfl⟩, ⟨(blk_cell hb 1).trans rfl, (blk_cell hb 2).trans rfl⟩⟩⟩
        go_wp2
        go_upto_region 9 with (fail)
        refine wp_region_keys (fun listed a' w' => ∃ (v10 v11 v58 v59 v60 v61 v62 v63 v64 v65 v66 v67 v68 v69 x0 x1 x2 y0 y1 y2 : Value) (g10 g11 : Nat) , a' = { tmps := #[Value.slice A0 l0.length c0, Value.agg #[.int .i64 a.f0, .string a.f1, .string a.f2, .int .i64 a.f3], Value.agg #[.int .i64 b.f0, .string b.f1, .string b.f2, .int .i64 b.f3], undef, Value.pointer (some { block := qa, off := 0 }), Value.pointer (some { block := qb, off := 0 }), Value.bool false, Value.pointer (some { block := g7, off := 0 }), Value.int IntKind.i64 ↑l0.length, Value.pointer (some { block := g9, off := 0 }), v10, v11, undef, undef, undef, undef, Value.slice A0 l0.length c0, Value.int IntKind.i64 ↑l0.length, Value.bool false, Value.agg #[Value.slice none 0 0, Value.slice none 0 0, Value.slice none 0 0], Value.int IntKind.i64 ↑l0.length, Value.slice A0 l0.length c0, Value.int IntKind.i64 ↑l0.length, Value.bool false, u24, u25, u26, u27, u28, u29, u30, u31, u32, u33, u34, u35, u36, u37, u38, u39, u40, u41, u42, u43, u44, u45, u46, u47, u48, v49, v50, v51, Value.slice A52 V.length c52, v53, v54, v55, Value.slice A56 F.length c56, v57, v58, v59, v60, v61, v62, v63, v64, v65, v66, v67, v68, v69, undef, undef, undef, undef, undef, undef, undef, undef, undef, undef, undef, undef, undef, undef, undef, undef, undef, undef, undef, undef, undef, undef, undef, undef, undef, undef, undef, undef, undef, undef, undef, undef, undef, undef, undef, undef, undef, undef, undef, undef, undef, undef, undef, undef, undef, undef, undef, undef], defers := [] } ∧ Aside0 (Below wq.heap.size wq w') ∧ (Lst listed 0 → v58 = .agg #[.slice A1 V.length c1, .slice A2 0 c2, .slice A3 F.length c3]) ∧ (Lst listed 1 → v59 = .pointer (some ⟨qa, 1, none⟩)) ∧ (Lst listed 2 → v60 = .string a.f1) ∧ (Lst listed 3 → v61 = .pointer (some ⟨qa, 2, none⟩)) ∧ (Lst listed 4 → v62 = .string a.f2) ∧ (Lst listed 5 → (v63 = .agg #[x0, x1, x2] ∧ Aside0 (EnvR w' wq.heap.size x0 x1 x2 VA F))) ∧ (Lst listed 6 → v64 = .agg #[.slice A1 V.length c1, .slice A2 0 c2, .slice A3 F.length c3]) ∧ (Lst listed 7 → v65 = .pointer (some ⟨qb, 1, none⟩)) ∧ (Lst listed 8 → v66 = .string b.f1) ∧ (Lst listed 9 → v67 = .pointer (some ⟨qb, 2, none⟩)) ∧ (Lst listed 10 → v68 = .string b.f2) ∧ (Lst listed 11 → (v69 = .agg #[y0, y1, y2] ∧ Aside0 (EnvR w' wq.heap.size y0 y1 y2 VB F))) ∧ (Lst listed 12 → (v10 = .pointer (some ⟨g10, 0, none⟩) ∧ wq.heap.size ≤ g10 ∧ g10 < w'.heap.size)) ∧ (Lst listed 13 → (v11 = .pointer (some ⟨g11, 0, none⟩) ∧ wq.heap.size ≤ g11 ∧ g11 < w'.heap.size)) ∧ (Lst listed 12 → ¬ Lst listed 14 → Aside0 (w'.heap[g10]? = some (.cells #[.slice none 0 0, .slice none 0 0, .slice none 0 0] 26 (0, 0)))) ∧ (Lst listed 14 → Aside0 (w'.heap[g10]? = some (.cells #[x0, x1, x2] 26 (0, 0)))) ∧ (Lst listed 13 → ¬ Lst listed 15 → Aside0 (w'.heap[g11]? = some (.cells #[.slice none 0 0, .slice none 0 0, .slice none 0 0] 26 (0, 0)))) ∧ (Lst listed 15 → Aside0 (w'.heap[g11]? = some (.cells #[y0, y1, y2] 26 (0, 0)))) ∧ (Lst listed 12 → Lst listed 13 → g10 ≠ g11)) (by kernel_rfl) (by kernel_rfl) ?_ ?_ ?_
        · exact ⟨_, _, _, _, _, _, _, _, _, _, _, _, _, _, undef, undef, undef, undef, undef, undef, 0, 0, rfl, ⟨below_drew1 (Below.refl _ _)⟩, fun h => absurd h (lst_none (by decide)), fun h => absurd h (lst_none (by decide)), fun h => absurd h (lst_none (by decide)), fun h => absurd h (lst_none (by decide)), fun h => absurd h (lst_none (by decide)), fun h => absurd h (lst_none (by decide)), fun h => absurd h (lst_none (by decide)), fun h => absurd h (lst_none (by decide)), fun h => absurd h (lst_none (by decide)), fun h => absurd h (lst_none (by decide)), fun h => absurd h (lst_none (by decide)), fun h => absurd h (lst_none (by decide)), fun h => absurd h (lst_none (by decide)), fun h => absurd h (lst_none (by decide)), fun h _ => absurd h (lst_none (by decide)), fun h => absurd h (lst_none (by decide)), fun h _ => absurd h (lst_none (by decide)), fun h => absurd h (lst_none (by decide)), fun h _ => absurd h (lst_none (by decide))⟩
        · rintro listed a' w' ⟨v10, v11, v58, v59, v60, v61, v62, v63, v64, v65, v66, v67, v68, v69, x0, x1, x2, y0, y1, y2, g10, g11, rfl, hB, k0, k1, k2, k3, k4, k5, k6, k7, k8, k9, k10, k11, k12, k13, k14, k15, k16, k17, k18⟩ hcl i hlt hi
          have hlt : i < 16 := hlt
          have hor : i = 0 ∨ i = 1 ∨ i = 2 ∨ i = 3 ∨ i = 4 ∨ i = 5 ∨ i = 6 ∨ i = 7 ∨ i = 8 ∨ i = 9 ∨ i = 10 ∨ i = 11 ∨ i = 12 ∨ i = 13 ∨ i = 14 ∨ i = 15 := by omega
          rcases hor with rfl | rfl | rfl | rfl | rfl | rfl | rfl | rfl | rfl | rfl | rfl | rfl | rfl | rfl | rfl | rfl
          · have ⟨hS1, hS2, hS3⟩ := HS9.out _ hB.out
            refine keys_step rfl (fun K hK => ?_)
            go_simp
            (try go_wp2)
            refine hK.out _ _ ?_
            exact ⟨_, _, _, _, _, _, _, _, _, _, _, _, _, _, x0, x1, x2, y0, y1, y2, g10, g11, rfl, hB, fun p0 => rfl, fun p1 => (k1 ((lst_ne (by decide)).1 p1)), fun p2 => (k2 ((lst_ne (by decide)).1 p2)), fun p3 => (k3 ((lst_ne (by decide)).1 p3)), fun p4 => (k4 ((lst_ne (by decide)).1 p4)), fun p5 => (k5 ((lst_ne (by decide)).1 p5)), fun p6 => (k6 ((lst_ne (by decide)).1 p6)), fun p7 => (k7 ((lst_ne (by decide)).1 p7)), fun p8 => (k8 ((lst_ne (by decide)).1 p8)), fun p9 => (k9 ((lst_ne (by decide)).1 p9)), fun p10 => (k10 ((lst_ne (by decide)).1 p10)), fun p11 => (k11 ((lst_ne (by decide)).1 p11)), fun p12 => (k12 ((lst_ne (by decide)).1 p12)), fun p13 => (k13 ((lst_ne (by decide)).1 p13)), fun p12 n14 => (k14 ((lst_ne (by decide)).1 p12) (fun e => n14 ((lst_ne (by decide)).2 e))), fun p14 => (k15 ((lst_ne (by decide)).1 p14)), fun p13 n15 => (k16 ((lst_ne (by decide)).1 p13) (fun e => n15 ((lst_ne (by decide)).2 e))), fun p15 => (k17 ((lst_ne (by decide)).1 p15)), fun p12 p13 => (k18 ((lst_ne (by decide)).1 p12) ((lst_ne (by decide)).1 p13))⟩
          · have ⟨hS1, hS2, hS3⟩ := HS9.out _ hB.out
            refine keys_step rfl (fun K hK => ?_)
            go_simp
            (try go_wp2)
            refine hK.out _ _ ?_
            exact ⟨_, _, _, _, _, _, _, _, _, _, _, _, _, _, x0, x1, x2, y0, y1, y2, g10, g11, rfl, hB, fun p0 => (k0 ((lst_ne (by decide)).1 p0)), fun p1 => rfl, fun p2 => (k2 ((lst_ne (by decide)).1 p2)), fun p3 => (k3 ((lst_ne (by decide)).1 p3)), fun p4 => (k4 ((lst_ne (by decide)).1 p4)), fun p5 => (k5 ((lst_ne (by decide)).1 p5)), fun p6 => (k6 ((lst_ne (by decide)).1 p6)), fun p7 => (k7 ((lst_ne (by decide)).1 p7)), fun p8 => (k8 ((lst_ne (by decide)).1 p8)), fun p9 => (k9 ((lst_ne (by decide)).1 p9)), fun p10 => (k10 ((lst_ne (by decide)).1 p10)), fun p11 => (k11 ((lst_ne (by decide)).1 p11)), fun p12 => (k12 ((lst_ne (by decide)).1 p12)), fun p13 => (k13 ((lst_ne (by decide)).1 p13)), fun p12 n14 => (k14 ((lst_ne (by decide)).1 p12) (fun e => n14 ((lst_ne (by decide)).2 e))), fun p14 => (k15 ((lst_ne (by decide)).1 p14)), fun p13 n15 => (k16 ((lst_ne (by decide)).1 p13) (fun e => n15 ((lst_ne (by decide)).2 e))), fun p15 => (k17 ((lst_ne (by decide)).1 p15)), fun p12 p13 => (k18 ((lst_ne (by decide)).1 p12) ((lst_ne (by decide)).1 p13))⟩
          · obtain rfl := k1 (ready_dep hi (by kernel_rfl))
            have ⟨hS1, hS2, hS3⟩ := HS9.out _ hB.out
            refine keys_step rfl (fun K hK => ?_)
            go_simp
            (try go_wp2)
            refine hK.out _ _ ?_
            exact ⟨_, _, _, _, _, _, _, _, _, _, _, _, _, _, x0, x1, x2, y0, y1, y2, g10, g11, rfl, hB, fun p0 => (k0 ((lst_ne (by decide)).1 p0)), fun _ => rfl, fun p2 => rfl, fun p3 => (k3 ((lst_ne (by decide)).1 p3)), fun p4 => (k4 ((lst_ne (by decide)).1 p4)), fun p5 => (k5 ((lst_ne (by decide)).1 p5)), fun p6 => (k6 ((lst_ne (by decide)).1 p6)), fun p7 => (k7 ((lst_ne (by decide)).1 p7)), fun p8 => (k8 ((lst_ne (by decide)).1 p8)), fun p9 => (k9 ((lst_ne (by decide)).1 p9)), fun p10 => (k10 ((lst_ne (by decide)).1 p10)), fun p11 => (k11 ((lst_ne (by decide)).1 p11)), fun p12 => (k12 ((lst_ne (by decide)).1 p12)), fun p13 => (k13 ((lst_ne (by decide)).1 p13)), fun p12 n14 => (k14 ((lst_ne (by decide)).1 p12) (fun e => n14 ((lst_ne (by decide)).2 e))), fun p14 => (k15 ((lst_ne (by decide)).1 p14)), fun p13 n15 => (k16 ((lst_ne (by decide)).1 p13) (fun e => n15 ((lst_ne (by decide)).2 e))), fun p15 => (k17 ((lst_ne (by decide)).1 p15)), fun p12 p13 => (k18 ((lst_ne (by decide)).1 p12) ((lst_ne (by decide)).1 p13))⟩
          · have ⟨hS1, hS2, hS3⟩ := HS9.out _ hB.out
            refine keys_step rfl (fun K hK => ?_)
            go_simp
            (try go_wp2)
            refine hK.out _ _ ?_
            exact ⟨_, _, _, _, _, _, _, _, _, _, _, _, _, _, x0, x1, x2, y0, y1, y2, g10, g11, rfl, hB, fun p0 => (k0 ((lst_ne (by decide)).1 p0)), fun p1 => (k1 ((lst_ne (by decide)).1 p1)), fun p2 => (k2 ((lst_ne (by decide)).1 p2)), fun p3 => rfl, fun p4 => (k4 ((lst_ne (by decide)).1 p4)), fun p5 => (k5 ((lst_ne (by decide)).1 p5)), fun p6 => (k6 ((lst_ne (by decide)).1 p6)), fun p7 => (k7 ((lst_ne (by decide)).1 p7)), fun p8 => (k8 ((lst_ne (by decide)).1 p8)), fun p9 => (k9 ((lst_ne (by decide)).1 p9)), fun p10 => (k10 ((lst_ne (by decide)).1 p10)), fun p11 => (k11 ((lst_ne (by decide)).1 p11)), fun p12 => (k12 ((lst_ne (by decide)).1 p12)), fun p13 => (k13 ((lst_ne (by decide)).1 p13)), fun p12 n14 => (k14 ((lst_ne (by decide)).1 p12) (fun e => n14 ((lst_ne (by decide)).2 e))), fun p14 => (k15 ((lst_ne (by decide)).1 p14)), fun p13 n15 => (k16 ((lst_ne (by decide)).1 p13) (fun e => n15 ((lst_ne (by decide)).2 e))), fun p15 => (k17 ((lst_ne (by decide)).1 p15)), fun p12 p13 => (k18 ((lst_ne (by decide)).1 p12) ((lst_ne (by decide)).1 p13))⟩
          · obtain rfl := k3 (ready_dep hi (by kernel_rfl))
            have ⟨hS1, hS2, hS3⟩ := HS9.out _ hB.out
            refine keys_step rfl (fun K hK => ?_)
            go_simp
            (try go_wp2)
            refine hK.out _ _ ?_
            exact ⟨_, _, _, _, _, _, _, _, _, _, _, _, _, _, x0, x1, x2, y0, y1, y2, g10, g11, rfl, hB, fun p0 => (k0 ((lst_ne (by decide)).1 p0)), fun p1 => (k1 ((lst_ne (by decide)).1 p1)), fun p2 => (k2 ((lst_ne (by decide)).1 p2)), fun _ => rfl, fun p4 => rfl, fun p5 => (k5 ((lst_ne (by decide)).1 p5)), fun p6 => (k6 ((lst_ne (by decide)).1 p6)), fun p7 => (k7 ((lst_ne (by decide)).1 p7)), fun p8 => (k8 ((lst_ne (by decide)).1 p8)), fun p9 => (k9 ((lst_ne (by decide)).1 p9)), fun p10 => (k10 ((lst_ne (by decide)).1 p10)), fun p11 => (k11 ((lst_ne (by decide)).1 p11)), fun p12 => (k12 ((lst_ne (by decide)).1 p12)), fun p13 => (k13 ((lst_ne (by decide)).1 p13)), fun p12 n14 => (k14 ((lst_ne (by decide)).1 p12) (fun e => n14 ((lst_ne (by decide)).2 e))), fun p14 => (k15 ((lst_ne (by decide)).1 p14)), fun p13 n15 => (k16 ((lst_ne (by decide)).1 p13) (fun e => n15 ((lst_ne (by decide)).2 e))), fun p15 => (k17 ((lst_ne (by decide)).1 p15)), fun p12 p13 => (k18 ((lst_ne (by decide)).1 p12) ((lst_ne (by decide)).1 p13))⟩
          · obtain rfl := k0 (ready_dep hi (by kernel_rfl))
            obtain rfl := k2 (ready_dep hi (by kernel_rfl))
            obtain rfl := k4 (ready_dep hi (by kernel_rfl))
            have hw := HBW.out.trans (hB.out.mono HBW.out.size)
            refine keys_step rfl (fun K hK => ?_)
            go_simp
            go_wp2_with (go_at_call 10; refine (set_c HI.out (by have := H20.out; omega) HL1.out HL3.out (Kd.C_below HC1.out hw) (Kd.C_below HC2.out hw) (Kd.C_below HC3.out hw) a.f1 a.f2).mono ?_; unfold EnvPost; rw [HVA.out]; rintro e w2 ⟨z0, z1, z2, rfl, hE, hb1⟩)
            refine hK.out _ _ ?_
            exact ⟨_, _, _, _, _, _, _, _, _, _, _, _, _, _, z0, z1, z2, y0, y1, y2, g10, g11, rfl, ⟨hB.out.trans (hb1.mono hB.out.size)⟩, fun _ => rfl, fun p1 => (k1 ((lst_ne (by decide)).1 p1)), fun _ => rfl, fun p3 => (k3 ((lst_ne (by decide)).1 p3)), fun _ => rfl, fun p5 => ⟨rfl, ⟨hE.lower hB.out.size⟩⟩, fun p6 => (k6 ((lst_ne (by decide)).1 p6)), fun p7 => (k7 ((lst_ne (by decide)).1 p7)), fun p8 => (k8 ((lst_ne (by decide)).1 p8)), fun p9 => (k9 ((lst_ne (by decide)).1 p9)), fun p10 => (k10 ((lst_ne (by decide)).1 p10)), fun p11 => ⟨(k11 ((lst_ne (by decide)).1 p11)).1, ⟨(k11 ((lst_ne (by decide)).1 p11)).2.out.below hb1⟩⟩, fun p12 => ⟨(k12 ((lst_ne (by decide)).1 p12)).1, (k12 ((lst_ne (by decide)).1 p12)).2.1, Nat.lt_of_lt_of_le (k12 ((lst_ne (by decide)).1 p12)).2.2 hb1.size⟩, fun p13 => ⟨(k13 ((lst_ne (by decide)).1 p13)).1, (k13 ((lst_ne (by decide)).1 p13)).2.1, Nat.lt_of_lt_of_le (k13 ((lst_ne (by decide)).1 p13)).2.2 hb1.size⟩, fun p12 n14 => ⟨blk_below (k14 ((lst_ne (by decide)).1 p12) (fun e => n14 ((lst_ne (by decide)).2 e))).out hb1⟩, fun p14 => absurd (hcl 14 5 (by kernel_rfl) ((lst_ne (by decide)).1 p14)) (ready_not hi), fun p13 n15 => ⟨blk_below (k16 ((lst_ne (by decide)).1 p13) (fun e => n15 ((lst_ne (by decide)).2 e))).out hb1⟩, fun p15 => ⟨blk_below (k17 ((lst_ne (by decide)).1 p15)).out hb1⟩, fun p12 p13 => (k18 ((lst_ne (by decide)).1 p12) ((lst_ne (by decide)).1 p13))⟩
          · have ⟨hS1, hS2, hS3⟩ := HS9.out _ hB.out
            refine keys_step rfl (fun K hK => ?_)
            go_simp
            (try go_wp2)
            refine hK.out _ _ ?_
            exact ⟨_, _, _, _, _, _, _, _, _, _, _, _, _, _, x0, x1, x2, y0, y1, y2, g10, g11, rfl, hB, fun p0 => (k0 ((lst_ne (by decide)).1 p0)), fun p1 => (k1 ((lst_ne (by decide)).1 p1)), fun p2 => (k2 ((lst_ne (by decide)).1 p2)), fun p3 => (k3 ((lst_ne (by decide)).1 p3)), fun p4 => (k4 ((lst_ne (by decide)).1 p4)), fun p5 => (k5 ((lst_ne (by decide)).1 p5)), fun p6 => rfl, fun p7 => (k7 ((lst_ne (by decide)).1 p7)), fun p8 => (k8 ((lst_ne (by decide)).1 p8)), fun p9 => (k9 ((lst_ne (by decide)).1 p9)), fun p10 => (k10 ((lst_ne (by decide)).1 p10)), fun p11 => (k11 ((lst_ne (by decide)).1 p11)), fun p12 => (k12 ((lst_ne (by decide)).1 p12)), fun p13 => (k13 ((lst_ne (by decide)).1 p13)), fun p12 n14 => (k14 ((lst_ne (by decide)).1 p12) (fun e => n14 ((lst_ne (by decide)).2 e))), fun p14 => (k15 ((lst_ne (by decide)).1 p14)), fun p13 n15 => (k16 ((lst_ne (by decide)).1 p13) (fun e => n15 ((lst_ne (by decide)).2 e))), fun p15 => (k17 ((lst_ne (by decide)).1 p15)), fun p12 p13 => (k18 ((lst_ne (by decide)).1 p12) ((lst_ne (by decide)).1 p13))⟩
          · have ⟨hS1, hS2, hS3⟩ := HS9.out _ hB.out
            refine keys_step rfl (fun K hK => ?_)
            go_simp
            (try go_wp2)
            refine hK.out _ _ ?_
            exact ⟨_, _, _, _, _, _, _, _, _, _, _, _, _, _, x0, x1, x2, y0, y1, y2, g10, g11, rfl, hB, fun p0 => (k0 ((lst_ne (by decide)).1 p0)), fun p1 => (k1 ((lst_ne (by decide)).1 p1)), fun p2 => (k2 ((lst_ne (by decide)).1 p2)), fun p3 => (k3 ((lst_ne (by decide)).1 p3)), fun p4 => (k4 ((lst_ne (by decide)).1 p4)), fun p5 => (k5 ((lst_ne (by decide)).1 p5)), fun p6 => (k6 ((lst_ne (by decide)).1 p6)), fun p7 => rfl, fun p8 => (k8 ((lst_ne (by decide)).1 p8)), fun p9 => (k9 ((lst_ne (by decide)).1 p9)), fun p10 => (k10 ((lst_ne (by decide)).1 p10)), fun p11 => (k11 ((lst_ne (by decide)).1 p11)), fun p12 => (k12 ((lst_ne (by decide)).1 p12)), fun p13 => (k13 ((lst_ne (by decide)).1 p13)), fun p12 n14 => (k14 ((lst_ne (by decide)).1 p12) (fun e => n14 ((lst_ne (by decide)).2 e))), fun p14 => (k15 ((lst_ne (by decide)).1 p14)), fun p13 n15 => (k16 ((lst_ne (by decide)).1 p13) (fun e => n15 ((lst_ne (by decide)).2 e))), fun p15 => (k17 ((lst_ne (by decide)).1 p15)), fun p12 p13 => (k18 ((lst_ne (by decide)).1 p12) ((lst_ne (by decide)).1 p13))⟩
          · obtain rfl := k7 (ready_dep hi (by kernel_rfl))
            have ⟨hS1, hS2, hS3⟩ := HS9.out _ hB.out
            refine keys_step rfl (fun K hK => ?_)
            go_simp
            (try go_wp2)
            refine hK.out _ _ ?_
            exact ⟨_, _, _, _, _, _, _, _, _, _, _, _, _, _, x0, x1, x2, y0, y1, y2, g10, g11, rfl, hB, fun p0 => (k0 ((lst_ne (by decide)).1 p0)), fun p1 => (k1 ((lst_ne (by decide)).1 p1)), fun p2 => (k2 ((lst_ne (by decide)).1 p2)), fun p3 => (k3 ((lst_ne (by decide)).1 p3)), fun p4 => (k4 ((lst_ne (by decide)).1 p4)), fun p5 => (k5 ((lst_ne (by decide)).1 p5)), fun p6 => (k6 ((lst_ne (by decide)).1 p6)), fun _ => rfl, fun p8 => rfl, fun p9 => (k9 ((lst_ne (by decide)).1 p9)), fun p10 => (k10 ((lst_ne (by decide)).1 p10)), fun p11 => (k11 ((lst_ne (by decide)).1 p11)), fun p12 => (k12 ((lst_ne (by decide)).1 p12)), fun p13 => (k13 ((lst_ne (by decide)).1 p13)), fun p12 n14 => (k14 ((lst_ne (by decide)).1 p12) (fun e => n14 ((lst_ne (by decide)).2 e))), fun p14 => (k15 ((lst_ne (by decide)).1 p14)), fun p13 n15 => (k16 ((lst_ne (by decide)).1 p13) (fun e => n15 ((lst_ne (by decide)).2 e))), fun p15 => (k17 ((lst_ne (by decide)).1 p15)), fun p12 p13 => (k18 ((lst_ne (by decide)).1 p12) ((lst_ne (by decide)).1 p13))⟩
          · have ⟨hS1, hS2, hS3⟩ := HS9.out _ hB.out
            refine keys_step rfl (fun K hK => ?_)
            go_simp
            (try go_wp2)
            refine hK.out _ _ ?_
            exact ⟨_, _, _, _, _, _, _, _, _, _, _, _, _, _, x0, x1, x2, y0, y1, y2, g10, g11, rfl, hB, fun p0 => (k0 ((lst_ne (by decide)).1 p0)), fun p1 => (k1 ((lst_ne (by decide)).1 p1)), fun p2 => (k2 ((lst_ne (by decide)).1 p2)), fun p3 => (k3 ((lst_ne (by decide)).1 p3)), fun p4 => (k4 ((lst_ne (by decide)).1 p4)), fun p5 => (k5 ((lst_ne (by decide)).1 p5)), fun p6 => (k6 ((lst_ne (by decide)).1 p6)), fun p7 => (k7 ((lst_ne (by decide)).1 p7)), fun p8 => (k8 ((lst_ne (by decide)).1 p8)), fun p9 => rfl, fun p10 => (k10 ((lst_ne (by decide)).1 p10)), fun p11 => (k11 ((lst_ne (by decide)).1 p11)), fun p12 => (k12 ((lst_ne (by decide)).1 p12)), fun p13 => (k13 ((lst_ne (by decide)).1 p13)), fun p12 n14 => (k14 ((lst_ne (by decide)).1 p12) (fun e => n14 ((lst_ne (by decide)).2 e))), fun p14 => (k15 ((lst_ne (by decide)).1 p14)), fun p13 n15 => (k16 ((lst_ne (by decide)).1 p13) (fun e => n15 ((lst_ne (by decide)).2 e))), fun p15 => (k17 ((lst_ne (by decide)).1 p15)), fun p12 p13 => (k18 ((lst_ne (by decide)).1 p12) ((lst_ne (by decide)).1 p13))⟩
          · obtain rfl := k9 (ready_dep hi (by kernel_rfl))
            have ⟨hS1, hS2, hS3⟩ := HS9.out _ hB.out
            refine keys_step rfl (fun K hK => ?_)
            go_simp
            (try go_wp2)
            refine hK.out _ _ ?_
            exact ⟨_, _, _, _, _, _, _, _, _, _, _, _, _, _, x0, x1, x2, y0, y1, y2, g10, g11, rfl, hB, fun p0 => (k0 ((lst_ne (by decide)).1 p0)), fun p1 => (k1 ((lst_ne (by decide)).1 p1)), fun p2 => (k2 ((lst_ne (by decide)).1 p2)), fun p3 => (k3 ((lst_ne (by decide)).1 p3)), fun p4 => (k4 ((lst_ne (by decide)).1 p4)), fun p5 => (k5 ((lst_ne (by decide)).1 p5)), fun p6 => (k6 ((lst_ne (by decide)).1 p6)), fun p7 => (k7 ((lst_ne (by decide)).1 p7)), fun p8 => (k8 ((lst_ne (by decide)).1 p8)), fun _ => rfl, fun p10 => rfl, fun p11 => (k11 ((lst_ne (by decide)).1 p11)), fun p12 => (k12 ((lst_ne (by decide)).1 p12)), fun p13 => (k13 ((lst_ne (by decide)).1 p13)), fun p12 n14 => (k14 ((lst_ne (by decide)).1 p12) (fun e => n14 ((lst_ne (by decide)).2 e))), fun p14 => (k15 ((lst_ne (by decide)).1 p14)), fun p13 n15 => (k16 ((lst_ne (by decide)).1 p13) (fun e => n15 ((lst_ne (by decide)).2 e))), fun p15 => (k17 ((lst_ne (by decide)).1 p15)), fun p12 p13 => (k18 ((lst_ne (by decide)).1 p12) ((lst_ne (by decide)).1 p13))⟩
          · obtain rfl := k6 (ready_dep hi (by kernel_rfl))
            obtain rfl := k8 (ready_dep hi (by kernel_rfl))
            obtain rfl := k10 (ready_dep hi (by kernel_rfl))
            have hw := HBW.out.trans (hB.out.mono HBW.out.size)
            refine keys_step rfl (fun K hK => ?_)
            go_simp
            go_wp2_with (go_at_call 10; refine (set_c HI.out (by have := H20.out; omega) HL1.out HL3.out (Kd.C_below HC1.out hw) (Kd.C_below HC2.out hw) (Kd.C_below HC3.out hw) b.f1 b.f2).mono ?_; unfold EnvPost; rw [HVB.out]; rintro e w2 ⟨z0, z1, z2, rfl, hE, hb1⟩)
            refine hK.out _ _ ?_
            exact ⟨_, _, _, _, _, _, _, _, _, _, _, _, _, _, x0, x1, x2, z0, z1, z2, g10, g11, rfl, ⟨hB.out.trans (hb1.mono hB.out.size)⟩, fun p0 => (k0 ((lst_ne (by decide)).1 p0)), fun p1 => (k1 ((lst_ne (by decide)).1 p1)), fun p2 => (k2 ((lst_ne (by decide)).1 p2)), fun p3 => (k3 ((lst_ne (by decide)).1 p3)), fun p4 => (k4 ((lst_ne (by decide)).1 p4)), fun p5 => ⟨(k5 ((lst_ne (by decide)).1 p5)).1, ⟨(k5 ((lst_ne (by decide)).1 p5)).2.out.below hb1⟩⟩, fun _ => rfl, fun p7 => (k7 ((lst_ne (by decide)).1 p7)), fun _ => rfl, fun p9 => (k9 ((lst_ne (by decide)).1 p9)), fun _ => rfl, fun p11 => ⟨rfl, ⟨hE.lower hB.out.size⟩⟩, fun p12 => ⟨(k12 ((lst_ne (by decide)).1 p12)).1, (k12 ((lst_ne (by decide)).1 p12)).2.1, Nat.lt_of_lt_of_le (k12 ((lst_ne (by decide)).1 p12)).2.2 hb1.size⟩, fun p13 => ⟨(k13 ((lst_ne (by decide)).1 p13)).1, (k13 ((lst_ne (by decide)).1 p13)).2.1, Nat.lt_of_lt_of_le (k13 ((lst_ne (by decide)).1 p13)).2.2 hb1.size⟩, fun p12 n14 => ⟨blk_below (k14 ((lst_ne (by decide)).1 p12) (fun e => n14 ((lst_ne (by decide)).2 e))).out hb1⟩, fun p14 => ⟨blk_below (k15 ((lst_ne (by decide)).1 p14)).out hb1⟩, fun p13 n15 => ⟨blk_below (k16 ((lst_ne (by decide)).1 p13) (fun e => n15 ((lst_ne (by decide)).2 e))).out hb1⟩, fun p15 => absurd (hcl 15 11 (by kernel_rfl) ((lst_ne (by decide)).1 p15)) (ready_not hi), fun p12 p13 => (k18 ((lst_ne (by decide)).1 p12) ((lst_ne (by decide)).1 p13))⟩
          · refine keys_step rfl (fun K hK => ?_)
            have hb1 := below_alloc (Below.refl w'.heap.size w') (.cells #[.slice none 0 0, .slice none 0 0, .slice none 0 0] 26)
            have hn1 := blk_new w' (.cells #[.slice none 0 0, .slice none 0 0, .slice none 0 0] 26)
            have hz : w'.heap.size < (w'.alloc (.cells #[.slice none 0 0, .slice none 0 0, .slice none 0 0] 26)).heap.size := by simp
            go_simp
            (try go_wp2)
            refine hK.out _ _ ?_
            exact ⟨_, _, _, _, _, _, _, _, _, _, _, _, _, _, x0, x1, x2, y0, y1, y2, w'.heap.size, g11, rfl, ⟨hB.out.trans (hb1.mono hB.out.size)⟩, fun p0 => (k0 ((lst_ne (by decide)).1 p0)), fun p1 => (k1 ((lst_ne (by decide)).1 p1)), fun p2 => (k2 ((lst_ne (by decide)).1 p2)), fun p3 => (k3 ((lst_ne (by decide)).1 p3)), fun p4 => (k4 ((lst_ne (by decide)).1 p4)), fun p5 => ⟨(k5 ((lst_ne (by decide)).1 p5)).1, ⟨(k5 ((lst_ne (by decide)).1 p5)).2.out.below hb1⟩⟩, fun p6 => (k6 ((lst_ne (by decide)).1 p6)), fun p7 => (k7 ((lst_ne (by decide)).1 p7)), fun p8 => (k8 ((lst_ne (by decide)).1 p8)), fun p9 => (k9 ((lst_ne (by decide)).1 p9)), fun p10 => (k10 ((lst_ne (by decide)).1 p10)), fun p11 => ⟨(k11 ((lst_ne (by decide)).1 p11)).1, ⟨(k11 ((lst_ne (by decide)).1 p11)).2.out.below hb1⟩⟩, fun p12 => ⟨rfl, hB.out.size, hz⟩, fun p13 => ⟨(k13 ((lst_ne (by decide)).1 p13)).1, (k13 ((lst_ne (by decide)).1 p13)).2.1, Nat.lt_of_lt_of_le (k13 ((lst_ne (by decide)).1 p13)).2.2 hb1.size⟩, fun p12 n14 => ⟨hn1⟩, fun p14 => absurd (hcl 14 12 (by kernel_rfl) ((lst_ne (by decide)).1 p14)) (ready_not hi), fun p13 n15 => ⟨blk_below (k16 ((lst_ne (by decide)).1 p13) (fun e => n15 ((lst_ne (by decide)).2 e))).out hb1⟩, fun p15 => ⟨blk_below (k17 ((lst_ne (by decide)).1 p15)).out hb1⟩, fun p12 p13 => Nat.ne_of_gt (k13 ((lst_ne (by decide)).1 p13)).2.2⟩
          · refine keys_step rfl (fun K hK => ?_)
            have hb1 := below_alloc (Below.refl w'.heap.size w') (.cells #[.slice none 0 0, .slice none 0 0, .slice none 0 0] 26)
            have hn1 := blk_new w' (.cells #[.slice none 0 0, .slice none 0 0, .slice none 0 0] 26)
            have hz : w'.heap.size < (w'.alloc (.cells #[.slice none 0 0, .slice none 0 0, .slice none 0 0] 26)).heap.size := by simp
            go_simp
            (try go_wp2)
            refine hK.out _ _ ?_
            exact ⟨_, _, _, _, _, _, _, _, _, _, _, _, _, _, x0, x1, x2, y0, y1, y2, g10, w'.heap.size, rfl, ⟨hB.out.trans (hb1.mono hB.out.size)⟩, fun p0 => (k0 ((lst_ne (by decide)).1 p0)), fun p1 => (k1 ((lst_ne (by decide)).1 p1)), fun p2 => (k2 ((lst_ne (by decide)).1 p2)), fun p3 => (k3 ((lst_ne (by decide)).1 p3)), fun p4 => (k4 ((lst_ne (by decide)).1 p4)), fun p5 => ⟨(k5 ((lst_ne (by decide)).1 p5)).1, ⟨(k5 ((lst_ne (by decide)).1 p5)).2.out.below hb1⟩⟩, fun p6 => (k6 ((lst_ne (by decide)).1 p6)), fun p7 => (k7 ((lst_ne (by decide)).1 p7)), fun p8 => (k8 ((lst_ne (by decide)).1 p8)), fun p9 => (k9 ((lst_ne (by decide)).1 p9)), fun p10 => (k10 ((lst_ne (by decide)).1 p10)), fun p11 => ⟨(k11 ((lst_ne (by decide)).1 p11)).1, ⟨(k11 ((lst_ne (by decide)).1 p11)).2.out.below hb1⟩⟩, fun p12 => ⟨(k12 ((lst_ne (by decide)).1 p12)).1, (k12 ((lst_ne (by decide)).1 p12)).2.1, Nat.lt_of_lt_of_le (k12 ((lst_ne (by decide)).1 p12)).2.2 hb1.size⟩, fun p13 => ⟨rfl, hB.out.size, hz⟩, fun p12 n14 => ⟨blk_below (k14 ((lst_ne (by decide)).1 p12) (fun e => n14 ((lst_ne (by decide)).2 e))).out hb1⟩, fun p14 => ⟨blk_below (k15 ((lst_ne (by decide)).1 p14)).out hb1⟩, fun p13 n15 => ⟨hn1⟩, fun p15 => absurd (hcl 15 13 (by kernel_rfl) ((lst_ne (by decide)).1 p15)) (ready_not hi), fun p12 p13 => Nat.ne_of_lt (k12 ((lst_ne (by decide)).1 p12)).2.2⟩
          · obtain ⟨hv, hg, hlt2⟩ := k12 (ready_dep hi (by kernel_rfl))
            have hbx := (k14 (ready_dep hi (by kernel_rfl)) (ready_not hi)).out
            obtain ⟨hv2, hE⟩ := k5 (ready_dep hi (by kernel_rfl))
            obtain ⟨Ax, cx, Ay, cy, Az, cz, rfl, rfl, rfl, -, -, -, -, -⟩ := hE.out.reads
            subst hv hv2
            have hne := k18
            have xe0 := (blk_cell hbx 0).trans rfl
            have xe1 := (blk_cell hbx 1).trans rfl
            have xe2 := (blk_cell hbx 2).trans rfl
            have ye0 := blk_frozen hbx 0
            have ye1 := blk_frozen hbx 1
            have ye2 := blk_frozen hbx 2
            have p1 := blk_put hbx 0 (.slice Ax VA.length cx) rfl
            have p2 := blk_put p1 1 (.slice Ay 0 cy) rfl
            have p3 := Aside0.mk (blk_put p2 2 (.slice Az F.length cz) rfl)
            have q1 := fun v0 v1 v2 V (h : EnvR w' wq.heap.size v0 v1 v2 V F) => ((h.set hbx 0 (.slice Ax VA.length cx)).set p1 1 (.slice Ay 0 cy)).set p2 2 (.slice Az F.length cz)
            have Q1 := Aside0.mk q1
            have hBx := Aside0.mk (((hB.out.setCell (p := ⟨g10, 0, none⟩) hg (.slice Ax VA.length cx)).setCell (p := ⟨g10, 1, none⟩) hg (.slice Ay 0 cy)).setCell (p := ⟨g10, 2, none⟩) hg (.slice Az F.length cz))
            have hsz : Aside0 ((((w'.setCell ⟨g10, 0, none⟩ (.slice Ax VA.length cx)).setCell ⟨g10, 1, none⟩ (.slice Ay 0 cy)).setCell ⟨g10, 2, none⟩ (.slice Az F.length cz)).heap.size = w'.heap.size) := ⟨by simp⟩
            clear p1 p2 q1
            refine keys_step rfl (fun K hK => ?_)
            go_simp
            go_wp2
            refine hK.out _ _ ?_
            exact ⟨_, _, _, _, _, _, _, _, _, _, _, _, _, _, (.slice Ax VA.length cx), (.slice Ay 0 cy), (.slice Az F.length cz), y0, y1, y2, g10, g11, rfl, hBx, fun p0 => (k0 ((lst_ne (by decide)).1 p0)), fun p1 => (k1 ((lst_ne (by decide)).1 p1)), fun p2 => (k2 ((lst_ne (by decide)).1 p2)), fun p3 => (k3 ((lst_ne (by decide)).1 p3)), fun p4 => (k4 ((lst_ne (by decide)).1 p4)), fun p5 => ⟨rfl, ⟨Q1.out _ _ _ _ hE.out⟩⟩, fun p6 => (k6 ((lst_ne (by decide)).1 p6)), fun p7 => (k7 ((lst_ne (by decide)).1 p7)), fun p8 => (k8 ((lst_ne (by decide)).1 p8)), fun p9 => (k9 ((lst_ne (by decide)).1 p9)), fun p10 => (k10 ((lst_ne (by decide)).1 p10)), fun p11 => ⟨(k11 ((lst_ne (by decide)).1 p11)).1, ⟨Q1.out _ _ _ _ (k11 ((lst_ne (by decide)).1 p11)).2.out⟩⟩, fun p12 => ⟨rfl, hg, hsz.out ▸ hlt2⟩, fun p13 => ⟨(k13 ((lst_ne (by decide)).1 p13)).1, (k13 ((lst_ne (by decide)).1 p13)).2.1, hsz.out ▸ (k13 ((lst_ne (by decide)).1 p13)).2.2⟩, fun _ h14 => lst_not h14, fun p14 => p3, fun p13 n15 => ⟨blk_far (blk_far (blk_far (k16 ((lst_ne (by decide)).1 p13) (fun e => n15 ((lst_ne (by decide)).2 e))).out (fun e => hne (ready_dep hi (by kernel_rfl)) ((lst_ne (by decide)).1 p13) e.symm) _) (fun e => hne (ready_dep hi (by kernel_rfl)) ((lst_ne (by decide)).1 p13) e.symm) _) (fun e => hne (ready_dep hi (by kernel_rfl)) ((lst_ne (by decide)).1 p13) e.symm) _⟩, fun p15 => ⟨blk_far (blk_far (blk_far (k17 ((lst_ne (by decide)).1 p15)).out (fun e => hne (ready_dep hi (by kernel_rfl)) (hcl 15 13 (by kernel_rfl) ((lst_ne (by decide)).1 p15)) e.symm) _) (fun e => hne (ready_dep hi (by kernel_rfl)) (hcl 15 13 (by kernel_rfl) ((lst_ne (by decide)).1 p15)) e.symm) _) (fun e => hne (ready_dep hi (by kernel_rfl)) (hcl 15 13 (by kernel_rfl) ((lst_ne (by decide)).1 p15)) e.symm) _⟩, fun p12 p13 => (k18 ((lst_ne (by decide)).1 p12) ((lst_ne (by decide)).1 p13))⟩
          · obtain ⟨hv, hg, hlt2⟩ := k13 (ready_dep hi (by kernel_rfl))
            have hbx := (k16 (ready_dep hi (by kernel_rfl)) (ready_not hi)).out
            obtain ⟨hv2, hE⟩ := k11 (ready_dep hi (by kernel_rfl))
            obtain ⟨Ax, cx, Ay, cy, Az, cz, rfl, rfl, rfl, -, -, -, -, -⟩ := hE.out.reads
            subst hv hv2
            have hne := k18
            have xe0 := (blk_cell hbx 0).trans rfl
            have xe1 := (blk_cell hbx 1).trans rfl
            have xe2 := (blk_cell hbx 2).trans rfl
            have ye0 := blk_frozen hbx 0
            have ye1 := blk_frozen hbx 1
            have ye2 := blk_frozen hbx 2
            have p1 := blk_put hbx 0 (.slice Ax VB.length cx) rfl
            have p2 := blk_put p1 1 (.slice Ay 0 cy) rfl
            have p3 := Aside0.mk (blk_put p2 2 (.slice Az F.length cz) rfl)
            have q1 := fun v0 v1 v2 V (h : EnvR w' wq.heap.size v0 v1 v2 V F) => ((h.set hbx 0 (.slice Ax VB.length cx)).set p1 1 (.slice Ay 0 cy)).set p2 2 (.slice Az F.length cz)
            have Q1 := Aside0.mk q1
            have hBx := Aside0.mk (((hB.out.setCell (p := ⟨g11, 0, none⟩) hg (.slice Ax VB.length cx)).setCell (p := ⟨g11, 1, none⟩) hg (.slice Ay 0 cy)).setCell (p := ⟨g11, 2, none⟩) hg (.slice Az F.length cz))
            have hsz : Aside0 ((((w'.setCell ⟨g11, 0, none⟩ (.slice Ax VB.length cx)).setCell ⟨g11, 1, none⟩ (.slice Ay 0 cy)).setCell ⟨g11, 2, none⟩ (.slice Az F.length cz)).heap.size = w'.heap.size) := ⟨by simp⟩
            clear p1 p2 q1
            refine keys_step rfl (fun K hK => ?_)
            go_simp
            go_wp2
            refine hK.out _ _ ?_
            exact ⟨_, _, _, _, _, _, _, _, _, _, _, _, _, _, x0, x1, x2, (.slice Ax VB.length cx), (.slice Ay 0 cy), (.slice Az F.length cz), g10, g11, rfl, hBx, fun p0 => (k0 ((lst_ne (by decide)).1 p0)), fun p1 => (k1 ((lst_ne (by decide)).1 p1)), fun p2 => (k2 ((lst_ne (by decide)).1 p2)), fun p3 => (k3 ((lst_ne (by decide)).1 p3)), fun p4 => (k4 ((lst_ne (by decide)).1 p4)), fun p5 => ⟨(k5 ((lst_ne (by decide)).1 p5)).1, ⟨Q1.out _ _ _ _ (k5 ((lst_ne (by decide)).1 p5)).2.out⟩⟩, fun p6 => (k6 ((lst_ne (by decide)).1 p6)), fun p7 => (k7 ((lst_ne (by decide)).1 p7)), fun p8 => (k8 ((lst_ne (by decide)).1 p8)), fun p9 => (k9 ((lst_ne (by decide)).1 p9)), fun p10 => (k10 ((lst_ne (by decide)).1 p10)), fun p11 => ⟨rfl, ⟨Q1.out _ _ _ _ hE.out⟩⟩, fun p12 => ⟨(k12 ((lst_ne (by decide)).1 p12)).1, (k12 ((lst_ne (by decide)).1 p12)).2.1, hsz.out ▸ (k12 ((lst_ne (by decide)).1 p12)).2.2⟩, fun p13 => ⟨rfl, hg, hsz.out ▸ hlt2⟩, fun p12 n14 => ⟨blk_far (blk_far (blk_far (k14 ((lst_ne (by decide)).1 p12) (fun e => n14 ((lst_ne (by decide)).2 e))).out (fun e => hne ((lst_ne (by decide)).1 p12) (ready_dep hi (by kernel_rfl)) e) _) (fun e => hne ((lst_ne (by decide)).1 p12) (ready_dep hi (by kernel_rfl)) e) _) (fun e => hne ((lst_ne (by decide)).1 p12) (ready_dep hi (by kernel_rfl)) e) _⟩, fun p14 => ⟨blk_far (blk_far (blk_far (k15 ((lst_ne (by decide)).1 p14)).out (fun e => hne (hcl 14 12 (by kernel_rfl) ((lst_ne (by decide)).1 p14)) (ready_dep hi (by kernel_rfl)) e) _) (fun e => hne (hcl 14 12 (by kernel_rfl) ((lst_ne (by decide)).1 p14)) (ready_dep hi (by kernel_rfl)) e) _) (fun e => hne (hcl 14 12 (by kernel_rfl) ((lst_ne (by decide)).1 p14)) (ready_dep hi (by kernel_rfl)) e) _⟩, fun _ h15 => lst_not h15, fun p15 => p3, fun p12 p13 => (k18 ((lst_ne (by decide)).1 p12) ((lst_ne (by decide)).1 p13))⟩
        · rintro listed a' ws ⟨v10, v11, v58, v59, v60, v61, v62, v63, v64, v65, v66, v67, v68, v69, x0, x1, x2, y0, y1, y2, g10, g11, rfl, hB, k0, k1, k2, k3, k4, k5, k6, k7, k8, k9, k10, k11, k12, k13, k14, k15, k16, k17, k18⟩ hall
          obtain ⟨rfl, E10⟩ := k5 (hall 5 (by decide))
          obtain ⟨rfl, E11⟩ := k11 (hall 11 (by decide))
          obtain ⟨rfl, -, -⟩ := k12 (hall 12 (by decide))
          obtain ⟨rfl, -, -⟩ := k13 (hall 13 (by decide))
          have N10 := k15 (hall 14 (by decide))
          have N11 := k17 (hall 15 (by decide))
          have HBS := hB
          clear hB hall k0 k1 k2 k3 k4 k5 k6 k7 k8 k9 k10 k11 k12 k13 k14 k15 k16 k17 k18
          obtain ⟨Ax, cx, Ay, cy, Az, cz, rfl, rfl, rfl, lx, lz, Cx, Cy, Cz⟩ := E10.out.reads
          obtain ⟨Bx, dx, By, dy, Bz, dz, rfl, rfl, rfl, mx, mz, Dx, Dy, Dz⟩ := E11.out.reads
          have lx := Aside0.mk lx
          have lz := Aside0.mk lz
          have Cx := Aside0.mk Cx
          have Cy := Aside0.mk Cy
          have Cz := Aside0.mk Cz
          have mx := Aside0.mk mx
          have mz := Aside0.mk mz
          have Dx := Aside0.mk Dx
          have Dy := Aside0.mk Dy
          have Dz := Aside0.mk Dz
          have HIA : Aside0 (EI VA F (l0.length + 1)) := ⟨by rw [← HVA.out]; exact ⟨ins_srt S71.f0 a.f1 ⟨a.f1, a.f2⟩ rfl V HI.out.sv, HI.out.sf, by have := ins_len S71.f0 a.f1 (⟨a.f1, a.f2⟩ : S71) V; have := HI.out.lv; omega, Nat.le_succ_of_le HI.out.lf⟩⟩
          have HC : Aside0 (∀ W', Below ws.heap.size ws W' → ((W'.cell? ⟨g7, 0, none⟩ = some (.slice A1 V.length c1) ∧ W'.cell? ⟨g7, 1, none⟩ = some (.slice A2 0 c2) ∧ W'.cell? ⟨g7, 2, none⟩ = some (.slice A3 F.length c3)) ∧ (W'.cell? ⟨qa, 1, none⟩ = some (.string a.f1) ∧ W'.cell? ⟨qa, 2, none⟩ = some (.string a.f2)) ∧ (W'.cell? ⟨qb, 1, none⟩ = some (.string b.f1) ∧ W'.cell? ⟨qb, 2, none⟩ = some (.string b.f2))) ∧ (W'.cell? ⟨g10, 0, none⟩ = some (.slice Ax VA.length cx) ∧ W'.cell? ⟨g10, 1, none⟩ = some (.slice Ay 0 cy) ∧ W'.cell? ⟨g10, 2, none⟩ = some (.slice Az F.length cz)) ∧ (W'.cell? ⟨g11, 0, none⟩ = some (.slice Bx VB.length dx) ∧ W'.cell? ⟨g11, 1, none⟩ = some (.slice By 0 dy) ∧ W'.cell? ⟨g11, 2, none⟩ = some (.slice Bz F.length dz)) ∧ (W'.cell? ⟨g9, 0, none⟩ = some (.slice A52 V.length c52) ∧ W'.cell? ⟨g9, 1, none⟩ = some (.slice none 0 0) ∧ W'.cell? ⟨g9, 2, none⟩ = some (.slice A56 F.length c56)) ∧ W'.cell? ⟨qb, 3, none⟩ = some (.int .i64 b.f3)) := ⟨fun W' hB => by
            have hw := HBS.out.trans (hB.mono HBS.out.size)
            have h10 := blk_below N10.out hB
            have h11 := blk_below N11.out hB
            have h9 := blk_below N9.out hw
            have hqb := blk_below (blk_below (blk_below NB.out HB.out) HBW.out) hw
            exact ⟨HS9.out _ hw, ⟨(blk_cell h10 0).trans rfl, (blk_cell h10 1).trans rfl, (blk_cell h10 2).trans rfl⟩, ⟨(blk_cell h11 0).trans rfl, (blk_cell h11 1).trans rfl, (blk_cell h11 2).trans rfl⟩, ⟨(blk_cell h9 0).trans rfl, (blk_cell h9 1).trans rfl, (blk_cell h9 2).trans rfl⟩, (blk_cell hqb 3).trans rfl⟩⟩
          have HBA : Aside0 (∀ W', Below ws.heap.size ws W' → Below wr.heap.size wr W') := ⟨fun W' hB => HBW.out.trans ((HBS.out.trans (hB.mono HBS.out.size)).mono HBW.out.size)⟩
          have HBQ : Aside0 (∀ W', Below ws.heap.size ws W' → Below wq.heap.size wq W') := ⟨fun W' hB => HBS.out.trans (hB.mono HBS.out.size)⟩
          have s1 : (a.f2.toList == a.f2.toList) = true := by simp
          have s2 : (b.f2.toList == b.f2.toList) = true := by simp
          have ⟨⟨⟨t1, t2, t3⟩, ⟨t4, t5⟩, ⟨t6, t7⟩⟩, ⟨t8, t9, t10⟩, ⟨t11, t12, t13⟩, ⟨t14, t15, t16⟩, t17⟩ := HC.out _ (Below.refl _ _)
          go_upto_region 10 with (fail)
          go_upto_region 11 with (go_at_call 11; refine (unset_c HIA.out (by have := H20.out; omega) lx.out lz.out Cx.out Cy.out Cz.out b.f1).mono ?_; unfold EnvPost; rintro e w2 ⟨z0, z1, z2, rfl, hE, hb1⟩; clear hE; have T2 := Aside0.mk (hb1); clear hb1; clear t1 t2 t3 t4 t5 t6 t7 t8 t9 t10 t11 t12 t13 t14 t15 t16 t17; have ⟨⟨⟨t1, t2, t3⟩, ⟨t4, t5⟩, ⟨t6, t7⟩⟩, ⟨t8, t9, t10⟩, ⟨t11, t12, t13⟩, ⟨t14, t15, t16⟩, t17⟩ := HC.out _ T2.out)
          go_upto_region 12 with (go_at_call 9; refine (define_c HIA.out.lv HIA.out.lf HIA.out.sf (by have := H20.out; omega) lx.out lz.out (Kd.C_below Cx.out T2.out) (Kd.C_below Cy.out T2.out) (Kd.C_below Cz.out T2.out) b.f1 b.f3).mono ?_; unfold EnvPost; rintro e w3 ⟨z0, z1, z2, rfl, hE, hb1⟩; clear hE; have T3 := Aside0.mk (T2.out.trans (hb1.mono T2.out.size)); clear hb1; clear t1 t2 t3 t4 t5 t6 t7 t8 t9 t10 t11 t12 t13 t14 t15 t16 t17; have ⟨⟨⟨t1, t2, t3⟩, ⟨t4, t5⟩, ⟨t6, t7⟩⟩, ⟨t8, t9, t10⟩, ⟨t11, t12, t13⟩, ⟨t14, t15, t16⟩, t17⟩ := HC.out _ T3.out)
          go_upto_region 13 with (go_at_call 12; refine (get_c' HI.out (by have := H20.out; omega) a.f1 a.f2 HVA.out lx.out lz.out (Kd.C_below Cx.out T3.out) (Kd.C_below Cy.out T3.out) (Kd.C_below Cz.out T3.out)).mono ?_; rintro e w4 ⟨rfl, hb1⟩; have T4 := Aside0.mk (T3.out.trans (hb1.mono T3.out.size)); clear hb1; clear t1 t2 t3 t4 t5 t6 t7 t8 t9 t10 t11 t12 t13 t14 t15 t16 t17; have ⟨⟨⟨t1, t2, t3⟩, ⟨t4, t5⟩, ⟨t6, t7⟩⟩, ⟨t8, t9, t10⟩, ⟨t11, t12, t13⟩, ⟨t14, t15, t16⟩, t17⟩ := HC.out _ T4.out)
          go_upto_region 14 with (go_at_call 12; refine (get_c' HI.out (by have := H20.out; omega) b.f1 b.f2 HVB.out mx.out mz.out (Kd.C_below Dx.out T4.out) (Kd.C_below Dy.out T4.out) (Kd.C_below Dz.out T4.out)).mono ?_; rintro e w5 ⟨rfl, hb1⟩; have T5 := Aside0.mk (T4.out.trans (hb1.mono T4.out.size)); clear hb1; clear t1 t2 t3 t4 t5 t6 t7 t8 t9 t10 t11 t12 t13 t14 t15 t16 t17; have ⟨⟨⟨t1, t2, t3⟩, ⟨t4, t5⟩, ⟨t6, t7⟩⟩, ⟨t8, t9, t10⟩, ⟨t11, t12, t13⟩, ⟨t14, t15, t16⟩, t17⟩ := HC.out _ T5.out)
          go_wp2_with (first | (go_at_call 14; refine (known14_c _).mono ?_; rintro e w7 ⟨rfl, hb1⟩; have T7 := Aside0.mk (T6.out.trans (hb1.mono T6.out.size)); clear hb1) | (go_at_call 13; refine (same_c (by have := HI.out.lv; have := H20.out; omega) (by have := HI.out.lf; have := H20.out; omega) HL1.out HL3.out L52.out L56.out (Kd.C_below HC1.out (HBA.out _ T5.out)) (Kd.C_below HC2.out (HBA.out _ T5.out)) (Kd.C_below HC3.out (HBA.out _ T5.out)) (Kd.C_below C52.out (HBQ.out _ T5.out)) (Kd.C_nil _ _) (Kd.C_below C56.out (HBQ.out _ T5.out))).mono ?_; rintro e w6 ⟨rfl, hb1⟩; have T6 := Aside0.mk (T5.out.trans (hb1.mono T5.out.size)); clear hb1; clear t1 t2 t3 t4 t5 t6 t7 t8 t9 t10 t11 t12 t13 t14 t15 t16 t17; have ⟨⟨⟨t1, t2, t3⟩, ⟨t4, t5⟩, ⟨t6, t7⟩⟩, ⟨t8, t9, t10⟩, ⟨t11, t12, t13⟩, ⟨t14, t15, t16⟩, t17⟩ := HC.out _ T6.out))
          go_ret
          exact ⟨rfl, B0.out.trans ((HB.out.trans ((HBA.out _ T7.out).mono HB.out.size)).mono B0.out.size)⟩
set_option maxHeartbeats 4000000 in
set_option maxRecDepth 100000 in
theorem lazaruslaw14_EnvOwn.calls (A0 : Option Addr) (c0 : Nat) (l0 : List S41) (a1 : S41) (cs1 : Array Value) (a2 : S41) (cs2 : Array Value) (r : Bool) (w : World) (hr0 : Kd.C k41 w A0 l0.length l0) (hc0 : l0.length ≤ c0) (hK1 : k41.K w a1 cs1.toList) (hK2 : k41.K w a2 cs2.toList) (h : lazaruslaw14_EnvOwn.f l0 a1 a2 = some r) :
    Calls Try.prog 4 #[.slice A0 l0.length c0, .agg cs1, .agg cs2] w fun e w' => e = .returned (.bool r) ∧ Below w.heap.size w w' := by
  obtain rfl : true = r := Option.some.inj h
  obtain rfl : cs1 = #[.int .i64 a1.f0, .string a1.f1, .string a1.f2, .int .i64 a1.f3] := Array.ext' (by simpa using actK hK1)
  obtain rfl : cs2 = #[.int .i64 a2.f0, .string a2.f1, .string a2.f2, .int .i64 a2.f3] := Array.ext' (by simpa using actK hK2)
  by_cases h20 : l0.length ≤ 20
  · exact own_core A0 c0 l0 a1 a2 w hr0 hc0 h20
  · have d1 : decide ((l0.length : Int) > 20) = true := decide_eq_true (by omega)
    have d2 : decide ((20 : Int) < (l0.length : Int)) = true := decide_eq_true (by omega)
    have d3 : decide (20 < l0.length) = true := decide_eq_true (by omega)
    have hba := below_alloc (Below.refl w.heap.size w) (.cells #[.int .i64 a1.f0, .string a1.f1, .string a1.f2, .int .i64 a1.f3] 41)
    have hbb := below_alloc (Below.refl (w.alloc (.cells #[.int .i64 a1.f0, .string a1.f1, .string a1.f2, .int .i64 a1.f3] 41)).heap.size (w.alloc (.cells #[.int .i64 a1.f0, .string a1.f1, .string a1.f2, .int .i64 a1.f3] 41))) (.cells #[.int .i64 a2.f0, .string a2.f1, .string a2.f2, .int .i64 a2.f3] 41)
    have HB := Aside0.mk (hba.trans (hbb.mono hba.size))
    clear hba hbb hr0 hc0 hK1 hK2 h
    go_enter Try.func4, Try.ntmps4
    go_wp2
    go_ret
    exact ⟨rfl, HB.out⟩
end Go.Proofs.Ytekebjkcolhcoaa.LEnvOwn
