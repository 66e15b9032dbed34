/- Contracts of the calls, by hand. -/
import Derived.Test.YtekebjkcolhcoaaQEnvOwnx
import Derived.Test.YtekebjkcolhcoaaEnvP
import Derived.Test.YtekebjkcolhcoaaEnvH
import Derived.RangeFuncNested
import Derived.RangeFuncBound
import Derived.RangeFuncCalls
import Derived.RangeFuncLeaves
import Derived.RangeFuncBox
import Derived.Shelf.Abstract
import Derived.Shelf.RegionOpen
import Derived.OwnWalkIn
import Derived.TacticsInMore
import Derived.LoopNIn
import Derived.LoopIn
import Derived.Sort.QuietIn
import Derived.Sort.CutIn
import Derived.Stop.RegionWithIn
import Derived.StillTailTactics
import Derived.StillTail
import Derived.Deep.RegionHeld
namespace Go.Proofs.Ytekebjkcolhcoaa.Hnd
open Go.RowKit Go.Proofs.Ytekebjkcolhcoaa.QEnvOwn Go.Proofs.YtekebjkcolhcoaaW.PrintWords Go.Proofs.YtekebjkcolhcoaaW.PrintLast  Go.Shelf
set_option linter.unusedVariables false
set_option linter.unusedSimpArgs false
set_option linter.unusedVariables false
set_option linter.unusedSimpArgs false
attribute [local go_sem] Oper.semAt_some
theorem actK {w : World} {a : S41} {cs : List Value} (h : k41.K w a cs) : cs = [.int .i64 a.f0, .string a.f1, .string a.f2, .int .i64 a.f3] := by
  obtain ⟨c0, r0, e0, h0, c1, r1, e1, h1, c2, r2, e2, h2, h3⟩ := h
  rw [e0, e1, e2, h0, h1, h2, h3]
  rfl
theorem act_at {w : World} {A : Option Addr} {l : List S41} (h : Kd.C k41 w A l.length l) (k : Nat) (hk : k < l.length) : ∃ ad, A = some ad ∧ ∀ W, Below w.heap.size w W → W.cell? (ad.add (k * 4)) = some (.int .i64 (l.getD k z41).f0) ∧ W.cell? ⟨(ad.add (k * 4)).block, (ad.add (k * 4)).off + 1, none⟩ = some (.string (l.getD k z41).f1) ∧
    W.cell? ⟨(ad.add (k * 4)).block, (ad.add (k * 4)).off + 2, none⟩ = some (.string (l.getD k z41).f2) ∧ W.cell? ⟨(ad.add (k * 4)).block, (ad.add (k * 4)).off + 3, none⟩ = some (.int .i64 (l.getD k z41).f3) := by
  obtain ⟨ad, c, e, hl, hK, hc0⟩ := Kd.C_get h z41 (k : Int) (by omega) (by omega)
  rw [Int.toNat_natCast] at hK hc0
  have hc : ∀ j u, c[j]? = some u → w.cell? (ad.add (k * 4 + j)) = some u := hc0
  obtain rfl := actK hK
  have h0 := hc 0 _ rfl
  have h1 := hc 1 _ rfl
  have h2 := hc 2 _ rfl
  have h3 := hc 3 _ rfl
  rw [Nat.add_zero] at h0
  rw [← Addr.add_add] at h1 h2 h3
  have hlt : (ad.add (k * 4)).block < w.heap.size := World.block_lt_of_cell? w _ h0
  exact ⟨ad, e, fun W hB => ⟨(hB.cell hlt).trans h0, (hB.cell (p := ⟨(ad.add (k * 4)).block, (ad.add (k * 4)).off + 1, none⟩) hlt).trans h1, (hB.cell (p := ⟨(ad.add (k * 4)).block, (ad.add (k * 4)).off + 2, none⟩) hlt).trans h2, (hB.cell (p := ⟨(ad.add (k * 4)).block, (ad.add (k * 4)).off + 3, none⟩) hlt).trans h3⟩⟩
structure EI (V : List S71) (F : List S67) (k : Nat) : Prop where
  sv : Srt S71.f0 V
  sf : Srt S67.f0 F
  lv : V.length ≤ k
  lf : F.length ≤ k
theorem EI.step {V : List S71} {F : List S67} {k : Nat} (h : EI V F k) (n v : ByteArray) (m : Int) : EI (ins S71.f0 V n ⟨n, v⟩) (ins S67.f0 F n ⟨n, m⟩) (k + 1) :=
  ⟨ins_srt S71.f0 n ⟨n, v⟩ rfl V h.sv, ins_srt S67.f0 n ⟨n, m⟩ rfl F h.sf, by have := ins_len S71.f0 n (⟨n, v⟩ : S71) V; have := h.lv; omega, by have := ins_len S67.f0 n (⟨n, m⟩ : S67) F; have := h.lf; omega⟩
/-- An env in three rows of its own. -/
def EnvR (W : World) (base : Nat) (v0 v1 v2 : Value) (V : List S71) (F : List S67) : Prop := Kd.R k71 71 W base (fun _ => True) v0 V ∧ Kd.R Kd.string 9 W base (fun _ => True) v1 [] ∧ Kd.R k67 67 W base (fun _ => True) v2 F
theorem EnvR.below {W W' : World} {base : Nat} {v0 v1 v2 : Value} {V : List S71} {F : List S67} (h : EnvR W base v0 v1 v2 V F) (hb : Below W.heap.size W W') : EnvR W' base v0 v1 v2 V F := ⟨Kd.R_below h.1 hb, Kd.R_below h.2.1 hb, Kd.R_below h.2.2 hb⟩
theorem EnvR.set {W : World} {base : Nat} {v0 v1 v2 : Value} {V : List S71} {F : List S67} (h : EnvR W base v0 v1 v2 V F) {g : Nat} {cs : Array Value} (hb : W.heap[g]? = some (.cells cs 26 (0, 0))) (j : Nat) (u : Value) : EnvR (W.setCell ⟨g, j, none⟩ u) base v0 v1 v2 V F :=
  ⟨Kd.R_set h.1 hb (by decide) j u, Kd.R_set h.2.1 hb (by decide) j u, Kd.R_set h.2.2 hb (by decide) j u⟩
theorem EnvR.lower {W : World} {base base' : Nat} {v0 v1 v2 : Value} {V : List S71} {F : List S67} (h : EnvR W base v0 v1 v2 V F) (hb : base' ≤ base) : EnvR W base' v0 v1 v2 V F := ⟨Kd.R_lower h.1 hb, Kd.R_lower h.2.1 hb, Kd.R_lower h.2.2 hb⟩
theorem EnvR.reads {W : World} {base : Nat} {v0 v1 v2 : Value} {V : List S71} {F : List S67} (h : EnvR W base v0 v1 v2 V F) : ∃ A0 c0 A1 c1 A2 c2, v0 = .slice A0 V.length c0 ∧ v1 = .slice A1 0 c1 ∧ v2 = .slice A2 F.length c2 ∧ V.length ≤ c0 ∧ F.length ≤ c2 ∧ Kd.C k71 W A0 V.length V ∧ Kd.C Kd.string W A1 0 [] ∧ Kd.C k67 W A2 F.length F := by
  obtain ⟨A0, c0, e0, l0, C0⟩ := Kd.R_reads h.1
  obtain ⟨A1, c1, e1, l1, C1⟩ := Kd.R_reads h.2.1
  obtain ⟨A2, c2, e2, l2, C2⟩ := Kd.R_reads h.2.2
  exact ⟨A0, c0, A1, c1, A2, c2, e0, e1, e2, l0, l2, C0, C1, C2⟩
/-- What the calls make of it. -/
def EnvPost (W : World) (V : List S71) (F : List S67) (e : Ending) (w' : World) : Prop := ∃ v0 v1 v2, e = .returned (.agg #[v0, v1, v2]) ∧ EnvR w' W.heap.size v0 v1 v2 V F ∧ Below W.heap.size W w'
theorem set_c {W : World} {A0 A1 A2 : Option Addr} {c0 c1 c2 : Nat} {V : List S71} {F : List S67} {k : Nat} (hI : EI V F k) (hk : k ≤ 1000) (h0 : V.length ≤ c0) (h2 : F.length ≤ c2) (C0 : Kd.C k71 W A0 V.length V) (C1 : Kd.C Kd.string W A1 0 []) (C2 : Kd.C k67 W A2 F.length F) (n v : ByteArray) :
    Calls Try.prog 10 #[.agg #[.slice A0 V.length c0, .slice A1 0 c1, .slice A2 F.length c2], .string n, .string v] W (EnvPost W (ins S71.f0 V n ⟨n, v⟩) F) :=
  (env_Set.calls A0 c0 V A1 c1 [] A2 c2 F n v _ _ _ W C0 h0 C1 (Nat.zero_le _) C2 h2 (set_f V [] F n v (by have := hI.lv; omega) (by simp) (by have := hI.lf; omega) hI.sv)).mono fun e w' ⟨v0, v1, v2, e1, R0, R1, R2, hB⟩ => ⟨v0, v1, v2, e1, ⟨R0, R1, R2⟩, hB⟩
theorem define_c {W : World} {A0 A1 A2 : Option Addr} {c0 c1 c2 : Nat} {V : List S71} {F : List S67} {k : Nat} (hlv : V.length ≤ k) (hlf : F.length ≤ k) (hsf : Srt S67.f0 F) (hk : k ≤ 1000) (h0 : V.length ≤ c0) (h2 : F.length ≤ c2) (C0 : Kd.C k71 W A0 V.length V) (C1 : Kd.C Kd.string W A1 0 []) (C2 : Kd.C k67 W A2 F.length F) (n : ByteArray) (m : Int) :
    Calls Try.prog 9 #[.agg #[.slice A0 V.length c0, .slice A1 0 c1, .slice A2 F.length c2], .string n, .int .i64 m] W (EnvPost W V (ins S67.f0 F n ⟨n, m⟩)) :=
  (env_Define.calls A0 c0 V A1 c1 [] A2 c2 F n m _ _ _ W C0 h0 C1 (Nat.zero_le _) C2 h2 (define_f V [] F n m (by omega) (by simp) (by omega) hsf)).mono fun e w' ⟨v0, v1, v2, e1, R0, R1, R2, hB⟩ => ⟨v0, v1, v2, e1, ⟨R0, R1, R2⟩, hB⟩
theorem unset_c {W : World} {A0 A1 A2 : Option Addr} {c0 c1 c2 : Nat} {V : List S71} {F : List S67} {k : Nat} (hI : EI V F k) (hk : k ≤ 1000) (h0 : V.length ≤ c0) (h2 : F.length ≤ c2) (C0 : Kd.C k71 W A0 V.length V) (C1 : Kd.C Kd.string W A1 0 []) (C2 : Kd.C k67 W A2 F.length F) (n : ByteArray) :
    Calls Try.prog 11 #[.agg #[.slice A0 V.length c0, .slice A1 0 c1, .slice A2 F.length c2], .string n] W (EnvPost W (rem S71.f0 V n) F) :=
  (env_Unset.calls A0 c0 V A1 c1 [] A2 c2 F n _ _ _ W C0 h0 C1 (Nat.zero_le _) C2 h2 (unset_f V [] F n (by have := hI.lv; omega) (by simp) (by have := hI.lf; omega) hI.sv)).mono fun e w' ⟨v0, v1, v2, e1, R0, R1, R2, hB⟩ => ⟨v0, v1, v2, e1, ⟨R0, R1, R2⟩, hB⟩
theorem get_c {W : World} {A0 A1 A2 : Option Addr} {c0 c1 c2 : Nat} {V : List S71} {F : List S67} {k : Nat} (hI : EI V F k) (hk : k ≤ 1000) (h0 : V.length ≤ c0) (h2 : F.length ≤ c2) (n v : ByteArray) (C0 : Kd.C k71 W A0 (ins S71.f0 V n ⟨n, v⟩).length (ins S71.f0 V n ⟨n, v⟩)) (h0' : (ins S71.f0 V n ⟨n, v⟩).length ≤ c0) (C1 : Kd.C Kd.string W A1 0 []) (C2 : Kd.C k67 W A2 F.length F) :
    Calls Try.prog 12 #[.agg #[.slice A0 (ins S71.f0 V n ⟨n, v⟩).length c0, .slice A1 0 c1, .slice A2 F.length c2], .string n] W fun e w' => e = .returned (.tuple #[.string v, .bool true]) ∧ Below W.heap.size W w' := by
  have hl := ins_len S71.f0 n (⟨n, v⟩ : S71) V
  have hs := ins_srt S71.f0 n ⟨n, v⟩ rfl V hI.sv
  have hg := get_f (ins S71.f0 V n ⟨n, v⟩) [] F n (by have := hI.lv; omega) hs
  rw [if_pos (ins_has S71.f0 n ⟨n, v⟩ rfl V), ins_at S71.f0 z71 n ⟨n, v⟩ rfl V hI.sv] at hg
  exact env_Get.calls A0 c0 _ A1 c1 [] A2 c2 F n v true W C0 h0' C1 (Nat.zero_le _) C2 h2 hg
theorem same_c {W : World} {A0 A1 A2 A3 A4 A5 : Option Addr} {c0 c1 c2 c3 c4 c5 : Nat} {V : List S71} {F : List S67} (hv : V.length ≤ 1000) (hf : F.length ≤ 1000) (h0 : V.length ≤ c0) (h2 : F.length ≤ c2) (h3 : V.length ≤ c3) (h5 : F.length ≤ c5) (C0 : Kd.C k71 W A0 V.length V) (C1 : Kd.C Kd.string W A1 0 []) (C2 : Kd.C k67 W A2 F.length F) (C3 : Kd.C k71 W A3 V.length V) (C4 : Kd.C Kd.string W A4 0 []) (C5 : Kd.C k67 W A5 F.length F) :
    Calls Try.prog 13 #[.agg #[.slice A0 V.length c0, .slice A1 0 c1, .slice A2 F.length c2], .agg #[.slice A3 V.length c3, .slice A4 0 c4, .slice A5 F.length c5]] W fun e w' => e = .returned (.bool true) ∧ Below W.heap.size W w' := by
  obtain ⟨k, hk⟩ := (same_ev V [] F (by omega) (by simp) (by omega)).rounds
  exact lazarusref14_Same.calls k A0 c0 V A1 c1 [] A2 c2 F A3 c3 V A4 c4 [] A5 c5 F true W C0 h0 C1 (Nat.zero_le _) C2 h2 C3 h3 C4 (Nat.zero_le _) C5 h5 hk
theorem known14_c (W : World) : Calls Try.prog 14 #[] W fun e w' => e = .returned (.bool true) ∧ Below W.heap.size W w' := lazaruslaw14_known.calls true W known_f
end Go.Proofs.Ytekebjkcolhcoaa.Hnd
