/-
  No cell of these rows narrows 'for every input' (looked for: loops, veiled, ifaces, maps, wideKeys, modest, calm, conditions, laid).
  DERIVED. THE GIVEN ROWS OF THIS SEAT. 4 by the template 'for every input the law returns true; each argument reads behind the call as it read before'; 0 by the template 'total and deterministic' (their statements: YtkicekddkgehoaaTotals.lean).
  GIVEN WITH THE SEED: the statements are not yours to turn. If you find one false, say at which input.
  Laid BY PROGRAM, IN A SANDBOX (cutbox-rows.mjs): the forced cells as the released guide's own fill.sh prints them over the translation 4a3f9cbc18a7c94d… (all of the seat's roots in one cut). By AI agents, Wed Nov 11 2026. No macro, syntax, notation, axiom, sorry.
-/
import Derived.Test.YtkicekddkgehoaaChecked
import GoSem.Claim
import GoSem.ClaimJoined
import GoSem.ClaimMapViews
import Derived.JoinedTies
import Derived.KernelRfl
namespace Go.Proofs.Ytkicekddkgehoaa
/- THE CELL 'sum', in the pinned program and in every row, IS THE sha256 OF THE DUMP (.gsa) THAT YtkicekddkgehoaaProg.lean LOADS. Nothing in Lean hashes anything: it is a label: what it is worth is what the hold of that sum in a sandbox is worth. -/
noncomputable def Try.pinned : Pinned := { name := "ytkicekddkgehoaa", sum := "4a3f9cbc18a7c94d5689b8eddf8fca9521f0ab237ae6ab1f1338e755ea1b68f9", checked := Try.checked }
namespace Rows
def none {H : Type} : Left H := { results := [], args := [] }

/-- 'lazaruslaw5.SlotFull': WHATEVER THE INPUT: true; the input reads as it did. -/
def slotFullSpec : ChangeSpec := { name := "slotFull", fn := fun _ => fun
  | [d1, d2] => { results := [.lit (.bool true)], args := [d1, d2] }
  | _ => none }
def slotFullRow : OpenClaim := { program := "ytkicekddkgehoaa", sum := "4a3f9cbc18a7c94d5689b8eddf8fca9521f0ab237ae6ab1f1338e755ea1b68f9", func := "lazarus/lazaruslaw5.SlotFull", spec := "slotFull", unfollowed := true, recurses := true, apart := false }
def SlotFullSaid : Prop := slotFullRow.holds Try.pinned (OpenSpec.ofChange slotFullSpec)

/-- ITS FALSE NEIGHBOUR: 'it returns false'. Refute it at one input. -/
def slotFullWrong : ChangeSpec := { name := "slotFull", fn := fun _ => fun
  | [d1, d2] => { results := [.lit (.bool false)], args := [d1, d2] }
  | _ => none }
def SlotFullWrongFalsely : Prop := slotFullRow.holds Try.pinned (OpenSpec.ofChange slotFullWrong)

/-- 'lazaruslaw5.SlotGens': WHATEVER THE INPUT: true; the input reads as it did. -/
def slotGensSpec : ChangeSpec := { name := "slotGens", fn := fun _ => fun
  | [d] => { results := [.lit (.bool true)], args := [d] }
  | _ => none }
def slotGensRow : OpenClaim := { program := "ytkicekddkgehoaa", sum := "4a3f9cbc18a7c94d5689b8eddf8fca9521f0ab237ae6ab1f1338e755ea1b68f9", func := "lazarus/lazaruslaw5.SlotGens", spec := "slotGens", unfollowed := true, recurses := true, apart := false }
def SlotGensSaid : Prop := slotGensRow.holds Try.pinned (OpenSpec.ofChange slotGensSpec)

/-- ITS FALSE NEIGHBOUR: 'it returns false'. Refute it at one input. -/
def slotGensWrong : ChangeSpec := { name := "slotGens", fn := fun _ => fun
  | [d] => { results := [.lit (.bool false)], args := [d] }
  | _ => none }
def SlotGensWrongFalsely : Prop := slotGensRow.holds Try.pinned (OpenSpec.ofChange slotGensWrong)

/-- 'lazaruslaw5.SlotPlays': WHATEVER THE INPUT: true; the input reads as it did. -/
def slotPlaysSpec : ChangeSpec := { name := "slotPlays", fn := fun _ => fun
  | [d1, d2] => { results := [.lit (.bool true)], args := [d1, d2] }
  | _ => none }
def slotPlaysRow : OpenClaim := { program := "ytkicekddkgehoaa", sum := "4a3f9cbc18a7c94d5689b8eddf8fca9521f0ab237ae6ab1f1338e755ea1b68f9", func := "lazarus/lazaruslaw5.SlotPlays", spec := "slotPlays", unfollowed := true, recurses := true, apart := false }
def SlotPlaysSaid : Prop := slotPlaysRow.holds Try.pinned (OpenSpec.ofChange slotPlaysSpec)

/-- ITS FALSE NEIGHBOUR: 'it returns false'. Refute it at one input. -/
def slotPlaysWrong : ChangeSpec := { name := "slotPlays", fn := fun _ => fun
  | [d1, d2] => { results := [.lit (.bool false)], args := [d1, d2] }
  | _ => none }
def SlotPlaysWrongFalsely : Prop := slotPlaysRow.holds Try.pinned (OpenSpec.ofChange slotPlaysWrong)

/-- 'lazaruslaw5.SlotLast': WHATEVER THE INPUT: true; the input reads as it did. -/
def slotLastSpec : ChangeSpec := { name := "slotLast", fn := fun _ => fun
  | [d] => { results := [.lit (.bool true)], args := [d] }
  | _ => none }
def slotLastRow : OpenClaim := { program := "ytkicekddkgehoaa", sum := "4a3f9cbc18a7c94d5689b8eddf8fca9521f0ab237ae6ab1f1338e755ea1b68f9", func := "lazarus/lazaruslaw5.SlotLast", spec := "slotLast", unfollowed := true, recurses := true, apart := false }
def SlotLastSaid : Prop := slotLastRow.holds Try.pinned (OpenSpec.ofChange slotLastSpec)

/-- ITS FALSE NEIGHBOUR: 'it returns false'. Refute it at one input. -/
def slotLastWrong : ChangeSpec := { name := "slotLast", fn := fun _ => fun
  | [d] => { results := [.lit (.bool false)], args := [d] }
  | _ => none }
def SlotLastWrongFalsely : Prop := slotLastRow.holds Try.pinned (OpenSpec.ofChange slotLastWrong)

/- THE SECOND FORM. 'bulk': how many values and letters a reading holds, each counted each time it is reached (what is shared counts as often as it is met; a slice's spare places count too). A statement '..UptoSaid' is the law's where the arguments, and the package variables that the reading takes, are together of bulk at most 1048576: NARROWER than '..Said'. Prove '..Said' where nothing that the law and all that it calls make is longer than what came in: it says more and counts as full. Else prove '..UptoSaid'. A law counts once. -/
mutual
def uptoBulk {H : Type} : DataW H → Nat
  | .lit (.string bytes) => bytes.length + 1
  | .lit _ => 1
  | .nil => 1
  | .ptr d => uptoBulk d + 1
  | .slice elems spare => uptoBulkAll elems + uptoBulkAll spare + 1
  | .agg parts => uptoBulkAll parts + 1
  | .iface _ d => uptoBulk d + 1
  | .map entries => uptoBulkEntries entries + 1
  | .held _ => 1
def uptoBulkAll {H : Type} : List (DataW H) → Nat
  | [] => 0
  | d :: r => uptoBulk d + uptoBulkAll r
def uptoBulkEntries {H : Type} : List (Lit × DataW H) → Nat
  | [] => 0
  | x :: r => uptoBulkEntry x + uptoBulkEntries r
def uptoBulkEntry {H : Type} : Lit × DataW H → Nat
  | (.string bytes, d) => bytes.length + uptoBulk d + 1
  | (_, d) => uptoBulk d + 1
 end
def uptoSmall : (H : Type) → List (DataW H) → Bool := fun _ ds => decide (uptoBulkAll ds ≤ 1048576)
def OpenSpec.upto (s : _root_.Go.ChangeSpec) : _root_.Go.OpenSpec := { _root_.Go.OpenSpec.ofChange s with cond := some uptoSmall }

/-- 'lazaruslaw5.SlotFull', WHERE WHAT IT READS IS OF BULK AT MOST 1048576: true; the input reads as it did. -/
def slotFullUptoRow : OpenClaim := { program := "ytkicekddkgehoaa", sum := "4a3f9cbc18a7c94d5689b8eddf8fca9521f0ab237ae6ab1f1338e755ea1b68f9", func := "lazarus/lazaruslaw5.SlotFull", spec := "slotFull", unfollowed := true, recurses := true, apart := false, narrowed := true }
def SlotFullUptoSaid : Prop := slotFullUptoRow.holds Try.pinned (OpenSpec.upto slotFullSpec)

/-- 'lazaruslaw5.SlotGens', WHERE WHAT IT READS IS OF BULK AT MOST 1048576: true; the input reads as it did. -/
def slotGensUptoRow : OpenClaim := { program := "ytkicekddkgehoaa", sum := "4a3f9cbc18a7c94d5689b8eddf8fca9521f0ab237ae6ab1f1338e755ea1b68f9", func := "lazarus/lazaruslaw5.SlotGens", spec := "slotGens", unfollowed := true, recurses := true, apart := false, narrowed := true }
def SlotGensUptoSaid : Prop := slotGensUptoRow.holds Try.pinned (OpenSpec.upto slotGensSpec)

/-- 'lazaruslaw5.SlotPlays', WHERE WHAT IT READS IS OF BULK AT MOST 1048576: true; the input reads as it did. -/
def slotPlaysUptoRow : OpenClaim := { program := "ytkicekddkgehoaa", sum := "4a3f9cbc18a7c94d5689b8eddf8fca9521f0ab237ae6ab1f1338e755ea1b68f9", func := "lazarus/lazaruslaw5.SlotPlays", spec := "slotPlays", unfollowed := true, recurses := true, apart := false, narrowed := true }
def SlotPlaysUptoSaid : Prop := slotPlaysUptoRow.holds Try.pinned (OpenSpec.upto slotPlaysSpec)

/-- 'lazaruslaw5.SlotLast', WHERE WHAT IT READS IS OF BULK AT MOST 1048576: true; the input reads as it did. -/
def slotLastUptoRow : OpenClaim := { program := "ytkicekddkgehoaa", sum := "4a3f9cbc18a7c94d5689b8eddf8fca9521f0ab237ae6ab1f1338e755ea1b68f9", func := "lazarus/lazaruslaw5.SlotLast", spec := "slotLast", unfollowed := true, recurses := true, apart := false, narrowed := true }
def SlotLastUptoSaid : Prop := slotLastUptoRow.holds Try.pinned (OpenSpec.upto slotLastSpec)

end Rows
end Go.Proofs.Ytkicekddkgehoaa
