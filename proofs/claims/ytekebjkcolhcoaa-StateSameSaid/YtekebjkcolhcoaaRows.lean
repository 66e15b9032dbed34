/-
  No cell of these rows narrows 'for every input' (looked for: loops, veiled, ifaces, maps, wideKeys, modest, calm, conditions, laid).
  DERIVED. THE GIVEN ROWS OF THIS SEAT. 3 by the template 'for every input the law returns true; each argument reads behind the call as it read before'; 0 by the template 'total and deterministic' (their statements: YtekebjkcolhcoaaTotals.lean).
  GIVEN WITH THE SEED: the statements are not yours to turn. If you find one false, say at which input.
  Laid BY PROGRAM, IN A SANDBOX (cutbox-rows.mjs): the forced cells as the released guide's own fill.sh prints them over the translation ecd8cf7811ccf545… (all of the seat's roots in one cut). By AI agents, Wed Nov 11 2026. No macro, syntax, notation, axiom, sorry.
-/
import Derived.Test.YtekebjkcolhcoaaChecked
import GoSem.Claim
import GoSem.ClaimJoined
import GoSem.ClaimMapViews
import Derived.JoinedTies
import Derived.KernelRfl
namespace Go.Proofs.Ytekebjkcolhcoaa
/- THE CELL 'sum', in the pinned program and in every row, IS THE sha256 OF THE DUMP (.gsa) THAT YtekebjkcolhcoaaProg.lean LOADS. Nothing in Lean hashes anything: it is a label: what it is worth is what the hold of that sum in a sandbox is worth. -/
noncomputable def Try.pinned : Pinned := { name := "ytekebjkcolhcoaa", sum := "ecd8cf7811ccf545e4e8bd4ee43e8d73f9368a153abd6d76c057c0e517127bfc", checked := Try.checked }
namespace Rows
def none {H : Type} : Left H := { results := [], args := [] }

/-- 'lazaruslaw19.StateSame': WHATEVER THE INPUT: true; the input reads as it did. -/
def stateSameSpec : ChangeSpec := { name := "stateSame", fn := fun _ => fun
  | [d1, d2] => { results := [.lit (.bool true)], args := [d1, d2] }
  | _ => none }
def stateSameRow : OpenClaim := { program := "ytekebjkcolhcoaa", sum := "ecd8cf7811ccf545e4e8bd4ee43e8d73f9368a153abd6d76c057c0e517127bfc", func := "lazarus/lazaruslaw19.StateSame", spec := "stateSame", unfollowed := true, recurses := true, apart := false }
def StateSameSaid : Prop := stateSameRow.holds Try.pinned (OpenSpec.ofChange stateSameSpec)

/-- ITS FALSE NEIGHBOUR: 'it returns false'. Refute it at one input. -/
def stateSameWrong : ChangeSpec := { name := "stateSame", fn := fun _ => fun
  | [d1, d2] => { results := [.lit (.bool false)], args := [d1, d2] }
  | _ => none }
def StateSameWrongFalsely : Prop := stateSameRow.holds Try.pinned (OpenSpec.ofChange stateSameWrong)

/-- 'lazaruslaw14.EnvOwn': WHATEVER THE INPUT: true; the input reads as it did. -/
def envOwnSpec : ChangeSpec := { name := "envOwn", fn := fun _ => fun
  | [d1, d2, d3] => { results := [.lit (.bool true)], args := [d1, d2, d3] }
  | _ => none }
def envOwnRow : OpenClaim := { program := "ytekebjkcolhcoaa", sum := "ecd8cf7811ccf545e4e8bd4ee43e8d73f9368a153abd6d76c057c0e517127bfc", func := "lazarus/lazaruslaw14.EnvOwn", spec := "envOwn", inPlace := ["slices.overlaps[lazarus/api.Binding]", "slices.overlaps[lazarus/api.Fun]"], unfollowed := true, recurses := true, apart := false }
def EnvOwnSaid : Prop := envOwnRow.holds Try.pinned (OpenSpec.ofChange envOwnSpec)

/-- ITS FALSE NEIGHBOUR: 'it returns false'. Refute it at one input. -/
def envOwnWrong : ChangeSpec := { name := "envOwn", fn := fun _ => fun
  | [d1, d2, d3] => { results := [.lit (.bool false)], args := [d1, d2, d3] }
  | _ => none }
def EnvOwnWrongFalsely : Prop := envOwnRow.holds Try.pinned (OpenSpec.ofChange envOwnWrong)

/-- 'lazaruslaw14.EnvPlays': WHATEVER THE INPUT: true; the input reads as it did. -/
def envPlaysSpec : ChangeSpec := { name := "envPlays", fn := fun _ => fun
  | [d1, d2] => { results := [.lit (.bool true)], args := [d1, d2] }
  | _ => none }
def envPlaysRow : OpenClaim := { program := "ytekebjkcolhcoaa", sum := "ecd8cf7811ccf545e4e8bd4ee43e8d73f9368a153abd6d76c057c0e517127bfc", func := "lazarus/lazaruslaw14.EnvPlays", spec := "envPlays", inPlace := ["slices.overlaps[lazarus/api.Binding]", "slices.overlaps[lazarus/api.Fun]"], unfollowed := true, recurses := true, apart := false }
def EnvPlaysSaid : Prop := envPlaysRow.holds Try.pinned (OpenSpec.ofChange envPlaysSpec)

/-- ITS FALSE NEIGHBOUR: 'it returns false'. Refute it at one input. -/
def envPlaysWrong : ChangeSpec := { name := "envPlays", fn := fun _ => fun
  | [d1, d2] => { results := [.lit (.bool false)], args := [d1, d2] }
  | _ => none }
def EnvPlaysWrongFalsely : Prop := envPlaysRow.holds Try.pinned (OpenSpec.ofChange envPlaysWrong)

/- THE SECOND FORM. 'bulk': how many values and letters a reading holds, each counted each time it is reached (what is shared counts as often as it is met; a slice's spare places count too). A statement '..UptoSaid' is the law's where the arguments, and the package variables that the reading takes, are together of bulk at most 1048576: NARROWER than '..Said'. Prove '..Said' where nothing that the law and all that it calls make is longer than what came in: it says more and counts as full. Else prove '..UptoSaid'. A law counts once. -/
mutual
def uptoBulk {H : Type} : DataW H → Nat
  | .lit (.string bytes) => bytes.length + 1
  | .lit _ => 1
  | .nil => 1
  | .ptr d => uptoBulk d + 1
  | .slice elems spare => uptoBulkAll elems + uptoBulkAll spare + 1
  | .agg parts => uptoBulkAll parts + 1
  | .iface _ d => uptoBulk d + 1
  | .map entries => uptoBulkEntries entries + 1
  | .held _ => 1
def uptoBulkAll {H : Type} : List (DataW H) → Nat
  | [] => 0
  | d :: r => uptoBulk d + uptoBulkAll r
def uptoBulkEntries {H : Type} : List (Lit × DataW H) → Nat
  | [] => 0
  | x :: r => uptoBulkEntry x + uptoBulkEntries r
def uptoBulkEntry {H : Type} : Lit × DataW H → Nat
  | (.string bytes, d) => bytes.length + uptoBulk d + 1
  | (_, d) => uptoBulk d + 1
 end
def uptoSmall : (H : Type) → List (DataW H) → Bool := fun _ ds => decide (uptoBulkAll ds ≤ 1048576)
def OpenSpec.upto (s : _root_.Go.ChangeSpec) : _root_.Go.OpenSpec := { _root_.Go.OpenSpec.ofChange s with cond := some uptoSmall }

/-- 'lazaruslaw19.StateSame', WHERE WHAT IT READS IS OF BULK AT MOST 1048576: true; the input reads as it did. -/
def stateSameUptoRow : OpenClaim := { program := "ytekebjkcolhcoaa", sum := "ecd8cf7811ccf545e4e8bd4ee43e8d73f9368a153abd6d76c057c0e517127bfc", func := "lazarus/lazaruslaw19.StateSame", spec := "stateSame", unfollowed := true, recurses := true, apart := false, narrowed := true }
def StateSameUptoSaid : Prop := stateSameUptoRow.holds Try.pinned (OpenSpec.upto stateSameSpec)

/-- 'lazaruslaw14.EnvOwn', WHERE WHAT IT READS IS OF BULK AT MOST 1048576: true; the input reads as it did. -/
def envOwnUptoRow : OpenClaim := { program := "ytekebjkcolhcoaa", sum := "ecd8cf7811ccf545e4e8bd4ee43e8d73f9368a153abd6d76c057c0e517127bfc", func := "lazarus/lazaruslaw14.EnvOwn", spec := "envOwn", inPlace := ["slices.overlaps[lazarus/api.Binding]", "slices.overlaps[lazarus/api.Fun]"], unfollowed := true, recurses := true, apart := false, narrowed := true }
def EnvOwnUptoSaid : Prop := envOwnUptoRow.holds Try.pinned (OpenSpec.upto envOwnSpec)

/-- 'lazaruslaw14.EnvPlays', WHERE WHAT IT READS IS OF BULK AT MOST 1048576: true; the input reads as it did. -/
def envPlaysUptoRow : OpenClaim := { program := "ytekebjkcolhcoaa", sum := "ecd8cf7811ccf545e4e8bd4ee43e8d73f9368a153abd6d76c057c0e517127bfc", func := "lazarus/lazaruslaw14.EnvPlays", spec := "envPlays", inPlace := ["slices.overlaps[lazarus/api.Binding]", "slices.overlaps[lazarus/api.Fun]"], unfollowed := true, recurses := true, apart := false, narrowed := true }
def EnvPlaysUptoSaid : Prop := envPlaysUptoRow.holds Try.pinned (OpenSpec.upto envPlaysSpec)

end Rows
end Go.Proofs.Ytekebjkcolhcoaa
