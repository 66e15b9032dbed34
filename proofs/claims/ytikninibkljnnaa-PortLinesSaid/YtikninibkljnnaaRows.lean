/-
  No cell of these rows narrows 'for every input' (looked for: loops, veiled, ifaces, maps, wideKeys, modest, calm, conditions, laid).
  DERIVED. THE GIVEN ROWS OF THIS SEAT. 3 by the template 'for every input the law returns true; each argument reads behind the call as it read before'; 0 by the template 'total and deterministic' (their statements: YtikninibkljnnaaTotals.lean).
  GIVEN WITH THE SEED: the statements are not yours to turn. If you find one false, say at which input.
  Laid BY PROGRAM, IN A SANDBOX (cutbox-rows.mjs): the forced cells as the released guide's own fill.sh prints them over the translation a03d49413f2b10e9… (all of the seat's roots in one cut). By AI agents, Wed Nov 11 2026. No macro, syntax, notation, axiom, sorry.
-/
import Derived.Test.YtikninibkljnnaaChecked
import GoSem.Claim
import GoSem.ClaimJoined
import GoSem.ClaimMapViews
import Derived.JoinedTies
import Derived.KernelRfl
namespace Go.Proofs.Ytikninibkljnnaa
/- THE CELL 'sum', in the pinned program and in every row, IS THE sha256 OF THE DUMP (.gsa) THAT YtikninibkljnnaaProg.lean LOADS. Nothing in Lean hashes anything: it is a label: what it is worth is what the hold of that sum in a sandbox is worth. -/
noncomputable def Try.pinned : Pinned := { name := "ytikninibkljnnaa", sum := "a03d49413f2b10e91e5c93d520a3c3a4734d381800e734049f2f340a42587743", checked := Try.checked }
namespace Rows
def none {H : Type} : Left H := { results := [], args := [] }

/-- 'lazaruslaw18.PortAppends': WHATEVER THE INPUT: true; the input reads as it did. -/
def portAppendsSpec : ChangeSpec := { name := "portAppends", fn := fun _ => fun
  | [d1, d2] => { results := [.lit (.bool true)], args := [d1, d2] }
  | _ => none }
def portAppendsRow : OpenClaim := { program := "ytikninibkljnnaa", sum := "a03d49413f2b10e91e5c93d520a3c3a4734d381800e734049f2f340a42587743", func := "lazarus/lazaruslaw18.PortAppends", spec := "portAppends", inPlace := ["internal/bytealg.IndexByteString", "internal/bytealg.IndexString", "slices.overlaps[lazarus/api.File]"], unfollowed := true, recurses := true, named := ["internal/bytealg.MaxLen"], apart := false }
def PortAppendsSaid : Prop := portAppendsRow.holds Try.pinned (OpenSpec.ofChange portAppendsSpec)

/-- ITS FALSE NEIGHBOUR: 'it returns false'. Refute it at one input. -/
def portAppendsWrong : ChangeSpec := { name := "portAppends", fn := fun _ => fun
  | [d1, d2] => { results := [.lit (.bool false)], args := [d1, d2] }
  | _ => none }
def PortAppendsWrongFalsely : Prop := portAppendsRow.holds Try.pinned (OpenSpec.ofChange portAppendsWrong)

/-- 'lazaruslaw18.PortPipe': WHATEVER THE INPUT: true; the input reads as it did. -/
def portPipeSpec : ChangeSpec := { name := "portPipe", fn := fun _ => fun
  | [d1, d2] => { results := [.lit (.bool true)], args := [d1, d2] }
  | _ => none }
def portPipeRow : OpenClaim := { program := "ytikninibkljnnaa", sum := "a03d49413f2b10e91e5c93d520a3c3a4734d381800e734049f2f340a42587743", func := "lazarus/lazaruslaw18.PortPipe", spec := "portPipe", inPlace := ["internal/bytealg.IndexByteString", "internal/bytealg.IndexString", "slices.overlaps[lazarus/api.File]"], unfollowed := true, recurses := true, named := ["internal/bytealg.MaxLen"], apart := false }
def PortPipeSaid : Prop := portPipeRow.holds Try.pinned (OpenSpec.ofChange portPipeSpec)

/-- ITS FALSE NEIGHBOUR: 'it returns false'. Refute it at one input. -/
def portPipeWrong : ChangeSpec := { name := "portPipe", fn := fun _ => fun
  | [d1, d2] => { results := [.lit (.bool false)], args := [d1, d2] }
  | _ => none }
def PortPipeWrongFalsely : Prop := portPipeRow.holds Try.pinned (OpenSpec.ofChange portPipeWrong)

/-- 'lazaruslaw18.PortLines': WHATEVER THE INPUT: true; the input reads as it did. -/
def portLinesSpec : ChangeSpec := { name := "portLines", fn := fun _ => fun
  | [d1, d2] => { results := [.lit (.bool true)], args := [d1, d2] }
  | _ => none }
def portLinesRow : OpenClaim := { program := "ytikninibkljnnaa", sum := "a03d49413f2b10e91e5c93d520a3c3a4734d381800e734049f2f340a42587743", func := "lazarus/lazaruslaw18.PortLines", spec := "portLines", inPlace := ["internal/bytealg.IndexByteString", "internal/bytealg.IndexString", "slices.overlaps[lazarus/api.File]"], unfollowed := true, recurses := true, named := ["internal/bytealg.MaxLen"], apart := false }
def PortLinesSaid : Prop := portLinesRow.holds Try.pinned (OpenSpec.ofChange portLinesSpec)

/-- ITS FALSE NEIGHBOUR: 'it returns false'. Refute it at one input. -/
def portLinesWrong : ChangeSpec := { name := "portLines", fn := fun _ => fun
  | [d1, d2] => { results := [.lit (.bool false)], args := [d1, d2] }
  | _ => none }
def PortLinesWrongFalsely : Prop := portLinesRow.holds Try.pinned (OpenSpec.ofChange portLinesWrong)

/- THE SECOND FORM. 'bulk': how many values and letters a reading holds, each counted each time it is reached (what is shared counts as often as it is met; a slice's spare places count too). A statement '..UptoSaid' is the law's where the arguments, and the package variables that the reading takes, are together of bulk at most 1048576: NARROWER than '..Said'. Prove '..Said' where nothing that the law and all that it calls make is longer than what came in: it says more and counts as full. Else prove '..UptoSaid'. A law counts once. -/
mutual
def uptoBulk {H : Type} : DataW H → Nat
  | .lit (.string bytes) => bytes.length + 1
  | .lit _ => 1
  | .nil => 1
  | .ptr d => uptoBulk d + 1
  | .slice elems spare => uptoBulkAll elems + uptoBulkAll spare + 1
  | .agg parts => uptoBulkAll parts + 1
  | .iface _ d => uptoBulk d + 1
  | .map entries => uptoBulkEntries entries + 1
  | .held _ => 1
def uptoBulkAll {H : Type} : List (DataW H) → Nat
  | [] => 0
  | d :: r => uptoBulk d + uptoBulkAll r
def uptoBulkEntries {H : Type} : List (Lit × DataW H) → Nat
  | [] => 0
  | x :: r => uptoBulkEntry x + uptoBulkEntries r
def uptoBulkEntry {H : Type} : Lit × DataW H → Nat
  | (.string bytes, d) => bytes.length + uptoBulk d + 1
  | (_, d) => uptoBulk d + 1
 end
def uptoSmall : (H : Type) → List (DataW H) → Bool := fun _ ds => decide (uptoBulkAll ds ≤ 1048576)
def OpenSpec.upto (s : _root_.Go.ChangeSpec) : _root_.Go.OpenSpec := { _root_.Go.OpenSpec.ofChange s with cond := some uptoSmall }

/-- 'lazaruslaw18.PortAppends', WHERE WHAT IT READS IS OF BULK AT MOST 1048576: true; the input reads as it did. -/
def portAppendsUptoRow : OpenClaim := { program := "ytikninibkljnnaa", sum := "a03d49413f2b10e91e5c93d520a3c3a4734d381800e734049f2f340a42587743", func := "lazarus/lazaruslaw18.PortAppends", spec := "portAppends", inPlace := ["internal/bytealg.IndexByteString", "internal/bytealg.IndexString", "slices.overlaps[lazarus/api.File]"], unfollowed := true, recurses := true, named := ["internal/bytealg.MaxLen"], apart := false, narrowed := true }
def PortAppendsUptoSaid : Prop := portAppendsUptoRow.holds Try.pinned (OpenSpec.upto portAppendsSpec)

/-- 'lazaruslaw18.PortPipe', WHERE WHAT IT READS IS OF BULK AT MOST 1048576: true; the input reads as it did. -/
def portPipeUptoRow : OpenClaim := { program := "ytikninibkljnnaa", sum := "a03d49413f2b10e91e5c93d520a3c3a4734d381800e734049f2f340a42587743", func := "lazarus/lazaruslaw18.PortPipe", spec := "portPipe", inPlace := ["internal/bytealg.IndexByteString", "internal/bytealg.IndexString", "slices.overlaps[lazarus/api.File]"], unfollowed := true, recurses := true, named := ["internal/bytealg.MaxLen"], apart := false, narrowed := true }
def PortPipeUptoSaid : Prop := portPipeUptoRow.holds Try.pinned (OpenSpec.upto portPipeSpec)

/-- 'lazaruslaw18.PortLines', WHERE WHAT IT READS IS OF BULK AT MOST 1048576: true; the input reads as it did. -/
def portLinesUptoRow : OpenClaim := { program := "ytikninibkljnnaa", sum := "a03d49413f2b10e91e5c93d520a3c3a4734d381800e734049f2f340a42587743", func := "lazarus/lazaruslaw18.PortLines", spec := "portLines", inPlace := ["internal/bytealg.IndexByteString", "internal/bytealg.IndexString", "slices.overlaps[lazarus/api.File]"], unfollowed := true, recurses := true, named := ["internal/bytealg.MaxLen"], apart := false, narrowed := true }
def PortLinesUptoSaid : Prop := portLinesUptoRow.holds Try.pinned (OpenSpec.upto portLinesSpec)

end Rows
end Go.Proofs.Ytikninibkljnnaa
