/-
  No cell of these rows narrows 'for every input' (looked for: loops, veiled, ifaces, maps, wideKeys, modest, calm, conditions, laid).
  DERIVED. THE GIVEN ROWS OF THIS SEAT. 7 by the template 'for every input the law returns true; each argument reads behind the call as it read before'; 0 by the template 'total and deterministic' (their statements: YthlakeaefoljnaaTotals.lean).
  GIVEN WITH THE SEED: the statements are not yours to turn. If you find one false, say at which input.
  Laid BY PROGRAM, IN A SANDBOX (cutbox-rows.mjs): the forced cells as the released guide's own fill.sh prints them over the translation 8874eacefc81f79b… (all of the seat's roots in one cut). By AI agents, Wed Nov 11 2026. No macro, syntax, notation, axiom, sorry.
-/
import Derived.Test.YthlakeaefoljnaaChecked
import GoSem.Claim
import GoSem.ClaimJoined
import GoSem.ClaimMapViews
import Derived.JoinedTies
import Derived.KernelRfl
namespace Go.Proofs.Ythlakeaefoljnaa
/- THE CELL 'sum', in the pinned program and in every row, IS THE sha256 OF THE DUMP (.gsa) THAT YthlakeaefoljnaaProg.lean LOADS. Nothing in Lean hashes anything: it is a label: what it is worth is what the hold of that sum in a sandbox is worth. -/
noncomputable def Try.pinned : Pinned := { name := "ythlakeaefoljnaa", sum := "8874eacefc81f79b46ec5e59688583242520f517a51de1d79abcc43357930ae2", checked := Try.checked }
namespace Rows
def none {H : Type} : Left H := { results := [], args := [] }

/-- 'lazaruslaw14.EnvOwn': WHATEVER THE INPUT: true; the input reads as it did. -/
def envOwnSpec : ChangeSpec := { name := "envOwn", fn := fun _ => fun
  | [d1, d2, d3] => { results := [.lit (.bool true)], args := [d1, d2, d3] }
  | _ => none }
def envOwnRow : OpenClaim := { program := "ythlakeaefoljnaa", sum := "8874eacefc81f79b46ec5e59688583242520f517a51de1d79abcc43357930ae2", func := "lazarus/lazaruslaw14.EnvOwn", spec := "envOwn", inPlace := ["slices.overlaps[lazarus/api.Binding]", "slices.overlaps[lazarus/api.Fun]"], unfollowed := true, recurses := true, apart := false }
def EnvOwnSaid : Prop := envOwnRow.holds Try.pinned (OpenSpec.ofChange envOwnSpec)

/-- ITS FALSE NEIGHBOUR: 'it returns false'. Refute it at one input. -/
def envOwnWrong : ChangeSpec := { name := "envOwn", fn := fun _ => fun
  | [d1, d2, d3] => { results := [.lit (.bool false)], args := [d1, d2, d3] }
  | _ => none }
def EnvOwnWrongFalsely : Prop := envOwnRow.holds Try.pinned (OpenSpec.ofChange envOwnWrong)

/-- 'lazaruslaw14.EnvOrder': WHATEVER THE INPUT: true; the input reads as it did. -/
def envOrderSpec : ChangeSpec := { name := "envOrder", fn := fun _ => fun
  | [d1, d2, d3, d4] => { results := [.lit (.bool true)], args := [d1, d2, d3, d4] }
  | _ => none }
def envOrderRow : OpenClaim := { program := "ythlakeaefoljnaa", sum := "8874eacefc81f79b46ec5e59688583242520f517a51de1d79abcc43357930ae2", func := "lazarus/lazaruslaw14.EnvOrder", spec := "envOrder", inPlace := ["slices.overlaps[lazarus/api.Binding]", "slices.overlaps[lazarus/api.Fun]"], unfollowed := true, recurses := true, apart := false }
def EnvOrderSaid : Prop := envOrderRow.holds Try.pinned (OpenSpec.ofChange envOrderSpec)

/-- ITS FALSE NEIGHBOUR: 'it returns false'. Refute it at one input. -/
def envOrderWrong : ChangeSpec := { name := "envOrder", fn := fun _ => fun
  | [d1, d2, d3, d4] => { results := [.lit (.bool false)], args := [d1, d2, d3, d4] }
  | _ => none }
def EnvOrderWrongFalsely : Prop := envOrderRow.holds Try.pinned (OpenSpec.ofChange envOrderWrong)

/-- 'lazaruslaw14.EnvPlays': WHATEVER THE INPUT: true; the input reads as it did. -/
def envPlaysSpec : ChangeSpec := { name := "envPlays", fn := fun _ => fun
  | [d1, d2] => { results := [.lit (.bool true)], args := [d1, d2] }
  | _ => none }
def envPlaysRow : OpenClaim := { program := "ythlakeaefoljnaa", sum := "8874eacefc81f79b46ec5e59688583242520f517a51de1d79abcc43357930ae2", func := "lazarus/lazaruslaw14.EnvPlays", spec := "envPlays", inPlace := ["slices.overlaps[lazarus/api.Binding]", "slices.overlaps[lazarus/api.Fun]"], unfollowed := true, recurses := true, apart := false }
def EnvPlaysSaid : Prop := envPlaysRow.holds Try.pinned (OpenSpec.ofChange envPlaysSpec)

/-- ITS FALSE NEIGHBOUR: 'it returns false'. Refute it at one input. -/
def envPlaysWrong : ChangeSpec := { name := "envPlays", fn := fun _ => fun
  | [d1, d2] => { results := [.lit (.bool false)], args := [d1, d2] }
  | _ => none }
def EnvPlaysWrongFalsely : Prop := envPlaysRow.holds Try.pinned (OpenSpec.ofChange envPlaysWrong)

/-- 'lazaruslaw17.FileTwice': WHATEVER THE INPUT: true; the input reads as it did. -/
def fileTwiceSpec : ChangeSpec := { name := "fileTwice", fn := fun _ => fun
  | [d1, d2, d3] => { results := [.lit (.bool true)], args := [d1, d2, d3] }
  | _ => none }
def fileTwiceRow : OpenClaim := { program := "ythlakeaefoljnaa", sum := "8874eacefc81f79b46ec5e59688583242520f517a51de1d79abcc43357930ae2", func := "lazarus/lazaruslaw17.FileTwice", spec := "fileTwice", inPlace := ["internal/bytealg.IndexByteString", "internal/bytealg.IndexString", "slices.overlaps[lazarus/api.File]"], unfollowed := true, recurses := true, named := ["internal/bytealg.MaxLen"], apart := false }
def FileTwiceSaid : Prop := fileTwiceRow.holds Try.pinned (OpenSpec.ofChange fileTwiceSpec)

/-- ITS FALSE NEIGHBOUR: 'it returns false'. Refute it at one input. -/
def fileTwiceWrong : ChangeSpec := { name := "fileTwice", fn := fun _ => fun
  | [d1, d2, d3] => { results := [.lit (.bool false)], args := [d1, d2, d3] }
  | _ => none }
def FileTwiceWrongFalsely : Prop := fileTwiceRow.holds Try.pinned (OpenSpec.ofChange fileTwiceWrong)

/-- 'lazaruslaw17.FileOrder': WHATEVER THE INPUT: true; the input reads as it did. -/
def fileOrderSpec : ChangeSpec := { name := "fileOrder", fn := fun _ => fun
  | [d1, d2, d3, d4] => { results := [.lit (.bool true)], args := [d1, d2, d3, d4] }
  | _ => none }
def fileOrderRow : OpenClaim := { program := "ythlakeaefoljnaa", sum := "8874eacefc81f79b46ec5e59688583242520f517a51de1d79abcc43357930ae2", func := "lazarus/lazaruslaw17.FileOrder", spec := "fileOrder", inPlace := ["internal/bytealg.IndexByteString", "internal/bytealg.IndexString", "slices.overlaps[lazarus/api.File]"], unfollowed := true, recurses := true, named := ["internal/bytealg.MaxLen"], apart := false }
def FileOrderSaid : Prop := fileOrderRow.holds Try.pinned (OpenSpec.ofChange fileOrderSpec)

/-- ITS FALSE NEIGHBOUR: 'it returns false'. Refute it at one input. -/
def fileOrderWrong : ChangeSpec := { name := "fileOrder", fn := fun _ => fun
  | [d1, d2, d3, d4] => { results := [.lit (.bool false)], args := [d1, d2, d3, d4] }
  | _ => none }
def FileOrderWrongFalsely : Prop := fileOrderRow.holds Try.pinned (OpenSpec.ofChange fileOrderWrong)

/-- 'lazaruslaw17.FilePlays': WHATEVER THE INPUT: true; the input reads as it did. -/
def filePlaysSpec : ChangeSpec := { name := "filePlays", fn := fun _ => fun
  | [d] => { results := [.lit (.bool true)], args := [d] }
  | _ => none }
def filePlaysRow : OpenClaim := { program := "ythlakeaefoljnaa", sum := "8874eacefc81f79b46ec5e59688583242520f517a51de1d79abcc43357930ae2", func := "lazarus/lazaruslaw17.FilePlays", spec := "filePlays", inPlace := ["internal/bytealg.IndexByteString", "internal/bytealg.IndexString", "slices.overlaps[lazarus/api.File]"], unfollowed := true, recurses := true, named := ["internal/bytealg.MaxLen"], apart := false }
def FilePlaysSaid : Prop := filePlaysRow.holds Try.pinned (OpenSpec.ofChange filePlaysSpec)

/-- ITS FALSE NEIGHBOUR: 'it returns false'. Refute it at one input. -/
def filePlaysWrong : ChangeSpec := { name := "filePlays", fn := fun _ => fun
  | [d] => { results := [.lit (.bool false)], args := [d] }
  | _ => none }
def FilePlaysWrongFalsely : Prop := filePlaysRow.holds Try.pinned (OpenSpec.ofChange filePlaysWrong)

/-- 'lazaruslaw19.StateSame': WHATEVER THE INPUT: true; the input reads as it did. -/
def stateSameSpec : ChangeSpec := { name := "stateSame", fn := fun _ => fun
  | [d1, d2] => { results := [.lit (.bool true)], args := [d1, d2] }
  | _ => none }
def stateSameRow : OpenClaim := { program := "ythlakeaefoljnaa", sum := "8874eacefc81f79b46ec5e59688583242520f517a51de1d79abcc43357930ae2", func := "lazarus/lazaruslaw19.StateSame", spec := "stateSame", unfollowed := true, recurses := true, apart := false }
def StateSameSaid : Prop := stateSameRow.holds Try.pinned (OpenSpec.ofChange stateSameSpec)

/-- ITS FALSE NEIGHBOUR: 'it returns false'. Refute it at one input. -/
def stateSameWrong : ChangeSpec := { name := "stateSame", fn := fun _ => fun
  | [d1, d2] => { results := [.lit (.bool false)], args := [d1, d2] }
  | _ => none }
def StateSameWrongFalsely : Prop := stateSameRow.holds Try.pinned (OpenSpec.ofChange stateSameWrong)

/- THE SECOND FORM. 'bulk': how many values and letters a reading holds, each counted each time it is reached (what is shared counts as often as it is met; a slice's spare places count too). A statement '..UptoSaid' is the law's where the arguments, and the package variables that the reading takes, are together of bulk at most 1048576: NARROWER than '..Said'. Prove '..Said' where nothing that the law and all that it calls make is longer than what came in: it says more and counts as full. Else prove '..UptoSaid'. A law counts once. -/
mutual
def uptoBulk {H : Type} : DataW H → Nat
  | .lit (.string bytes) => bytes.length + 1
  | .lit _ => 1
  | .nil => 1
  | .ptr d => uptoBulk d + 1
  | .slice elems spare => uptoBulkAll elems + uptoBulkAll spare + 1
  | .agg parts => uptoBulkAll parts + 1
  | .iface _ d => uptoBulk d + 1
  | .map entries => uptoBulkEntries entries + 1
  | .held _ => 1
def uptoBulkAll {H : Type} : List (DataW H) → Nat
  | [] => 0
  | d :: r => uptoBulk d + uptoBulkAll r
def uptoBulkEntries {H : Type} : List (Lit × DataW H) → Nat
  | [] => 0
  | x :: r => uptoBulkEntry x + uptoBulkEntries r
def uptoBulkEntry {H : Type} : Lit × DataW H → Nat
  | (.string bytes, d) => bytes.length + uptoBulk d + 1
  | (_, d) => uptoBulk d + 1
 end
def uptoSmall : (H : Type) → List (DataW H) → Bool := fun _ ds => decide (uptoBulkAll ds ≤ 1048576)
def OpenSpec.upto (s : _root_.Go.ChangeSpec) : _root_.Go.OpenSpec := { _root_.Go.OpenSpec.ofChange s with cond := some uptoSmall }

/-- 'lazaruslaw14.EnvOwn', WHERE WHAT IT READS IS OF BULK AT MOST 1048576: true; the input reads as it did. -/
def envOwnUptoRow : OpenClaim := { program := "ythlakeaefoljnaa", sum := "8874eacefc81f79b46ec5e59688583242520f517a51de1d79abcc43357930ae2", func := "lazarus/lazaruslaw14.EnvOwn", spec := "envOwn", inPlace := ["slices.overlaps[lazarus/api.Binding]", "slices.overlaps[lazarus/api.Fun]"], unfollowed := true, recurses := true, apart := false, narrowed := true }
def EnvOwnUptoSaid : Prop := envOwnUptoRow.holds Try.pinned (OpenSpec.upto envOwnSpec)

/-- 'lazaruslaw14.EnvOrder', WHERE WHAT IT READS IS OF BULK AT MOST 1048576: true; the input reads as it did. -/
def envOrderUptoRow : OpenClaim := { program := "ythlakeaefoljnaa", sum := "8874eacefc81f79b46ec5e59688583242520f517a51de1d79abcc43357930ae2", func := "lazarus/lazaruslaw14.EnvOrder", spec := "envOrder", inPlace := ["slices.overlaps[lazarus/api.Binding]", "slices.overlaps[lazarus/api.Fun]"], unfollowed := true, recurses := true, apart := false, narrowed := true }
def EnvOrderUptoSaid : Prop := envOrderUptoRow.holds Try.pinned (OpenSpec.upto envOrderSpec)

/-- 'lazaruslaw14.EnvPlays', WHERE WHAT IT READS IS OF BULK AT MOST 1048576: true; the input reads as it did. -/
def envPlaysUptoRow : OpenClaim := { program := "ythlakeaefoljnaa", sum := "8874eacefc81f79b46ec5e59688583242520f517a51de1d79abcc43357930ae2", func := "lazarus/lazaruslaw14.EnvPlays", spec := "envPlays", inPlace := ["slices.overlaps[lazarus/api.Binding]", "slices.overlaps[lazarus/api.Fun]"], unfollowed := true, recurses := true, apart := false, narrowed := true }
def EnvPlaysUptoSaid : Prop := envPlaysUptoRow.holds Try.pinned (OpenSpec.upto envPlaysSpec)

/-- 'lazaruslaw17.FileTwice', WHERE WHAT IT READS IS OF BULK AT MOST 1048576: true; the input reads as it did. -/
def fileTwiceUptoRow : OpenClaim := { program := "ythlakeaefoljnaa", sum := "8874eacefc81f79b46ec5e59688583242520f517a51de1d79abcc43357930ae2", func := "lazarus/lazaruslaw17.FileTwice", spec := "fileTwice", inPlace := ["internal/bytealg.IndexByteString", "internal/bytealg.IndexString", "slices.overlaps[lazarus/api.File]"], unfollowed := true, recurses := true, named := ["internal/bytealg.MaxLen"], apart := false, narrowed := true }
def FileTwiceUptoSaid : Prop := fileTwiceUptoRow.holds Try.pinned (OpenSpec.upto fileTwiceSpec)

/-- 'lazaruslaw17.FileOrder', WHERE WHAT IT READS IS OF BULK AT MOST 1048576: true; the input reads as it did. -/
def fileOrderUptoRow : OpenClaim := { program := "ythlakeaefoljnaa", sum := "8874eacefc81f79b46ec5e59688583242520f517a51de1d79abcc43357930ae2", func := "lazarus/lazaruslaw17.FileOrder", spec := "fileOrder", inPlace := ["internal/bytealg.IndexByteString", "internal/bytealg.IndexString", "slices.overlaps[lazarus/api.File]"], unfollowed := true, recurses := true, named := ["internal/bytealg.MaxLen"], apart := false, narrowed := true }
def FileOrderUptoSaid : Prop := fileOrderUptoRow.holds Try.pinned (OpenSpec.upto fileOrderSpec)

/-- 'lazaruslaw17.FilePlays', WHERE WHAT IT READS IS OF BULK AT MOST 1048576: true; the input reads as it did. -/
def filePlaysUptoRow : OpenClaim := { program := "ythlakeaefoljnaa", sum := "8874eacefc81f79b46ec5e59688583242520f517a51de1d79abcc43357930ae2", func := "lazarus/lazaruslaw17.FilePlays", spec := "filePlays", inPlace := ["internal/bytealg.IndexByteString", "internal/bytealg.IndexString", "slices.overlaps[lazarus/api.File]"], unfollowed := true, recurses := true, named := ["internal/bytealg.MaxLen"], apart := false, narrowed := true }
def FilePlaysUptoSaid : Prop := filePlaysUptoRow.holds Try.pinned (OpenSpec.upto filePlaysSpec)

/-- 'lazaruslaw19.StateSame', WHERE WHAT IT READS IS OF BULK AT MOST 1048576: true; the input reads as it did. -/
def stateSameUptoRow : OpenClaim := { program := "ythlakeaefoljnaa", sum := "8874eacefc81f79b46ec5e59688583242520f517a51de1d79abcc43357930ae2", func := "lazarus/lazaruslaw19.StateSame", spec := "stateSame", unfollowed := true, recurses := true, apart := false, narrowed := true }
def StateSameUptoSaid : Prop := stateSameUptoRow.holds Try.pinned (OpenSpec.upto stateSameSpec)

end Rows
end Go.Proofs.Ythlakeaefoljnaa
