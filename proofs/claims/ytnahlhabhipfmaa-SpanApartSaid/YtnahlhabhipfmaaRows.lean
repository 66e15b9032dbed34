/-
  No cell of these rows narrows 'for every input' (looked for: loops, veiled, ifaces, maps, wideKeys, modest, calm, conditions, laid).
  DERIVED. THE GIVEN ROWS OF THIS SEAT. 9 by the template 'for every input the law returns true; each argument reads behind the call as it read before'; 0 by the template 'total and deterministic' (their statements: YtnahlhabhipfmaaTotals.lean).
  GIVEN WITH THE SEED: the statements are not yours to turn. If you find one false, say at which input.
  Laid BY PROGRAM, IN A SANDBOX (cutbox-rows.mjs): the forced cells as the released guide's own fill.sh prints them over the translation 85d3eea1187225a2… (all of the seat's roots in one cut). By AI agents, Wed Nov 11 2026. No macro, syntax, notation, axiom, sorry.
-/
import Derived.Test.YtnahlhabhipfmaaChecked
import GoSem.Claim
import GoSem.ClaimJoined
import GoSem.ClaimMapViews
import Derived.JoinedTies
import Derived.KernelRfl
namespace Go.Proofs.Ytnahlhabhipfmaa
/- THE CELL 'sum', in the pinned program and in every row, IS THE sha256 OF THE DUMP (.gsa) THAT YtnahlhabhipfmaaProg.lean LOADS. Nothing in Lean hashes anything: it is a label: what it is worth is what the hold of that sum in a sandbox is worth. -/
noncomputable def Try.pinned : Pinned := { name := "ytnahlhabhipfmaa", sum := "85d3eea1187225a2c38d088351a91a029fb7272674857cf136a4b9f02ccaa537", checked := Try.checked }
namespace Rows
def none {H : Type} : Left H := { results := [], args := [] }

/-- 'lazaruslaw3.DiskOutside': WHATEVER THE INPUT: true; the input reads as it did. -/
def diskOutsideSpec : ChangeSpec := { name := "diskOutside", fn := fun _ => fun
  | [d1, d2, d3] => { results := [.lit (.bool true)], args := [d1, d2, d3] }
  | _ => none }
def diskOutsideRow : OpenClaim := { program := "ytnahlhabhipfmaa", sum := "85d3eea1187225a2c38d088351a91a029fb7272674857cf136a4b9f02ccaa537", func := "lazarus/lazaruslaw3.DiskOutside", spec := "diskOutside", unfollowed := true, recurses := true, apart := false }
def DiskOutsideSaid : Prop := diskOutsideRow.holds Try.pinned (OpenSpec.ofChange diskOutsideSpec)

/-- ITS FALSE NEIGHBOUR: 'it returns false'. Refute it at one input. -/
def diskOutsideWrong : ChangeSpec := { name := "diskOutside", fn := fun _ => fun
  | [d1, d2, d3] => { results := [.lit (.bool false)], args := [d1, d2, d3] }
  | _ => none }
def DiskOutsideWrongFalsely : Prop := diskOutsideRow.holds Try.pinned (OpenSpec.ofChange diskOutsideWrong)

/-- 'lazaruslaw3.DiskLater': WHATEVER THE INPUT: true; the input reads as it did. -/
def diskLaterSpec : ChangeSpec := { name := "diskLater", fn := fun _ => fun
  | [d1, d2, d3] => { results := [.lit (.bool true)], args := [d1, d2, d3] }
  | _ => none }
def diskLaterRow : OpenClaim := { program := "ytnahlhabhipfmaa", sum := "85d3eea1187225a2c38d088351a91a029fb7272674857cf136a4b9f02ccaa537", func := "lazarus/lazaruslaw3.DiskLater", spec := "diskLater", unfollowed := true, recurses := true, apart := false }
def DiskLaterSaid : Prop := diskLaterRow.holds Try.pinned (OpenSpec.ofChange diskLaterSpec)

/-- ITS FALSE NEIGHBOUR: 'it returns false'. Refute it at one input. -/
def diskLaterWrong : ChangeSpec := { name := "diskLater", fn := fun _ => fun
  | [d1, d2, d3] => { results := [.lit (.bool false)], args := [d1, d2, d3] }
  | _ => none }
def DiskLaterWrongFalsely : Prop := diskLaterRow.holds Try.pinned (OpenSpec.ofChange diskLaterWrong)

/-- 'lazaruslaw3.DiskArms': WHATEVER THE INPUT: true; the input reads as it did. -/
def diskArmsSpec : ChangeSpec := { name := "diskArms", fn := fun _ => fun
  | [d1, d2] => { results := [.lit (.bool true)], args := [d1, d2] }
  | _ => none }
def diskArmsRow : OpenClaim := { program := "ytnahlhabhipfmaa", sum := "85d3eea1187225a2c38d088351a91a029fb7272674857cf136a4b9f02ccaa537", func := "lazarus/lazaruslaw3.DiskArms", spec := "diskArms", unfollowed := true, recurses := true, apart := false }
def DiskArmsSaid : Prop := diskArmsRow.holds Try.pinned (OpenSpec.ofChange diskArmsSpec)

/-- ITS FALSE NEIGHBOUR: 'it returns false'. Refute it at one input. -/
def diskArmsWrong : ChangeSpec := { name := "diskArms", fn := fun _ => fun
  | [d1, d2] => { results := [.lit (.bool false)], args := [d1, d2] }
  | _ => none }
def DiskArmsWrongFalsely : Prop := diskArmsRow.holds Try.pinned (OpenSpec.ofChange diskArmsWrong)

/-- 'lazaruslaw3.DiskFlushed': WHATEVER THE INPUT: true; the input reads as it did. -/
def diskFlushedSpec : ChangeSpec := { name := "diskFlushed", fn := fun _ => fun
  | [d1, d2, d3] => { results := [.lit (.bool true)], args := [d1, d2, d3] }
  | _ => none }
def diskFlushedRow : OpenClaim := { program := "ytnahlhabhipfmaa", sum := "85d3eea1187225a2c38d088351a91a029fb7272674857cf136a4b9f02ccaa537", func := "lazarus/lazaruslaw3.DiskFlushed", spec := "diskFlushed", unfollowed := true, recurses := true, apart := false }
def DiskFlushedSaid : Prop := diskFlushedRow.holds Try.pinned (OpenSpec.ofChange diskFlushedSpec)

/-- ITS FALSE NEIGHBOUR: 'it returns false'. Refute it at one input. -/
def diskFlushedWrong : ChangeSpec := { name := "diskFlushed", fn := fun _ => fun
  | [d1, d2, d3] => { results := [.lit (.bool false)], args := [d1, d2, d3] }
  | _ => none }
def DiskFlushedWrongFalsely : Prop := diskFlushedRow.holds Try.pinned (OpenSpec.ofChange diskFlushedWrong)

/-- 'lazaruslaw3.DiskOwn': WHATEVER THE INPUT: true; the input reads as it did. -/
def diskOwnSpec : ChangeSpec := { name := "diskOwn", fn := fun _ => fun
  | [d] => { results := [.lit (.bool true)], args := [d] }
  | _ => none }
def diskOwnRow : OpenClaim := { program := "ytnahlhabhipfmaa", sum := "85d3eea1187225a2c38d088351a91a029fb7272674857cf136a4b9f02ccaa537", func := "lazarus/lazaruslaw3.DiskOwn", spec := "diskOwn", unfollowed := true, recurses := true, apart := false }
def DiskOwnSaid : Prop := diskOwnRow.holds Try.pinned (OpenSpec.ofChange diskOwnSpec)

/-- ITS FALSE NEIGHBOUR: 'it returns false'. Refute it at one input. -/
def diskOwnWrong : ChangeSpec := { name := "diskOwn", fn := fun _ => fun
  | [d] => { results := [.lit (.bool false)], args := [d] }
  | _ => none }
def DiskOwnWrongFalsely : Prop := diskOwnRow.holds Try.pinned (OpenSpec.ofChange diskOwnWrong)

/-- 'lazaruslaw4.SpanNeed': WHATEVER THE INPUT: true; the input reads as it did. -/
def spanNeedSpec : ChangeSpec := { name := "spanNeed", fn := fun _ => fun
  | [d] => { results := [.lit (.bool true)], args := [d] }
  | _ => none }
def spanNeedRow : OpenClaim := { program := "ytnahlhabhipfmaa", sum := "85d3eea1187225a2c38d088351a91a029fb7272674857cf136a4b9f02ccaa537", func := "lazarus/lazaruslaw4.SpanNeed", spec := "spanNeed", unfollowed := true, recurses := true, apart := false }
def SpanNeedSaid : Prop := spanNeedRow.holds Try.pinned (OpenSpec.ofChange spanNeedSpec)

/-- ITS FALSE NEIGHBOUR: 'it returns false'. Refute it at one input. -/
def spanNeedWrong : ChangeSpec := { name := "spanNeed", fn := fun _ => fun
  | [d] => { results := [.lit (.bool false)], args := [d] }
  | _ => none }
def SpanNeedWrongFalsely : Prop := spanNeedRow.holds Try.pinned (OpenSpec.ofChange spanNeedWrong)

/-- 'lazaruslaw4.SpanApart': WHATEVER THE INPUT: true; the input reads as it did. -/
def spanApartSpec : ChangeSpec := { name := "spanApart", fn := fun _ => fun
  | [d] => { results := [.lit (.bool true)], args := [d] }
  | _ => none }
def spanApartRow : OpenClaim := { program := "ytnahlhabhipfmaa", sum := "85d3eea1187225a2c38d088351a91a029fb7272674857cf136a4b9f02ccaa537", func := "lazarus/lazaruslaw4.SpanApart", spec := "spanApart", unfollowed := true, recurses := true, apart := false }
def SpanApartSaid : Prop := spanApartRow.holds Try.pinned (OpenSpec.ofChange spanApartSpec)

/-- ITS FALSE NEIGHBOUR: 'it returns false'. Refute it at one input. -/
def spanApartWrong : ChangeSpec := { name := "spanApart", fn := fun _ => fun
  | [d] => { results := [.lit (.bool false)], args := [d] }
  | _ => none }
def SpanApartWrongFalsely : Prop := spanApartRow.holds Try.pinned (OpenSpec.ofChange spanApartWrong)

/-- 'lazaruslaw4.SpanRoom': WHATEVER THE INPUT: true; the input reads as it did. -/
def spanRoomSpec : ChangeSpec := { name := "spanRoom", fn := fun _ => fun
  | [d1, d2] => { results := [.lit (.bool true)], args := [d1, d2] }
  | _ => none }
def spanRoomRow : OpenClaim := { program := "ytnahlhabhipfmaa", sum := "85d3eea1187225a2c38d088351a91a029fb7272674857cf136a4b9f02ccaa537", func := "lazarus/lazaruslaw4.SpanRoom", spec := "spanRoom", unfollowed := true, recurses := true, apart := false }
def SpanRoomSaid : Prop := spanRoomRow.holds Try.pinned (OpenSpec.ofChange spanRoomSpec)

/-- ITS FALSE NEIGHBOUR: 'it returns false'. Refute it at one input. -/
def spanRoomWrong : ChangeSpec := { name := "spanRoom", fn := fun _ => fun
  | [d1, d2] => { results := [.lit (.bool false)], args := [d1, d2] }
  | _ => none }
def SpanRoomWrongFalsely : Prop := spanRoomRow.holds Try.pinned (OpenSpec.ofChange spanRoomWrong)

/-- 'lazaruslaw4.SpanCrash': WHATEVER THE INPUT: true; the input reads as it did. -/
def spanCrashSpec : ChangeSpec := { name := "spanCrash", fn := fun _ => fun
  | [d1, d2, d3, d4, d5, d6] => { results := [.lit (.bool true)], args := [d1, d2, d3, d4, d5, d6] }
  | _ => none }
def spanCrashRow : OpenClaim := { program := "ytnahlhabhipfmaa", sum := "85d3eea1187225a2c38d088351a91a029fb7272674857cf136a4b9f02ccaa537", func := "lazarus/lazaruslaw4.SpanCrash", spec := "spanCrash", unfollowed := true, recurses := true, apart := false }
def SpanCrashSaid : Prop := spanCrashRow.holds Try.pinned (OpenSpec.ofChange spanCrashSpec)

/-- ITS FALSE NEIGHBOUR: 'it returns false'. Refute it at one input. -/
def spanCrashWrong : ChangeSpec := { name := "spanCrash", fn := fun _ => fun
  | [d1, d2, d3, d4, d5, d6] => { results := [.lit (.bool false)], args := [d1, d2, d3, d4, d5, d6] }
  | _ => none }
def SpanCrashWrongFalsely : Prop := spanCrashRow.holds Try.pinned (OpenSpec.ofChange spanCrashWrong)

/- THE SECOND FORM. 'bulk': how many values and letters a reading holds, each counted each time it is reached (what is shared counts as often as it is met; a slice's spare places count too). A statement '..UptoSaid' is the law's where the arguments, and the package variables that the reading takes, are together of bulk at most 1048576: NARROWER than '..Said'. Prove '..Said' where nothing that the law and all that it calls make is longer than what came in: it says more and counts as full. Else prove '..UptoSaid'. A law counts once. -/
mutual
def uptoBulk {H : Type} : DataW H → Nat
  | .lit (.string bytes) => bytes.length + 1
  | .lit _ => 1
  | .nil => 1
  | .ptr d => uptoBulk d + 1
  | .slice elems spare => uptoBulkAll elems + uptoBulkAll spare + 1
  | .agg parts => uptoBulkAll parts + 1
  | .iface _ d => uptoBulk d + 1
  | .map entries => uptoBulkEntries entries + 1
  | .held _ => 1
def uptoBulkAll {H : Type} : List (DataW H) → Nat
  | [] => 0
  | d :: r => uptoBulk d + uptoBulkAll r
def uptoBulkEntries {H : Type} : List (Lit × DataW H) → Nat
  | [] => 0
  | x :: r => uptoBulkEntry x + uptoBulkEntries r
def uptoBulkEntry {H : Type} : Lit × DataW H → Nat
  | (.string bytes, d) => bytes.length + uptoBulk d + 1
  | (_, d) => uptoBulk d + 1
 end
def uptoSmall : (H : Type) → List (DataW H) → Bool := fun _ ds => decide (uptoBulkAll ds ≤ 1048576)
def OpenSpec.upto (s : _root_.Go.ChangeSpec) : _root_.Go.OpenSpec := { _root_.Go.OpenSpec.ofChange s with cond := some uptoSmall }

/-- 'lazaruslaw3.DiskOutside', WHERE WHAT IT READS IS OF BULK AT MOST 1048576: true; the input reads as it did. -/
def diskOutsideUptoRow : OpenClaim := { program := "ytnahlhabhipfmaa", sum := "85d3eea1187225a2c38d088351a91a029fb7272674857cf136a4b9f02ccaa537", func := "lazarus/lazaruslaw3.DiskOutside", spec := "diskOutside", unfollowed := true, recurses := true, apart := false, narrowed := true }
def DiskOutsideUptoSaid : Prop := diskOutsideUptoRow.holds Try.pinned (OpenSpec.upto diskOutsideSpec)

/-- 'lazaruslaw3.DiskLater', WHERE WHAT IT READS IS OF BULK AT MOST 1048576: true; the input reads as it did. -/
def diskLaterUptoRow : OpenClaim := { program := "ytnahlhabhipfmaa", sum := "85d3eea1187225a2c38d088351a91a029fb7272674857cf136a4b9f02ccaa537", func := "lazarus/lazaruslaw3.DiskLater", spec := "diskLater", unfollowed := true, recurses := true, apart := false, narrowed := true }
def DiskLaterUptoSaid : Prop := diskLaterUptoRow.holds Try.pinned (OpenSpec.upto diskLaterSpec)

/-- 'lazaruslaw3.DiskArms', WHERE WHAT IT READS IS OF BULK AT MOST 1048576: true; the input reads as it did. -/
def diskArmsUptoRow : OpenClaim := { program := "ytnahlhabhipfmaa", sum := "85d3eea1187225a2c38d088351a91a029fb7272674857cf136a4b9f02ccaa537", func := "lazarus/lazaruslaw3.DiskArms", spec := "diskArms", unfollowed := true, recurses := true, apart := false, narrowed := true }
def DiskArmsUptoSaid : Prop := diskArmsUptoRow.holds Try.pinned (OpenSpec.upto diskArmsSpec)

/-- 'lazaruslaw3.DiskFlushed', WHERE WHAT IT READS IS OF BULK AT MOST 1048576: true; the input reads as it did. -/
def diskFlushedUptoRow : OpenClaim := { program := "ytnahlhabhipfmaa", sum := "85d3eea1187225a2c38d088351a91a029fb7272674857cf136a4b9f02ccaa537", func := "lazarus/lazaruslaw3.DiskFlushed", spec := "diskFlushed", unfollowed := true, recurses := true, apart := false, narrowed := true }
def DiskFlushedUptoSaid : Prop := diskFlushedUptoRow.holds Try.pinned (OpenSpec.upto diskFlushedSpec)

/-- 'lazaruslaw3.DiskOwn', WHERE WHAT IT READS IS OF BULK AT MOST 1048576: true; the input reads as it did. -/
def diskOwnUptoRow : OpenClaim := { program := "ytnahlhabhipfmaa", sum := "85d3eea1187225a2c38d088351a91a029fb7272674857cf136a4b9f02ccaa537", func := "lazarus/lazaruslaw3.DiskOwn", spec := "diskOwn", unfollowed := true, recurses := true, apart := false, narrowed := true }
def DiskOwnUptoSaid : Prop := diskOwnUptoRow.holds Try.pinned (OpenSpec.upto diskOwnSpec)

/-- 'lazaruslaw4.SpanNeed', WHERE WHAT IT READS IS OF BULK AT MOST 1048576: true; the input reads as it did. -/
def spanNeedUptoRow : OpenClaim := { program := "ytnahlhabhipfmaa", sum := "85d3eea1187225a2c38d088351a91a029fb7272674857cf136a4b9f02ccaa537", func := "lazarus/lazaruslaw4.SpanNeed", spec := "spanNeed", unfollowed := true, recurses := true, apart := false, narrowed := true }
def SpanNeedUptoSaid : Prop := spanNeedUptoRow.holds Try.pinned (OpenSpec.upto spanNeedSpec)

/-- 'lazaruslaw4.SpanApart', WHERE WHAT IT READS IS OF BULK AT MOST 1048576: true; the input reads as it did. -/
def spanApartUptoRow : OpenClaim := { program := "ytnahlhabhipfmaa", sum := "85d3eea1187225a2c38d088351a91a029fb7272674857cf136a4b9f02ccaa537", func := "lazarus/lazaruslaw4.SpanApart", spec := "spanApart", unfollowed := true, recurses := true, apart := false, narrowed := true }
def SpanApartUptoSaid : Prop := spanApartUptoRow.holds Try.pinned (OpenSpec.upto spanApartSpec)

/-- 'lazaruslaw4.SpanRoom', WHERE WHAT IT READS IS OF BULK AT MOST 1048576: true; the input reads as it did. -/
def spanRoomUptoRow : OpenClaim := { program := "ytnahlhabhipfmaa", sum := "85d3eea1187225a2c38d088351a91a029fb7272674857cf136a4b9f02ccaa537", func := "lazarus/lazaruslaw4.SpanRoom", spec := "spanRoom", unfollowed := true, recurses := true, apart := false, narrowed := true }
def SpanRoomUptoSaid : Prop := spanRoomUptoRow.holds Try.pinned (OpenSpec.upto spanRoomSpec)

/-- 'lazaruslaw4.SpanCrash', WHERE WHAT IT READS IS OF BULK AT MOST 1048576: true; the input reads as it did. -/
def spanCrashUptoRow : OpenClaim := { program := "ytnahlhabhipfmaa", sum := "85d3eea1187225a2c38d088351a91a029fb7272674857cf136a4b9f02ccaa537", func := "lazarus/lazaruslaw4.SpanCrash", spec := "spanCrash", unfollowed := true, recurses := true, apart := false, narrowed := true }
def SpanCrashUptoSaid : Prop := spanCrashUptoRow.holds Try.pinned (OpenSpec.upto spanCrashSpec)

end Rows
end Go.Proofs.Ytnahlhabhipfmaa
