/-
  NARROWER THAN 'FOR EVERY INPUT', by the rows' own cells (each row's printed sentence says how): GlyphNames: laid · GlyphLetters: laid · GlyphTells: laid · GlyphJoin: laid · GlobStar: laid · GlobSelf: laid · SplitQuote: laid · SplitFields: laid.
  DERIVED. THE GIVEN ROWS OF THIS SEAT. 8 by the template 'for every input the law returns true; each argument reads behind the call as it read before'; 0 by the template 'total and deterministic' (their statements: YtnhmfeihnjdcpaaDoorTotals.lean).
  GIVEN WITH THE SEED: the statements are not yours to turn. If you find one false, say at which input.
  Laid BY PROGRAM, IN A SANDBOX (cutbox-rows.mjs): the forced cells as the released guide's own fill.sh prints them over the translation a405f48997bd6de9… (all of the seat's roots in one cut). By AI agents, Wed Nov 11 2026. No macro, syntax, notation, axiom, sorry.
-/
import Derived.Test.YtnhmfeihnjdcpaaDoorChecked
import GoSem.PinnedTables
import GoSem.Claim
import GoSem.ClaimJoined
import GoSem.ClaimMapViews
import Derived.JoinedTies
import Derived.KernelRfl
namespace Go.Proofs.YtnhmfeihnjdcpaaDoor
/- THE CELL 'sum', in the pinned program and in every row, IS THE sha256 OF THE DUMP (.gsa) THAT YtnhmfeihnjdcpaaDoorProg.lean LOADS. Nothing in Lean hashes anything: it is a label: what it is worth is what the hold of that sum in a sandbox is worth. -/
noncomputable def Tryd.pinned : Pinned := { name := "ytnhmfeihnjdcpaadoor", sum := "a405f48997bd6de929ed6612294f8f2ab3a93c7f5521f44408f1ca6c0cfc5735", checked := Tryd.checked }
namespace Rows
def none {H : Type} : Left H := { results := [], args := [] }

/- WHAT THE LISTED PACKAGE-LEVEL VARIABLES READ AS WHEN THE CALL BEGINS. Each datum BY PROGRAM (the guide's laid-datum.mjs) off the statement by which the dump's own 'gosem.cut.vars' lays the variable. In a bare row this is a premise. The card (YtnhmfeihnjdcpaaDoorCards.lean) ties it to the program's text. -/
def laid_unicode_utf8_acceptRanges {H : Type} : DataW H := .agg [.agg [.lit (.int .u8 128), .lit (.int .u8 191)], .agg [.lit (.int .u8 160), .lit (.int .u8 191)], .agg [.lit (.int .u8 128), .lit (.int .u8 159)], .agg [.lit (.int .u8 144), .lit (.int .u8 191)], .agg [.lit (.int .u8 128), .lit (.int .u8 143)], .agg [.lit (.int .u8 0), .lit (.int .u8 0)], .agg [.lit (.int .u8 0), .lit (.int .u8 0)], .agg [.lit (.int .u8 0), .lit (.int .u8 0)], .agg [.lit (.int .u8 0), .lit (.int .u8 0)], .agg [.lit (.int .u8 0), .lit (.int .u8 0)], .agg [.lit (.int .u8 0), .lit (.int .u8 0)], .agg [.lit (.int .u8 0), .lit (.int .u8 0)], .agg [.lit (.int .u8 0), .lit (.int .u8 0)], .agg [.lit (.int .u8 0), .lit (.int .u8 0)], .agg [.lit (.int .u8 0), .lit (.int .u8 0)], .agg [.lit (.int .u8 0), .lit (.int .u8 0)]]
/-- One of Go's own tables, pinned by name: the form's constant. -/
def laid_unicode_utf8_first : DataW Unit := Go.Pinned.utf8First

/-- 'lazaruslaw7.GlyphNames': WHATEVER THE INPUT: true; the input reads as it did. -/
def glyphNamesSpec : ChangeSpec := { name := "glyphNames", fn := fun _ => fun
  | [d1, d2] => { results := [.lit (.bool true)], args := [d1, d2] }
  | _ => none }
def glyphNamesRow : OpenClaim := { program := "ytnhmfeihnjdcpaadoor", sum := "a405f48997bd6de929ed6612294f8f2ab3a93c7f5521f44408f1ca6c0cfc5735", func := "lazarus/lazaruslaw7.GlyphNames", spec := "glyphNames", named := ["unicode/utf8.first", "unicode/utf8.acceptRanges"], apart := false, laid := [("unicode/utf8.acceptRanges", laid_unicode_utf8_acceptRanges), ("unicode/utf8.first", laid_unicode_utf8_first)] }
def GlyphNamesSaid : Prop := glyphNamesRow.holds Tryd.pinned (OpenSpec.ofChange glyphNamesSpec)

/-- ITS FALSE NEIGHBOUR: 'it returns false'. Refute it at one input. -/
def glyphNamesWrong : ChangeSpec := { name := "glyphNames", fn := fun _ => fun
  | [d1, d2] => { results := [.lit (.bool false)], args := [d1, d2] }
  | _ => none }
def GlyphNamesWrongFalsely : Prop := glyphNamesRow.holds Tryd.pinned (OpenSpec.ofChange glyphNamesWrong)

/-- 'lazaruslaw7.GlyphLetters': WHATEVER THE INPUT: true; the input reads as it did. -/
def glyphLettersSpec : ChangeSpec := { name := "glyphLetters", fn := fun _ => fun
  | [d] => { results := [.lit (.bool true)], args := [d] }
  | _ => none }
def glyphLettersRow : OpenClaim := { program := "ytnhmfeihnjdcpaadoor", sum := "a405f48997bd6de929ed6612294f8f2ab3a93c7f5521f44408f1ca6c0cfc5735", func := "lazarus/lazaruslaw7.GlyphLetters", spec := "glyphLetters", named := ["unicode/utf8.first", "unicode/utf8.acceptRanges"], apart := false, laid := [("unicode/utf8.acceptRanges", laid_unicode_utf8_acceptRanges), ("unicode/utf8.first", laid_unicode_utf8_first)] }
def GlyphLettersSaid : Prop := glyphLettersRow.holds Tryd.pinned (OpenSpec.ofChange glyphLettersSpec)

/-- ITS FALSE NEIGHBOUR: 'it returns false'. Refute it at one input. -/
def glyphLettersWrong : ChangeSpec := { name := "glyphLetters", fn := fun _ => fun
  | [d] => { results := [.lit (.bool false)], args := [d] }
  | _ => none }
def GlyphLettersWrongFalsely : Prop := glyphLettersRow.holds Tryd.pinned (OpenSpec.ofChange glyphLettersWrong)

/-- 'lazaruslaw7.GlyphTells': WHATEVER THE INPUT: true; the input reads as it did. -/
def glyphTellsSpec : ChangeSpec := { name := "glyphTells", fn := fun _ => fun
  | [d] => { results := [.lit (.bool true)], args := [d] }
  | _ => none }
def glyphTellsRow : OpenClaim := { program := "ytnhmfeihnjdcpaadoor", sum := "a405f48997bd6de929ed6612294f8f2ab3a93c7f5521f44408f1ca6c0cfc5735", func := "lazarus/lazaruslaw7.GlyphTells", spec := "glyphTells", named := ["unicode/utf8.first", "unicode/utf8.acceptRanges"], apart := false, laid := [("unicode/utf8.acceptRanges", laid_unicode_utf8_acceptRanges), ("unicode/utf8.first", laid_unicode_utf8_first)] }
def GlyphTellsSaid : Prop := glyphTellsRow.holds Tryd.pinned (OpenSpec.ofChange glyphTellsSpec)

/-- ITS FALSE NEIGHBOUR: 'it returns false'. Refute it at one input. -/
def glyphTellsWrong : ChangeSpec := { name := "glyphTells", fn := fun _ => fun
  | [d] => { results := [.lit (.bool false)], args := [d] }
  | _ => none }
def GlyphTellsWrongFalsely : Prop := glyphTellsRow.holds Tryd.pinned (OpenSpec.ofChange glyphTellsWrong)

/-- 'lazaruslaw7.GlyphJoin': WHATEVER THE INPUT: true; the input reads as it did. -/
def glyphJoinSpec : ChangeSpec := { name := "glyphJoin", fn := fun _ => fun
  | [d1, d2] => { results := [.lit (.bool true)], args := [d1, d2] }
  | _ => none }
def glyphJoinRow : OpenClaim := { program := "ytnhmfeihnjdcpaadoor", sum := "a405f48997bd6de929ed6612294f8f2ab3a93c7f5521f44408f1ca6c0cfc5735", func := "lazarus/lazaruslaw7.GlyphJoin", spec := "glyphJoin", named := ["unicode/utf8.first", "unicode/utf8.acceptRanges"], apart := false, laid := [("unicode/utf8.acceptRanges", laid_unicode_utf8_acceptRanges), ("unicode/utf8.first", laid_unicode_utf8_first)] }
def GlyphJoinSaid : Prop := glyphJoinRow.holds Tryd.pinned (OpenSpec.ofChange glyphJoinSpec)

/-- ITS FALSE NEIGHBOUR: 'it returns false'. Refute it at one input. -/
def glyphJoinWrong : ChangeSpec := { name := "glyphJoin", fn := fun _ => fun
  | [d1, d2] => { results := [.lit (.bool false)], args := [d1, d2] }
  | _ => none }
def GlyphJoinWrongFalsely : Prop := glyphJoinRow.holds Tryd.pinned (OpenSpec.ofChange glyphJoinWrong)

/-- 'lazaruslaw13.GlobStar': WHATEVER THE INPUT: true; the input reads as it did. -/
def globStarSpec : ChangeSpec := { name := "globStar", fn := fun _ => fun
  | [d1, d2] => { results := [.lit (.bool true)], args := [d1, d2] }
  | _ => none }
def globStarRow : OpenClaim := { program := "ytnhmfeihnjdcpaadoor", sum := "a405f48997bd6de929ed6612294f8f2ab3a93c7f5521f44408f1ca6c0cfc5735", func := "lazarus/lazaruslaw13.GlobStar", spec := "globStar", unfollowed := true, recurses := true, named := ["unicode/utf8.first", "unicode/utf8.acceptRanges"], apart := false, laid := [("unicode/utf8.acceptRanges", laid_unicode_utf8_acceptRanges), ("unicode/utf8.first", laid_unicode_utf8_first)] }
def GlobStarSaid : Prop := globStarRow.holds Tryd.pinned (OpenSpec.ofChange globStarSpec)

/-- ITS FALSE NEIGHBOUR: 'it returns false'. Refute it at one input. -/
def globStarWrong : ChangeSpec := { name := "globStar", fn := fun _ => fun
  | [d1, d2] => { results := [.lit (.bool false)], args := [d1, d2] }
  | _ => none }
def GlobStarWrongFalsely : Prop := globStarRow.holds Tryd.pinned (OpenSpec.ofChange globStarWrong)

/-- 'lazaruslaw13.GlobSelf': WHATEVER THE INPUT: true; the input reads as it did. -/
def globSelfSpec : ChangeSpec := { name := "globSelf", fn := fun _ => fun
  | [d1, d2] => { results := [.lit (.bool true)], args := [d1, d2] }
  | _ => none }
def globSelfRow : OpenClaim := { program := "ytnhmfeihnjdcpaadoor", sum := "a405f48997bd6de929ed6612294f8f2ab3a93c7f5521f44408f1ca6c0cfc5735", func := "lazarus/lazaruslaw13.GlobSelf", spec := "globSelf", unfollowed := true, recurses := true, named := ["unicode/utf8.first", "unicode/utf8.acceptRanges"], apart := false, laid := [("unicode/utf8.acceptRanges", laid_unicode_utf8_acceptRanges), ("unicode/utf8.first", laid_unicode_utf8_first)] }
def GlobSelfSaid : Prop := globSelfRow.holds Tryd.pinned (OpenSpec.ofChange globSelfSpec)

/-- ITS FALSE NEIGHBOUR: 'it returns false'. Refute it at one input. -/
def globSelfWrong : ChangeSpec := { name := "globSelf", fn := fun _ => fun
  | [d1, d2] => { results := [.lit (.bool false)], args := [d1, d2] }
  | _ => none }
def GlobSelfWrongFalsely : Prop := globSelfRow.holds Tryd.pinned (OpenSpec.ofChange globSelfWrong)

/-- 'lazaruslaw15.SplitQuote': WHATEVER THE INPUT: true; the input reads as it did. -/
def splitQuoteSpec : ChangeSpec := { name := "splitQuote", fn := fun _ => fun
  | [d] => { results := [.lit (.bool true)], args := [d] }
  | _ => none }
def splitQuoteRow : OpenClaim := { program := "ytnhmfeihnjdcpaadoor", sum := "a405f48997bd6de929ed6612294f8f2ab3a93c7f5521f44408f1ca6c0cfc5735", func := "lazarus/lazaruslaw15.SplitQuote", spec := "splitQuote", named := ["unicode/utf8.first", "unicode/utf8.acceptRanges"], apart := false, laid := [("unicode/utf8.acceptRanges", laid_unicode_utf8_acceptRanges), ("unicode/utf8.first", laid_unicode_utf8_first)] }
def SplitQuoteSaid : Prop := splitQuoteRow.holds Tryd.pinned (OpenSpec.ofChange splitQuoteSpec)

/-- ITS FALSE NEIGHBOUR: 'it returns false'. Refute it at one input. -/
def splitQuoteWrong : ChangeSpec := { name := "splitQuote", fn := fun _ => fun
  | [d] => { results := [.lit (.bool false)], args := [d] }
  | _ => none }
def SplitQuoteWrongFalsely : Prop := splitQuoteRow.holds Tryd.pinned (OpenSpec.ofChange splitQuoteWrong)

/-- 'lazaruslaw15.SplitFields': WHATEVER THE INPUT: true; the input reads as it did. -/
def splitFieldsSpec : ChangeSpec := { name := "splitFields", fn := fun _ => fun
  | [d] => { results := [.lit (.bool true)], args := [d] }
  | _ => none }
def splitFieldsRow : OpenClaim := { program := "ytnhmfeihnjdcpaadoor", sum := "a405f48997bd6de929ed6612294f8f2ab3a93c7f5521f44408f1ca6c0cfc5735", func := "lazarus/lazaruslaw15.SplitFields", spec := "splitFields", named := ["unicode/utf8.first", "unicode/utf8.acceptRanges"], apart := false, laid := [("unicode/utf8.acceptRanges", laid_unicode_utf8_acceptRanges), ("unicode/utf8.first", laid_unicode_utf8_first)] }
def SplitFieldsSaid : Prop := splitFieldsRow.holds Tryd.pinned (OpenSpec.ofChange splitFieldsSpec)

/-- ITS FALSE NEIGHBOUR: 'it returns false'. Refute it at one input. -/
def splitFieldsWrong : ChangeSpec := { name := "splitFields", fn := fun _ => fun
  | [d] => { results := [.lit (.bool false)], args := [d] }
  | _ => none }
def SplitFieldsWrongFalsely : Prop := splitFieldsRow.holds Tryd.pinned (OpenSpec.ofChange splitFieldsWrong)

/- THE SECOND FORM. 'bulk': how many values and letters a reading holds, each counted each time it is reached (what is shared counts as often as it is met; a slice's spare places count too). A statement '..UptoSaid' is the law's where the arguments, and the package variables that the reading takes, are together of bulk at most 1048576: NARROWER than '..Said'. Prove '..Said' where nothing that the law and all that it calls make is longer than what came in: it says more and counts as full. Else prove '..UptoSaid'. A law counts once. -/
mutual
def uptoBulk {H : Type} : DataW H → Nat
  | .lit (.string bytes) => bytes.length + 1
  | .lit _ => 1
  | .nil => 1
  | .ptr d => uptoBulk d + 1
  | .slice elems spare => uptoBulkAll elems + uptoBulkAll spare + 1
  | .agg parts => uptoBulkAll parts + 1
  | .iface _ d => uptoBulk d + 1
  | .map entries => uptoBulkEntries entries + 1
  | .held _ => 1
def uptoBulkAll {H : Type} : List (DataW H) → Nat
  | [] => 0
  | d :: r => uptoBulk d + uptoBulkAll r
def uptoBulkEntries {H : Type} : List (Lit × DataW H) → Nat
  | [] => 0
  | x :: r => uptoBulkEntry x + uptoBulkEntries r
def uptoBulkEntry {H : Type} : Lit × DataW H → Nat
  | (.string bytes, d) => bytes.length + uptoBulk d + 1
  | (_, d) => uptoBulk d + 1
 end
def uptoSmall : (H : Type) → List (DataW H) → Bool := fun _ ds => decide (uptoBulkAll ds ≤ 1048576)
def OpenSpec.upto (s : _root_.Go.ChangeSpec) : _root_.Go.OpenSpec := { _root_.Go.OpenSpec.ofChange s with cond := some uptoSmall }

/-- 'lazaruslaw7.GlyphNames', WHERE WHAT IT READS IS OF BULK AT MOST 1048576: true; the input reads as it did. -/
def glyphNamesUptoRow : OpenClaim := { program := "ytnhmfeihnjdcpaadoor", sum := "a405f48997bd6de929ed6612294f8f2ab3a93c7f5521f44408f1ca6c0cfc5735", func := "lazarus/lazaruslaw7.GlyphNames", spec := "glyphNames", named := ["unicode/utf8.first", "unicode/utf8.acceptRanges"], apart := false, laid := [("unicode/utf8.acceptRanges", laid_unicode_utf8_acceptRanges), ("unicode/utf8.first", laid_unicode_utf8_first)], narrowed := true }
def GlyphNamesUptoSaid : Prop := glyphNamesUptoRow.holds Tryd.pinned (OpenSpec.upto glyphNamesSpec)

/-- 'lazaruslaw7.GlyphLetters', WHERE WHAT IT READS IS OF BULK AT MOST 1048576: true; the input reads as it did. -/
def glyphLettersUptoRow : OpenClaim := { program := "ytnhmfeihnjdcpaadoor", sum := "a405f48997bd6de929ed6612294f8f2ab3a93c7f5521f44408f1ca6c0cfc5735", func := "lazarus/lazaruslaw7.GlyphLetters", spec := "glyphLetters", named := ["unicode/utf8.first", "unicode/utf8.acceptRanges"], apart := false, laid := [("unicode/utf8.acceptRanges", laid_unicode_utf8_acceptRanges), ("unicode/utf8.first", laid_unicode_utf8_first)], narrowed := true }
def GlyphLettersUptoSaid : Prop := glyphLettersUptoRow.holds Tryd.pinned (OpenSpec.upto glyphLettersSpec)

/-- 'lazaruslaw7.GlyphTells', WHERE WHAT IT READS IS OF BULK AT MOST 1048576: true; the input reads as it did. -/
def glyphTellsUptoRow : OpenClaim := { program := "ytnhmfeihnjdcpaadoor", sum := "a405f48997bd6de929ed6612294f8f2ab3a93c7f5521f44408f1ca6c0cfc5735", func := "lazarus/lazaruslaw7.GlyphTells", spec := "glyphTells", named := ["unicode/utf8.first", "unicode/utf8.acceptRanges"], apart := false, laid := [("unicode/utf8.acceptRanges", laid_unicode_utf8_acceptRanges), ("unicode/utf8.first", laid_unicode_utf8_first)], narrowed := true }
def GlyphTellsUptoSaid : Prop := glyphTellsUptoRow.holds Tryd.pinned (OpenSpec.upto glyphTellsSpec)

/-- 'lazaruslaw7.GlyphJoin', WHERE WHAT IT READS IS OF BULK AT MOST 1048576: true; the input reads as it did. -/
def glyphJoinUptoRow : OpenClaim := { program := "ytnhmfeihnjdcpaadoor", sum := "a405f48997bd6de929ed6612294f8f2ab3a93c7f5521f44408f1ca6c0cfc5735", func := "lazarus/lazaruslaw7.GlyphJoin", spec := "glyphJoin", named := ["unicode/utf8.first", "unicode/utf8.acceptRanges"], apart := false, laid := [("unicode/utf8.acceptRanges", laid_unicode_utf8_acceptRanges), ("unicode/utf8.first", laid_unicode_utf8_first)], narrowed := true }
def GlyphJoinUptoSaid : Prop := glyphJoinUptoRow.holds Tryd.pinned (OpenSpec.upto glyphJoinSpec)

/-- 'lazaruslaw13.GlobStar', WHERE WHAT IT READS IS OF BULK AT MOST 1048576: true; the input reads as it did. -/
def globStarUptoRow : OpenClaim := { program := "ytnhmfeihnjdcpaadoor", sum := "a405f48997bd6de929ed6612294f8f2ab3a93c7f5521f44408f1ca6c0cfc5735", func := "lazarus/lazaruslaw13.GlobStar", spec := "globStar", unfollowed := true, recurses := true, named := ["unicode/utf8.first", "unicode/utf8.acceptRanges"], apart := false, laid := [("unicode/utf8.acceptRanges", laid_unicode_utf8_acceptRanges), ("unicode/utf8.first", laid_unicode_utf8_first)], narrowed := true }
def GlobStarUptoSaid : Prop := globStarUptoRow.holds Tryd.pinned (OpenSpec.upto globStarSpec)

/-- 'lazaruslaw13.GlobSelf', WHERE WHAT IT READS IS OF BULK AT MOST 1048576: true; the input reads as it did. -/
def globSelfUptoRow : OpenClaim := { program := "ytnhmfeihnjdcpaadoor", sum := "a405f48997bd6de929ed6612294f8f2ab3a93c7f5521f44408f1ca6c0cfc5735", func := "lazarus/lazaruslaw13.GlobSelf", spec := "globSelf", unfollowed := true, recurses := true, named := ["unicode/utf8.first", "unicode/utf8.acceptRanges"], apart := false, laid := [("unicode/utf8.acceptRanges", laid_unicode_utf8_acceptRanges), ("unicode/utf8.first", laid_unicode_utf8_first)], narrowed := true }
def GlobSelfUptoSaid : Prop := globSelfUptoRow.holds Tryd.pinned (OpenSpec.upto globSelfSpec)

/-- 'lazaruslaw15.SplitQuote', WHERE WHAT IT READS IS OF BULK AT MOST 1048576: true; the input reads as it did. -/
def splitQuoteUptoRow : OpenClaim := { program := "ytnhmfeihnjdcpaadoor", sum := "a405f48997bd6de929ed6612294f8f2ab3a93c7f5521f44408f1ca6c0cfc5735", func := "lazarus/lazaruslaw15.SplitQuote", spec := "splitQuote", named := ["unicode/utf8.first", "unicode/utf8.acceptRanges"], apart := false, laid := [("unicode/utf8.acceptRanges", laid_unicode_utf8_acceptRanges), ("unicode/utf8.first", laid_unicode_utf8_first)], narrowed := true }
def SplitQuoteUptoSaid : Prop := splitQuoteUptoRow.holds Tryd.pinned (OpenSpec.upto splitQuoteSpec)

/-- 'lazaruslaw15.SplitFields', WHERE WHAT IT READS IS OF BULK AT MOST 1048576: true; the input reads as it did. -/
def splitFieldsUptoRow : OpenClaim := { program := "ytnhmfeihnjdcpaadoor", sum := "a405f48997bd6de929ed6612294f8f2ab3a93c7f5521f44408f1ca6c0cfc5735", func := "lazarus/lazaruslaw15.SplitFields", spec := "splitFields", named := ["unicode/utf8.first", "unicode/utf8.acceptRanges"], apart := false, laid := [("unicode/utf8.acceptRanges", laid_unicode_utf8_acceptRanges), ("unicode/utf8.first", laid_unicode_utf8_first)], narrowed := true }
def SplitFieldsUptoSaid : Prop := splitFieldsUptoRow.holds Tryd.pinned (OpenSpec.upto splitFieldsSpec)

end Rows
end Go.Proofs.YtnhmfeihnjdcpaaDoor
