/-
  DERIVED. GIVEN WITH THE SEED: THE CARDS: each row of YtnhmfeihnjdcpaaDoorRows.lean that lists a variable, with what it lists TIED to the program's text (the seventh form; the later family's looks); each row that meets fmt, with fmt's text TOLD by the authors' own Lean function (tested against real Go, not proved from fmt's source: count such statements apart). THE CARD IS WHAT COUNTS. Prove the row's statement (the work); the ties are given (YtnhmfeihnjdcpaaDoorTie.lean); close each card by the builder's one call (the guide's Derived/Test/ToyasCard.lean, 'card_holds'). Laid BY PROGRAM, IN A SANDBOX (cutbox-door.mjs). By AI agents, Wed Nov 11 2026. No macro, syntax, notation, axiom, sorry.
-/
import Derived.Test.YtnhmfeihnjdcpaaDoorRows
import GoSem.ClaimSeven
namespace Go.Proofs.YtnhmfeihnjdcpaaDoor
namespace Rows

/-- THE TIED CARD OF 'lazaruslaw7.GlyphNames'. -/
def glyphNamesCard : Claim7 := { stood := { row := glyphNamesRow, standIns := [], harness := (true, "c46cd8c79482ec4d9f7e00f15c05df5010ce2808f13dafbf85f5bfe075b5287e"), looks := false }, kinds := [], alts := [], laidByText := true, laidKinds := [.data, .pinned], laidTests := true, laidLooks := .later }
def GlyphNamesCardSaid : Prop := Claim7.holds Tryd.pinned (.plain (OpenSpec.ofChange glyphNamesSpec)) glyphNamesCard

/-- THE TIED CARD OF 'lazaruslaw7.GlyphLetters'. -/
def glyphLettersCard : Claim7 := { stood := { row := glyphLettersRow, standIns := [], harness := (true, "c46cd8c79482ec4d9f7e00f15c05df5010ce2808f13dafbf85f5bfe075b5287e"), looks := false }, kinds := [], alts := [], laidByText := true, laidKinds := [.data, .pinned], laidTests := true, laidLooks := .later }
def GlyphLettersCardSaid : Prop := Claim7.holds Tryd.pinned (.plain (OpenSpec.ofChange glyphLettersSpec)) glyphLettersCard

/-- THE TIED CARD OF 'lazaruslaw7.GlyphTells'. -/
def glyphTellsCard : Claim7 := { stood := { row := glyphTellsRow, standIns := [], harness := (true, "c46cd8c79482ec4d9f7e00f15c05df5010ce2808f13dafbf85f5bfe075b5287e"), looks := false }, kinds := [], alts := [], laidByText := true, laidKinds := [.data, .pinned], laidTests := true, laidLooks := .later }
def GlyphTellsCardSaid : Prop := Claim7.holds Tryd.pinned (.plain (OpenSpec.ofChange glyphTellsSpec)) glyphTellsCard

/-- THE TIED CARD OF 'lazaruslaw7.GlyphJoin'. -/
def glyphJoinCard : Claim7 := { stood := { row := glyphJoinRow, standIns := [], harness := (true, "c46cd8c79482ec4d9f7e00f15c05df5010ce2808f13dafbf85f5bfe075b5287e"), looks := false }, kinds := [], alts := [], laidByText := true, laidKinds := [.data, .pinned], laidTests := true, laidLooks := .later }
def GlyphJoinCardSaid : Prop := Claim7.holds Tryd.pinned (.plain (OpenSpec.ofChange glyphJoinSpec)) glyphJoinCard

/-- THE TIED CARD OF 'lazaruslaw13.GlobStar'. -/
def globStarCard : Claim7 := { stood := { row := globStarRow, standIns := [], harness := (true, "c46cd8c79482ec4d9f7e00f15c05df5010ce2808f13dafbf85f5bfe075b5287e"), looks := false }, kinds := [], alts := [], laidByText := true, laidKinds := [.data, .pinned], laidTests := true, laidLooks := .later }
def GlobStarCardSaid : Prop := Claim7.holds Tryd.pinned (.plain (OpenSpec.ofChange globStarSpec)) globStarCard

/-- THE TIED CARD OF 'lazaruslaw13.GlobSelf'. -/
def globSelfCard : Claim7 := { stood := { row := globSelfRow, standIns := [], harness := (true, "c46cd8c79482ec4d9f7e00f15c05df5010ce2808f13dafbf85f5bfe075b5287e"), looks := false }, kinds := [], alts := [], laidByText := true, laidKinds := [.data, .pinned], laidTests := true, laidLooks := .later }
def GlobSelfCardSaid : Prop := Claim7.holds Tryd.pinned (.plain (OpenSpec.ofChange globSelfSpec)) globSelfCard

/-- THE TIED CARD OF 'lazaruslaw15.SplitQuote'. -/
def splitQuoteCard : Claim7 := { stood := { row := splitQuoteRow, standIns := [], harness := (true, "c46cd8c79482ec4d9f7e00f15c05df5010ce2808f13dafbf85f5bfe075b5287e"), looks := false }, kinds := [], alts := [], laidByText := true, laidKinds := [.data, .pinned], laidTests := true, laidLooks := .later }
def SplitQuoteCardSaid : Prop := Claim7.holds Tryd.pinned (.plain (OpenSpec.ofChange splitQuoteSpec)) splitQuoteCard

/-- THE TIED CARD OF 'lazaruslaw15.SplitFields'. -/
def splitFieldsCard : Claim7 := { stood := { row := splitFieldsRow, standIns := [], harness := (true, "c46cd8c79482ec4d9f7e00f15c05df5010ce2808f13dafbf85f5bfe075b5287e"), looks := false }, kinds := [], alts := [], laidByText := true, laidKinds := [.data, .pinned], laidTests := true, laidLooks := .later }
def SplitFieldsCardSaid : Prop := Claim7.holds Tryd.pinned (.plain (OpenSpec.ofChange splitFieldsSpec)) splitFieldsCard

/-- THE SECOND FORM's CARD OF 'lazaruslaw7.GlyphNames'. -/
def glyphNamesUptoCard : Claim7 := { stood := { row := glyphNamesUptoRow, standIns := [], harness := (true, "c46cd8c79482ec4d9f7e00f15c05df5010ce2808f13dafbf85f5bfe075b5287e"), looks := false }, kinds := [], alts := [], laidByText := true, laidKinds := [.data, .pinned], laidTests := true, laidLooks := .later }
def GlyphNamesUptoCardSaid : Prop := Claim7.holds Tryd.pinned (.plain (OpenSpec.upto glyphNamesSpec)) glyphNamesUptoCard

/-- THE SECOND FORM's CARD OF 'lazaruslaw7.GlyphLetters'. -/
def glyphLettersUptoCard : Claim7 := { stood := { row := glyphLettersUptoRow, standIns := [], harness := (true, "c46cd8c79482ec4d9f7e00f15c05df5010ce2808f13dafbf85f5bfe075b5287e"), looks := false }, kinds := [], alts := [], laidByText := true, laidKinds := [.data, .pinned], laidTests := true, laidLooks := .later }
def GlyphLettersUptoCardSaid : Prop := Claim7.holds Tryd.pinned (.plain (OpenSpec.upto glyphLettersSpec)) glyphLettersUptoCard

/-- THE SECOND FORM's CARD OF 'lazaruslaw7.GlyphTells'. -/
def glyphTellsUptoCard : Claim7 := { stood := { row := glyphTellsUptoRow, standIns := [], harness := (true, "c46cd8c79482ec4d9f7e00f15c05df5010ce2808f13dafbf85f5bfe075b5287e"), looks := false }, kinds := [], alts := [], laidByText := true, laidKinds := [.data, .pinned], laidTests := true, laidLooks := .later }
def GlyphTellsUptoCardSaid : Prop := Claim7.holds Tryd.pinned (.plain (OpenSpec.upto glyphTellsSpec)) glyphTellsUptoCard

/-- THE SECOND FORM's CARD OF 'lazaruslaw7.GlyphJoin'. -/
def glyphJoinUptoCard : Claim7 := { stood := { row := glyphJoinUptoRow, standIns := [], harness := (true, "c46cd8c79482ec4d9f7e00f15c05df5010ce2808f13dafbf85f5bfe075b5287e"), looks := false }, kinds := [], alts := [], laidByText := true, laidKinds := [.data, .pinned], laidTests := true, laidLooks := .later }
def GlyphJoinUptoCardSaid : Prop := Claim7.holds Tryd.pinned (.plain (OpenSpec.upto glyphJoinSpec)) glyphJoinUptoCard

/-- THE SECOND FORM's CARD OF 'lazaruslaw13.GlobStar'. -/
def globStarUptoCard : Claim7 := { stood := { row := globStarUptoRow, standIns := [], harness := (true, "c46cd8c79482ec4d9f7e00f15c05df5010ce2808f13dafbf85f5bfe075b5287e"), looks := false }, kinds := [], alts := [], laidByText := true, laidKinds := [.data, .pinned], laidTests := true, laidLooks := .later }
def GlobStarUptoCardSaid : Prop := Claim7.holds Tryd.pinned (.plain (OpenSpec.upto globStarSpec)) globStarUptoCard

/-- THE SECOND FORM's CARD OF 'lazaruslaw13.GlobSelf'. -/
def globSelfUptoCard : Claim7 := { stood := { row := globSelfUptoRow, standIns := [], harness := (true, "c46cd8c79482ec4d9f7e00f15c05df5010ce2808f13dafbf85f5bfe075b5287e"), looks := false }, kinds := [], alts := [], laidByText := true, laidKinds := [.data, .pinned], laidTests := true, laidLooks := .later }
def GlobSelfUptoCardSaid : Prop := Claim7.holds Tryd.pinned (.plain (OpenSpec.upto globSelfSpec)) globSelfUptoCard

/-- THE SECOND FORM's CARD OF 'lazaruslaw15.SplitQuote'. -/
def splitQuoteUptoCard : Claim7 := { stood := { row := splitQuoteUptoRow, standIns := [], harness := (true, "c46cd8c79482ec4d9f7e00f15c05df5010ce2808f13dafbf85f5bfe075b5287e"), looks := false }, kinds := [], alts := [], laidByText := true, laidKinds := [.data, .pinned], laidTests := true, laidLooks := .later }
def SplitQuoteUptoCardSaid : Prop := Claim7.holds Tryd.pinned (.plain (OpenSpec.upto splitQuoteSpec)) splitQuoteUptoCard

/-- THE SECOND FORM's CARD OF 'lazaruslaw15.SplitFields'. -/
def splitFieldsUptoCard : Claim7 := { stood := { row := splitFieldsUptoRow, standIns := [], harness := (true, "c46cd8c79482ec4d9f7e00f15c05df5010ce2808f13dafbf85f5bfe075b5287e"), looks := false }, kinds := [], alts := [], laidByText := true, laidKinds := [.data, .pinned], laidTests := true, laidLooks := .later }
def SplitFieldsUptoCardSaid : Prop := Claim7.holds Tryd.pinned (.plain (OpenSpec.upto splitFieldsSpec)) splitFieldsUptoCard
end Rows
end Go.Proofs.YtnhmfeihnjdcpaaDoor
