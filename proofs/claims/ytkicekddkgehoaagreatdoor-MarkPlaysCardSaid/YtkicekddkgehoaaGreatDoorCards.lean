/-
  DERIVED. GIVEN WITH THE SEED: THE CARDS: each row of YtkicekddkgehoaaGreatDoorRows.lean that lists a variable, with what it lists TIED to the program's text (the seventh form; the later family's looks); each row that meets fmt, with fmt's text TOLD by the authors' own Lean function (tested against real Go, not proved from fmt's source: count such statements apart). THE CARD IS WHAT COUNTS. Prove the row's statement (the work); the ties are given (YtkicekddkgehoaaGreatDoorTie.lean); close each card by the builder's one call (the guide's Derived/Test/ToyasCard.lean, 'card_holds'). Laid BY PROGRAM, IN A SANDBOX (cutbox-door.mjs). By AI agents, Wed Nov 11 2026. No macro, syntax, notation, axiom, sorry.
-/
import Derived.Test.YtkicekddkgehoaaGreatDoorRows
import GoSem.ClaimSeven
namespace Go.Proofs.YtkicekddkgehoaaGreatDoor
namespace Rows

/-- THE TIED CARD OF 'lazaruslaw6.MarkPlays'. -/
def markPlaysCard : Claim7 := { stood := { row := markPlaysRow, standIns := [], harness := (true, "1efb9e4f599927e686f8109174be0c0b2f11523ed58632c0c33a5ee5d5d0e83d"), looks := true }, kinds := [], alts := [], laidByText := true, laidKinds := [.data, .data, .data, .sentinel, .sentinel], laidTests := true, laidLooks := .later }
def MarkPlaysCardSaid : Prop := Claim7.holds Tryz.pinned (.plain (OpenSpec.ofChange markPlaysSpec)) markPlaysCard

/-- THE SECOND FORM's CARD OF 'lazaruslaw6.MarkPlays'. -/
def markPlaysUptoCard : Claim7 := { stood := { row := markPlaysUptoRow, standIns := [], harness := (true, "1efb9e4f599927e686f8109174be0c0b2f11523ed58632c0c33a5ee5d5d0e83d"), looks := true }, kinds := [], alts := [], laidByText := true, laidKinds := [.data, .data, .data, .sentinel, .sentinel], laidTests := true, laidLooks := .later }
def MarkPlaysUptoCardSaid : Prop := Claim7.holds Tryz.pinned (.plain (OpenSpec.upto markPlaysSpec)) markPlaysUptoCard
end Rows
end Go.Proofs.YtkicekddkgehoaaGreatDoor
