/-
  DERIVED. GIVEN WITH THE SEED: THE CARDS: each row of YtkicekddkgehoaaDoorRows.lean that lists a variable, with what it lists TIED to the program's text (the seventh form; the later family's looks); each row that meets fmt, with fmt's text TOLD by the authors' own Lean function (tested against real Go, not proved from fmt's source: count such statements apart). THE CARD IS WHAT COUNTS. Prove the row's statement (the work); the ties are given (YtkicekddkgehoaaDoorTie.lean); close each card by the builder's one call (the guide's Derived/Test/ToyasCard.lean, 'card_holds'). Laid BY PROGRAM, IN A SANDBOX (cutbox-door.mjs). By AI agents, Wed Nov 11 2026. No macro, syntax, notation, axiom, sorry.
-/
import Derived.Test.YtkicekddkgehoaaDoorRows
import GoSem.ClaimSeven
namespace Go.Proofs.YtkicekddkgehoaaDoor
namespace Rows

/-- THE TIED CARD OF 'lazaruslaw6.MarkBytes'. -/
def markBytesCard : Claim7 := { stood := { row := markBytesRow, standIns := [], harness := (true, "630d5be5482527b8d437b1b34c7199129d0846f4c9c9df4f77082bb4d9c2e692"), looks := true }, kinds := [], alts := [], laidByText := true, laidKinds := [.data, .data, .data, .sentinel, .sentinel], laidTests := true, laidLooks := .later }
def MarkBytesCardSaid : Prop := Claim7.holds Tryd.pinned (.plain (OpenSpec.ofChange markBytesSpec)) markBytesCard

/-- THE TIED CARD OF 'lazaruslaw6.MarkReads'. -/
def markReadsCard : Claim7 := { stood := { row := markReadsRow, standIns := [], harness := (true, "630d5be5482527b8d437b1b34c7199129d0846f4c9c9df4f77082bb4d9c2e692"), looks := true }, kinds := [], alts := [], laidByText := true, laidKinds := [.data, .data, .data, .sentinel, .sentinel], laidTests := true, laidLooks := .later }
def MarkReadsCardSaid : Prop := Claim7.holds Tryd.pinned (.plain (OpenSpec.ofChange markReadsSpec)) markReadsCard

/-- THE TIED CARD OF 'lazaruslaw6.MarkFull'. -/
def markFullCard : Claim7 := { stood := { row := markFullRow, standIns := [], harness := (true, "630d5be5482527b8d437b1b34c7199129d0846f4c9c9df4f77082bb4d9c2e692"), looks := true }, kinds := [], alts := [], laidByText := true, laidKinds := [.data, .data, .data, .sentinel, .sentinel], laidTests := true, laidLooks := .later }
def MarkFullCardSaid : Prop := Claim7.holds Tryd.pinned (.plain (OpenSpec.ofChange markFullSpec)) markFullCard

/-- THE TIED CARD OF 'lazaruslaw6.MarkGens'. -/
def markGensCard : Claim7 := { stood := { row := markGensRow, standIns := [], harness := (true, "630d5be5482527b8d437b1b34c7199129d0846f4c9c9df4f77082bb4d9c2e692"), looks := true }, kinds := [], alts := [], laidByText := true, laidKinds := [.data, .data, .data, .sentinel, .sentinel], laidTests := true, laidLooks := .later }
def MarkGensCardSaid : Prop := Claim7.holds Tryd.pinned (.plain (OpenSpec.ofChange markGensSpec)) markGensCard

/-- THE TIED CARD OF 'lazaruslaw6.MarkRow'. -/
def markRowCard : Claim7 := { stood := { row := markRowRow, standIns := [], harness := (true, "630d5be5482527b8d437b1b34c7199129d0846f4c9c9df4f77082bb4d9c2e692"), looks := true }, kinds := [], alts := [], laidByText := true, laidKinds := [.data, .data, .data, .sentinel, .sentinel], laidTests := true, laidLooks := .later }
def MarkRowCardSaid : Prop := Claim7.holds Tryd.pinned (.plain (OpenSpec.ofChange markRowSpec)) markRowCard

/-- THE SECOND FORM's CARD OF 'lazaruslaw6.MarkBytes'. -/
def markBytesUptoCard : Claim7 := { stood := { row := markBytesUptoRow, standIns := [], harness := (true, "630d5be5482527b8d437b1b34c7199129d0846f4c9c9df4f77082bb4d9c2e692"), looks := true }, kinds := [], alts := [], laidByText := true, laidKinds := [.data, .data, .data, .sentinel, .sentinel], laidTests := true, laidLooks := .later }
def MarkBytesUptoCardSaid : Prop := Claim7.holds Tryd.pinned (.plain (OpenSpec.upto markBytesSpec)) markBytesUptoCard

/-- THE SECOND FORM's CARD OF 'lazaruslaw6.MarkReads'. -/
def markReadsUptoCard : Claim7 := { stood := { row := markReadsUptoRow, standIns := [], harness := (true, "630d5be5482527b8d437b1b34c7199129d0846f4c9c9df4f77082bb4d9c2e692"), looks := true }, kinds := [], alts := [], laidByText := true, laidKinds := [.data, .data, .data, .sentinel, .sentinel], laidTests := true, laidLooks := .later }
def MarkReadsUptoCardSaid : Prop := Claim7.holds Tryd.pinned (.plain (OpenSpec.upto markReadsSpec)) markReadsUptoCard

/-- THE SECOND FORM's CARD OF 'lazaruslaw6.MarkFull'. -/
def markFullUptoCard : Claim7 := { stood := { row := markFullUptoRow, standIns := [], harness := (true, "630d5be5482527b8d437b1b34c7199129d0846f4c9c9df4f77082bb4d9c2e692"), looks := true }, kinds := [], alts := [], laidByText := true, laidKinds := [.data, .data, .data, .sentinel, .sentinel], laidTests := true, laidLooks := .later }
def MarkFullUptoCardSaid : Prop := Claim7.holds Tryd.pinned (.plain (OpenSpec.upto markFullSpec)) markFullUptoCard

/-- THE SECOND FORM's CARD OF 'lazaruslaw6.MarkGens'. -/
def markGensUptoCard : Claim7 := { stood := { row := markGensUptoRow, standIns := [], harness := (true, "630d5be5482527b8d437b1b34c7199129d0846f4c9c9df4f77082bb4d9c2e692"), looks := true }, kinds := [], alts := [], laidByText := true, laidKinds := [.data, .data, .data, .sentinel, .sentinel], laidTests := true, laidLooks := .later }
def MarkGensUptoCardSaid : Prop := Claim7.holds Tryd.pinned (.plain (OpenSpec.upto markGensSpec)) markGensUptoCard

/-- THE SECOND FORM's CARD OF 'lazaruslaw6.MarkRow'. -/
def markRowUptoCard : Claim7 := { stood := { row := markRowUptoRow, standIns := [], harness := (true, "630d5be5482527b8d437b1b34c7199129d0846f4c9c9df4f77082bb4d9c2e692"), looks := true }, kinds := [], alts := [], laidByText := true, laidKinds := [.data, .data, .data, .sentinel, .sentinel], laidTests := true, laidLooks := .later }
def MarkRowUptoCardSaid : Prop := Claim7.holds Tryd.pinned (.plain (OpenSpec.upto markRowSpec)) markRowUptoCard
end Rows
end Go.Proofs.YtkicekddkgehoaaDoor
