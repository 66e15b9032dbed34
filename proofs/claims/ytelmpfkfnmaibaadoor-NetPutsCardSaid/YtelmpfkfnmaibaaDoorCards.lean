/-
  DERIVED. GIVEN WITH THE SEED: THE CARDS: each row of YtelmpfkfnmaibaaDoorRows.lean that lists a variable, with what it lists TIED to the program's text (the seventh form; the later family's looks); each row that meets fmt, with fmt's text TOLD by the authors' own Lean function (tested against real Go, not proved from fmt's source: count such statements apart). THE CARD IS WHAT COUNTS. Prove the row's statement (the work); the ties are given (YtelmpfkfnmaibaaDoorTie.lean); close each card by the builder's one call (the guide's Derived/Test/ToyasCard.lean, 'card_holds'). Laid BY PROGRAM, IN A SANDBOX (cutbox-door.mjs). By AI agents, Wed Nov 11 2026. No macro, syntax, notation, axiom, sorry.
-/
import Derived.Test.YtelmpfkfnmaibaaDoorRows
import GoSem.ClaimSeven
namespace Go.Proofs.YtelmpfkfnmaibaaDoor
namespace Rows

/-- THE TIED CARD OF 'lazaruslaw1.NetRow'. -/
def netRowCard : Claim7 := { stood := { row := netRowRow, standIns := [], harness := (true, "b29ba0a225c0a15b1f62caa05aaf137c652bac1ff32aadc0a56a5161dd15fab9"), looks := true }, kinds := [], alts := [], laidByText := true, laidKinds := [.data, .data, .data, .sentinel, .sentinel], laidTests := true, laidLooks := .later }
def NetRowCardSaid : Prop := Claim7.holds Tryd.pinned (.plain (OpenSpec.ofChange netRowSpec)) netRowCard

/-- THE TIED CARD OF 'lazaruslaw1.NetCut'. -/
def netCutCard : Claim7 := { stood := { row := netCutRow, standIns := [], harness := (true, "b29ba0a225c0a15b1f62caa05aaf137c652bac1ff32aadc0a56a5161dd15fab9"), looks := true }, kinds := [], alts := [], laidByText := true, laidKinds := [.data, .data, .data, .sentinel, .sentinel], laidTests := true, laidLooks := .later }
def NetCutCardSaid : Prop := Claim7.holds Tryd.pinned (.plain (OpenSpec.ofChange netCutSpec)) netCutCard

/-- THE TIED CARD OF 'lazaruslaw1.NetPuts'. -/
def netPutsCard : Claim7 := { stood := { row := netPutsRow, standIns := [], harness := (true, "b29ba0a225c0a15b1f62caa05aaf137c652bac1ff32aadc0a56a5161dd15fab9"), looks := true }, kinds := [], alts := [], laidByText := true, laidKinds := [.data, .data, .data, .sentinel, .sentinel], laidTests := true, laidLooks := .later }
def NetPutsCardSaid : Prop := Claim7.holds Tryd.pinned (.plain (OpenSpec.ofChange netPutsSpec)) netPutsCard

/-- THE TIED CARD OF 'lazaruslaw1.NetReads'. -/
def netReadsCard : Claim7 := { stood := { row := netReadsRow, standIns := [], harness := (true, "b29ba0a225c0a15b1f62caa05aaf137c652bac1ff32aadc0a56a5161dd15fab9"), looks := true }, kinds := [], alts := [], laidByText := true, laidKinds := [.data, .data, .data, .sentinel, .sentinel], laidTests := true, laidLooks := .later }
def NetReadsCardSaid : Prop := Claim7.holds Tryd.pinned (.plain (OpenSpec.ofChange netReadsSpec)) netReadsCard

/-- THE TIED CARD OF 'lazaruslaw1.NetOdd'. -/
def netOddCard : Claim7 := { stood := { row := netOddRow, standIns := [], harness := (true, "b29ba0a225c0a15b1f62caa05aaf137c652bac1ff32aadc0a56a5161dd15fab9"), looks := true }, kinds := [], alts := [], laidByText := true, laidKinds := [.data, .data, .data, .sentinel, .sentinel], laidTests := true, laidLooks := .later }
def NetOddCardSaid : Prop := Claim7.holds Tryd.pinned (.plain (OpenSpec.ofChange netOddSpec)) netOddCard

/-- THE SECOND FORM's CARD OF 'lazaruslaw1.NetRow'. -/
def netRowUptoCard : Claim7 := { stood := { row := netRowUptoRow, standIns := [], harness := (true, "b29ba0a225c0a15b1f62caa05aaf137c652bac1ff32aadc0a56a5161dd15fab9"), looks := true }, kinds := [], alts := [], laidByText := true, laidKinds := [.data, .data, .data, .sentinel, .sentinel], laidTests := true, laidLooks := .later }
def NetRowUptoCardSaid : Prop := Claim7.holds Tryd.pinned (.plain (OpenSpec.upto netRowSpec)) netRowUptoCard

/-- THE SECOND FORM's CARD OF 'lazaruslaw1.NetCut'. -/
def netCutUptoCard : Claim7 := { stood := { row := netCutUptoRow, standIns := [], harness := (true, "b29ba0a225c0a15b1f62caa05aaf137c652bac1ff32aadc0a56a5161dd15fab9"), looks := true }, kinds := [], alts := [], laidByText := true, laidKinds := [.data, .data, .data, .sentinel, .sentinel], laidTests := true, laidLooks := .later }
def NetCutUptoCardSaid : Prop := Claim7.holds Tryd.pinned (.plain (OpenSpec.upto netCutSpec)) netCutUptoCard

/-- THE SECOND FORM's CARD OF 'lazaruslaw1.NetPuts'. -/
def netPutsUptoCard : Claim7 := { stood := { row := netPutsUptoRow, standIns := [], harness := (true, "b29ba0a225c0a15b1f62caa05aaf137c652bac1ff32aadc0a56a5161dd15fab9"), looks := true }, kinds := [], alts := [], laidByText := true, laidKinds := [.data, .data, .data, .sentinel, .sentinel], laidTests := true, laidLooks := .later }
def NetPutsUptoCardSaid : Prop := Claim7.holds Tryd.pinned (.plain (OpenSpec.upto netPutsSpec)) netPutsUptoCard

/-- THE SECOND FORM's CARD OF 'lazaruslaw1.NetReads'. -/
def netReadsUptoCard : Claim7 := { stood := { row := netReadsUptoRow, standIns := [], harness := (true, "b29ba0a225c0a15b1f62caa05aaf137c652bac1ff32aadc0a56a5161dd15fab9"), looks := true }, kinds := [], alts := [], laidByText := true, laidKinds := [.data, .data, .data, .sentinel, .sentinel], laidTests := true, laidLooks := .later }
def NetReadsUptoCardSaid : Prop := Claim7.holds Tryd.pinned (.plain (OpenSpec.upto netReadsSpec)) netReadsUptoCard

/-- THE SECOND FORM's CARD OF 'lazaruslaw1.NetOdd'. -/
def netOddUptoCard : Claim7 := { stood := { row := netOddUptoRow, standIns := [], harness := (true, "b29ba0a225c0a15b1f62caa05aaf137c652bac1ff32aadc0a56a5161dd15fab9"), looks := true }, kinds := [], alts := [], laidByText := true, laidKinds := [.data, .data, .data, .sentinel, .sentinel], laidTests := true, laidLooks := .later }
def NetOddUptoCardSaid : Prop := Claim7.holds Tryd.pinned (.plain (OpenSpec.upto netOddSpec)) netOddUptoCard
end Rows
end Go.Proofs.YtelmpfkfnmaibaaDoor
