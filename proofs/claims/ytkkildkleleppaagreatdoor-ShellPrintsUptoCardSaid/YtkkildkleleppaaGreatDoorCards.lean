/-
  DERIVED. GIVEN WITH THE SEED: THE CARDS: each row of YtkkildkleleppaaGreatDoorRows.lean that lists a variable, with what it lists TIED to the program's text (the seventh form; the later family's looks); each row that meets fmt, with fmt's text TOLD by the authors' own Lean function (tested against real Go, not proved from fmt's source: count such statements apart). THE CARD IS WHAT COUNTS. Prove the row's statement (the work); the ties are given (YtkkildkleleppaaGreatDoorTie.lean); close each card by the builder's one call (the guide's Derived/Test/ToyasCard.lean, 'card_holds'). Laid BY PROGRAM, IN A SANDBOX (cutbox-door.mjs). By AI agents, Wed Nov 11 2026. No macro, syntax, notation, axiom, sorry.
-/
import Derived.Test.YtkkildkleleppaaGreatDoorRows
import GoSem.ClaimSeven
namespace Go.Proofs.YtkkildkleleppaaGreatDoor
namespace Rows

/-- THE TIED CARD OF 'bureaulaw31.DumpTexts'. -/
def dumpTextsCard : Claim7 := { stood := { row := dumpTextsRow, standIns := [], harness := (true, "491b60b284a324faf40b039794541f0055f269318952850b2c35ed41eacf6ef1"), looks := true }, kinds := [], alts := [], laidByText := true, laidKinds := [.data, .data, .data, .data, .sentinel, .sentinel, .pinned], laidTests := true, laidLooks := .later }
def DumpTextsCardSaid : Prop := Claim7.holds Tryz.pinned (.plain (OpenSpec.ofChange dumpTextsSpec)) dumpTextsCard

/-- THE TIED CARD OF 'bureaulaw31.DumpReads'. -/
def dumpReadsCard : Claim7 := { stood := { row := dumpReadsRow, standIns := [], harness := (true, "491b60b284a324faf40b039794541f0055f269318952850b2c35ed41eacf6ef1"), looks := true }, kinds := [], alts := [], laidByText := true, laidKinds := [.data, .data, .data, .data, .sentinel, .sentinel, .pinned], laidTests := true, laidLooks := .later }
def DumpReadsCardSaid : Prop := Claim7.holds Tryz.pinned (.plain (OpenSpec.ofChange dumpReadsSpec)) dumpReadsCard

/-- THE TIED CARD OF 'bureaulaw32.ShellParses'. -/
def shellParsesCard : Claim7 := { stood := { row := shellParsesRow, standIns := [], harness := (true, "491b60b284a324faf40b039794541f0055f269318952850b2c35ed41eacf6ef1"), looks := true }, kinds := [], alts := [], laidByText := true, laidKinds := [.data, .data, .data, .data, .sentinel, .sentinel, .pinned], laidTests := true, laidLooks := .later }
def ShellParsesCardSaid : Prop := Claim7.holds Tryz.pinned (.plain (OpenSpec.ofChange shellParsesSpec)) shellParsesCard

/-- THE TIED CARD OF 'bureaulaw32.ShellPrints'. -/
def shellPrintsCard : Claim7 := { stood := { row := shellPrintsRow, standIns := [], harness := (true, "491b60b284a324faf40b039794541f0055f269318952850b2c35ed41eacf6ef1"), looks := true }, kinds := [], alts := [], laidByText := true, laidKinds := [.data, .data, .data, .data, .sentinel, .sentinel, .pinned], laidTests := true, laidLooks := .later }
def ShellPrintsCardSaid : Prop := Claim7.holds Tryz.pinned (.plain (OpenSpec.ofChange shellPrintsSpec)) shellPrintsCard

/-- THE TIED CARD OF 'bureaulaw32.ShellTexts'. -/
def shellTextsCard : Claim7 := { stood := { row := shellTextsRow, standIns := [], harness := (true, "491b60b284a324faf40b039794541f0055f269318952850b2c35ed41eacf6ef1"), looks := true }, kinds := [], alts := [], laidByText := true, laidKinds := [.data, .data, .data, .data, .sentinel, .sentinel, .pinned], laidTests := true, laidLooks := .later }
def ShellTextsCardSaid : Prop := Claim7.holds Tryz.pinned (.plain (OpenSpec.ofChange shellTextsSpec)) shellTextsCard

/-- THE TIED CARD OF 'bureaulaw32.ShellRound'. -/
def shellRoundCard : Claim7 := { stood := { row := shellRoundRow, standIns := [], harness := (true, "491b60b284a324faf40b039794541f0055f269318952850b2c35ed41eacf6ef1"), looks := true }, kinds := [], alts := [], laidByText := true, laidKinds := [.data, .data, .data, .data, .sentinel, .sentinel, .pinned], laidTests := true, laidLooks := .later }
def ShellRoundCardSaid : Prop := Claim7.holds Tryz.pinned (.plain (OpenSpec.ofChange shellRoundSpec)) shellRoundCard

/-- THE SECOND FORM's CARD OF 'bureaulaw31.DumpTexts'. -/
def dumpTextsUptoCard : Claim7 := { stood := { row := dumpTextsUptoRow, standIns := [], harness := (true, "491b60b284a324faf40b039794541f0055f269318952850b2c35ed41eacf6ef1"), looks := true }, kinds := [], alts := [], laidByText := true, laidKinds := [.data, .data, .data, .data, .sentinel, .sentinel, .pinned], laidTests := true, laidLooks := .later }
def DumpTextsUptoCardSaid : Prop := Claim7.holds Tryz.pinned (.plain (OpenSpec.upto dumpTextsSpec)) dumpTextsUptoCard

/-- THE SECOND FORM's CARD OF 'bureaulaw31.DumpReads'. -/
def dumpReadsUptoCard : Claim7 := { stood := { row := dumpReadsUptoRow, standIns := [], harness := (true, "491b60b284a324faf40b039794541f0055f269318952850b2c35ed41eacf6ef1"), looks := true }, kinds := [], alts := [], laidByText := true, laidKinds := [.data, .data, .data, .data, .sentinel, .sentinel, .pinned], laidTests := true, laidLooks := .later }
def DumpReadsUptoCardSaid : Prop := Claim7.holds Tryz.pinned (.plain (OpenSpec.upto dumpReadsSpec)) dumpReadsUptoCard

/-- THE SECOND FORM's CARD OF 'bureaulaw32.ShellParses'. -/
def shellParsesUptoCard : Claim7 := { stood := { row := shellParsesUptoRow, standIns := [], harness := (true, "491b60b284a324faf40b039794541f0055f269318952850b2c35ed41eacf6ef1"), looks := true }, kinds := [], alts := [], laidByText := true, laidKinds := [.data, .data, .data, .data, .sentinel, .sentinel, .pinned], laidTests := true, laidLooks := .later }
def ShellParsesUptoCardSaid : Prop := Claim7.holds Tryz.pinned (.plain (OpenSpec.upto shellParsesSpec)) shellParsesUptoCard

/-- THE SECOND FORM's CARD OF 'bureaulaw32.ShellPrints'. -/
def shellPrintsUptoCard : Claim7 := { stood := { row := shellPrintsUptoRow, standIns := [], harness := (true, "491b60b284a324faf40b039794541f0055f269318952850b2c35ed41eacf6ef1"), looks := true }, kinds := [], alts := [], laidByText := true, laidKinds := [.data, .data, .data, .data, .sentinel, .sentinel, .pinned], laidTests := true, laidLooks := .later }
def ShellPrintsUptoCardSaid : Prop := Claim7.holds Tryz.pinned (.plain (OpenSpec.upto shellPrintsSpec)) shellPrintsUptoCard

/-- THE SECOND FORM's CARD OF 'bureaulaw32.ShellTexts'. -/
def shellTextsUptoCard : Claim7 := { stood := { row := shellTextsUptoRow, standIns := [], harness := (true, "491b60b284a324faf40b039794541f0055f269318952850b2c35ed41eacf6ef1"), looks := true }, kinds := [], alts := [], laidByText := true, laidKinds := [.data, .data, .data, .data, .sentinel, .sentinel, .pinned], laidTests := true, laidLooks := .later }
def ShellTextsUptoCardSaid : Prop := Claim7.holds Tryz.pinned (.plain (OpenSpec.upto shellTextsSpec)) shellTextsUptoCard

/-- THE SECOND FORM's CARD OF 'bureaulaw32.ShellRound'. -/
def shellRoundUptoCard : Claim7 := { stood := { row := shellRoundUptoRow, standIns := [], harness := (true, "491b60b284a324faf40b039794541f0055f269318952850b2c35ed41eacf6ef1"), looks := true }, kinds := [], alts := [], laidByText := true, laidKinds := [.data, .data, .data, .data, .sentinel, .sentinel, .pinned], laidTests := true, laidLooks := .later }
def ShellRoundUptoCardSaid : Prop := Claim7.holds Tryz.pinned (.plain (OpenSpec.upto shellRoundSpec)) shellRoundUptoCard
end Rows
end Go.Proofs.YtkkildkleleppaaGreatDoor
