/-
  DERIVED. GIVEN WITH THE SEED: THE CARDS: each row of YtkkildkleleppaaDoorRows.lean that lists a variable, with what it lists TIED to the program's text (the seventh form; the later family's looks); each row that meets fmt, with fmt's text TOLD by the authors' own Lean function (tested against real Go, not proved from fmt's source: count such statements apart). THE CARD IS WHAT COUNTS. Prove the row's statement (the work); the ties are given (YtkkildkleleppaaDoorTie.lean); close each card by the builder's one call (the guide's Derived/Test/ToyasCard.lean, 'card_holds'). Laid BY PROGRAM, IN A SANDBOX (cutbox-door.mjs). By AI agents, Wed Nov 11 2026. No macro, syntax, notation, axiom, sorry.
-/
import Derived.Test.YtkkildkleleppaaDoorRows
import GoSem.ClaimSeven
namespace Go.Proofs.YtkkildkleleppaaDoor
namespace Rows

/-- THE TIED CARD OF 'bureaulaw31.DumpRound'. -/
def dumpRoundCard : Claim7 := { stood := { row := dumpRoundRow, standIns := [], harness := (true, "8a2b5b77c60f806d02718782c858a2253e31b630c722365640a8f874b863176e"), looks := true }, kinds := [], alts := [], laidByText := true, laidKinds := [.data, .data, .data, .data, .sentinel, .sentinel, .pinned], laidTests := true, laidLooks := .later }
def DumpRoundCardSaid : Prop := Claim7.holds Tryd.pinned (.plain (OpenSpec.ofChange dumpRoundSpec)) dumpRoundCard

/-- THE SECOND FORM's CARD OF 'bureaulaw31.DumpRound'. -/
def dumpRoundUptoCard : Claim7 := { stood := { row := dumpRoundUptoRow, standIns := [], harness := (true, "8a2b5b77c60f806d02718782c858a2253e31b630c722365640a8f874b863176e"), looks := true }, kinds := [], alts := [], laidByText := true, laidKinds := [.data, .data, .data, .data, .sentinel, .sentinel, .pinned], laidTests := true, laidLooks := .later }
def DumpRoundUptoCardSaid : Prop := Claim7.holds Tryd.pinned (.plain (OpenSpec.upto dumpRoundSpec)) dumpRoundUptoCard
end Rows
end Go.Proofs.YtkkildkleleppaaDoor
