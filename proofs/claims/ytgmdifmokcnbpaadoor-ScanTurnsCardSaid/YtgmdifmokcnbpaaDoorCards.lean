/-
  DERIVED. GIVEN WITH THE SEED: THE CARDS: each row of YtgmdifmokcnbpaaDoorRows.lean that lists a variable, with what it lists TIED to the program's text (the seventh form; the later family's looks); each row that meets fmt, with fmt's text TOLD by the authors' own Lean function (tested against real Go, not proved from fmt's source: count such statements apart). THE CARD IS WHAT COUNTS. Prove the row's statement (the work); the ties are given (YtgmdifmokcnbpaaDoorTie.lean); close each card by the builder's one call (the guide's Derived/Test/ToyasCard.lean, 'card_holds'). Laid BY PROGRAM, IN A SANDBOX (cutbox-door.mjs). By AI agents, Wed Nov 11 2026. No macro, syntax, notation, axiom, sorry.
-/
import Derived.Test.YtgmdifmokcnbpaaDoorRows
import GoSem.ClaimSeven
namespace Go.Proofs.YtgmdifmokcnbpaaDoor
namespace Rows

/-- THE TIED CARD OF 'stillroomlaw3.ScanTurns'. -/
def scanTurnsCard : Claim7 := { stood := { row := scanTurnsRow, standIns := [], harness := (true, "2ed1de46717c266a14b25198ecdc0ba19e7e2cd24964592b982a752bf2284c02"), looks := false }, kinds := [], alts := [], laidByText := true, laidKinds := [.data, .sentinel, .sentinel, .pinned], laidTests := true, laidLooks := .later }
def ScanTurnsCardSaid : Prop := Claim7.holds Tryd.pinned (.plain (OpenSpec.ofChange scanTurnsSpec)) scanTurnsCard

/-- THE SECOND FORM's CARD OF 'stillroomlaw3.ScanTurns'. -/
def scanTurnsUptoCard : Claim7 := { stood := { row := scanTurnsUptoRow, standIns := [], harness := (true, "2ed1de46717c266a14b25198ecdc0ba19e7e2cd24964592b982a752bf2284c02"), looks := false }, kinds := [], alts := [], laidByText := true, laidKinds := [.data, .sentinel, .sentinel, .pinned], laidTests := true, laidLooks := .later }
def ScanTurnsUptoCardSaid : Prop := Claim7.holds Tryd.pinned (.plain (OpenSpec.upto scanTurnsSpec)) scanTurnsUptoCard
end Rows
end Go.Proofs.YtgmdifmokcnbpaaDoor
