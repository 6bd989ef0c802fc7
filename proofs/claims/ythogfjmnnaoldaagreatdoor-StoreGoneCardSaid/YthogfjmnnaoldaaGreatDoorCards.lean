/-
  DERIVED. GIVEN WITH THE SEED: THE CARDS: each row of YthogfjmnnaoldaaGreatDoorRows.lean that lists a variable, with what it lists TIED to the program's text (the seventh form; the later family's looks); each row that meets fmt, with fmt's text TOLD by the authors' own Lean function (tested against real Go, not proved from fmt's source: count such statements apart). THE CARD IS WHAT COUNTS. Prove the row's statement (the work); the ties are given (YthogfjmnnaoldaaGreatDoorTie.lean); close each card by the builder's one call (the guide's Derived/Test/ToyasCard.lean, 'card_holds'). Laid BY PROGRAM, IN A SANDBOX (cutbox-door.mjs). By AI agents, Wed Nov 11 2026. No macro, syntax, notation, axiom, sorry.
-/
import Derived.Test.YthogfjmnnaoldaaGreatDoorRows
import GoSem.ClaimSeven
namespace Go.Proofs.YthogfjmnnaoldaaGreatDoor
namespace Rows

/-- THE TIED CARD OF 'stillroomlaw4.StoreGone'. -/
def storeGoneCard : Claim7 := { stood := { row := storeGoneRow, standIns := [], harness := (true, "579c99da8f61f041134b46694ffdf87cedc74a72366af2fbb04c66e6b1d42d20"), looks := true }, kinds := [], alts := [], laidByText := true, laidKinds := [.data, .data, .data, .data, .handle, .sentinel, .sentinel, .sentinel, .sentinel, .sentinel, .sentinel, .sentinel, .sentinel, .sentinel, .sentinel, .sentinel, .sentinel, .sentinel, .sentinel, .pinned], laidTests := true, laidLooks := .later }
def StoreGoneCardSaid : Prop := Claim7.holds Tryz.pinned (.plain (OpenSpec.ofChange storeGoneSpec)) storeGoneCard

/-- THE SECOND FORM's CARD OF 'stillroomlaw4.StoreGone'. -/
def storeGoneUptoCard : Claim7 := { stood := { row := storeGoneUptoRow, standIns := [], harness := (true, "579c99da8f61f041134b46694ffdf87cedc74a72366af2fbb04c66e6b1d42d20"), looks := true }, kinds := [], alts := [], laidByText := true, laidKinds := [.data, .data, .data, .data, .handle, .sentinel, .sentinel, .sentinel, .sentinel, .sentinel, .sentinel, .sentinel, .sentinel, .sentinel, .sentinel, .sentinel, .sentinel, .sentinel, .sentinel, .pinned], laidTests := true, laidLooks := .later }
def StoreGoneUptoCardSaid : Prop := Claim7.holds Tryz.pinned (.plain (OpenSpec.upto storeGoneSpec)) storeGoneUptoCard
end Rows
end Go.Proofs.YthogfjmnnaoldaaGreatDoor
