/-
  DERIVED. GIVEN WITH THE SEED: THE CARDS: each row of YtiojbmcjcefdkaaDoorRows.lean that lists a variable, with what it lists TIED to the program's text (the seventh form; the later family's looks); each row that meets fmt, with fmt's text TOLD by the authors' own Lean function (tested against real Go, not proved from fmt's source: count such statements apart). THE CARD IS WHAT COUNTS. Prove the row's statement (the work); the ties are given (YtiojbmcjcefdkaaDoorTie.lean); close each card by the builder's one call (the guide's Derived/Test/ToyasCard.lean, 'card_holds'). Laid BY PROGRAM, IN A SANDBOX (cutbox-door.mjs). By AI agents, Wed Nov 11 2026. No macro, syntax, notation, axiom, sorry.
-/
import Derived.Test.YtiojbmcjcefdkaaDoorRows
import GoSem.ClaimSeven
namespace Go.Proofs.YtiojbmcjcefdkaaDoor
namespace Rows

/-- THE TIED CARD OF 'thickettop.WholeSets'. -/
def wholeSetsCard : Claim7 := { stood := { row := wholeSetsRow, standIns := [], harness := (true, "3715714bb84373e6d8e1f3aec3e813622666c6ac2bde72661fa4b1249fd33e2e"), looks := false }, kinds := [], alts := [], laidByText := true, laidKinds := [.data], laidTests := true, laidLooks := .later }
def WholeSetsCardSaid : Prop := Claim7.holds Tryd.pinned (.plain (OpenSpec.ofChange wholeSetsSpec)) wholeSetsCard

/-- THE SECOND FORM's CARD OF 'thickettop.WholeSets'. -/
def wholeSetsUptoCard : Claim7 := { stood := { row := wholeSetsUptoRow, standIns := [], harness := (true, "3715714bb84373e6d8e1f3aec3e813622666c6ac2bde72661fa4b1249fd33e2e"), looks := false }, kinds := [], alts := [], laidByText := true, laidKinds := [.data], laidTests := true, laidLooks := .later }
def WholeSetsUptoCardSaid : Prop := Claim7.holds Tryd.pinned (.plain (OpenSpec.upto wholeSetsSpec)) wholeSetsUptoCard
end Rows
end Go.Proofs.YtiojbmcjcefdkaaDoor
