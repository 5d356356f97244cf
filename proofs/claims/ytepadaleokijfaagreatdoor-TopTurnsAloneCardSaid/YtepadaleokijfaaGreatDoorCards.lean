/-
  DERIVED. GIVEN WITH THE SEED: THE CARDS: each row of YtepadaleokijfaaGreatDoorRows.lean that lists a variable, with what it lists TIED to the program's text (the seventh form; the later family's looks); each row that meets fmt, with fmt's text TOLD by the authors' own Lean function (tested against real Go, not proved from fmt's source: count such statements apart). THE CARD IS WHAT COUNTS. Prove the row's statement (the work); the ties are given (YtepadaleokijfaaGreatDoorTie.lean); close each card by the builder's one call (the guide's Derived/Test/ToyasCard.lean, 'card_holds'). Laid BY PROGRAM, IN A SANDBOX (cutbox-door.mjs). By AI agents, Wed Nov 11 2026. No macro, syntax, notation, axiom, sorry.
-/
import Derived.Test.YtepadaleokijfaaGreatDoorRows
import GoSem.ClaimSeven
namespace Go.Proofs.YtepadaleokijfaaGreatDoor
namespace Rows

/-- THE TIED CARD OF 'ringtop.TopTurnsAlone'. -/
def topTurnsAloneCard : Claim7 := { stood := { row := topTurnsAloneRow, standIns := [], harness := (true, "e574dcc6962b8b593620813b1b365a0a8817894f460894e173ced69389d523c3"), looks := false }, kinds := [], alts := [], laidByText := true, laidKinds := [.data, .pinned], laidTests := true, laidLooks := .later }
def TopTurnsAloneCardSaid : Prop := Claim7.holds Tryz.pinned (.plain (OpenSpec.ofChange topTurnsAloneSpec)) topTurnsAloneCard

/-- THE SECOND FORM's CARD OF 'ringtop.TopTurnsAlone'. -/
def topTurnsAloneUptoCard : Claim7 := { stood := { row := topTurnsAloneUptoRow, standIns := [], harness := (true, "e574dcc6962b8b593620813b1b365a0a8817894f460894e173ced69389d523c3"), looks := false }, kinds := [], alts := [], laidByText := true, laidKinds := [.data, .pinned], laidTests := true, laidLooks := .later }
def TopTurnsAloneUptoCardSaid : Prop := Claim7.holds Tryz.pinned (.plain (OpenSpec.upto topTurnsAloneSpec)) topTurnsAloneUptoCard
end Rows
end Go.Proofs.YtepadaleokijfaaGreatDoor
