/-
  DERIVED. GIVEN WITH THE SEED: THE CARDS: each row of YtpmegpmiijhehaaGreatDoorRows.lean that lists a variable, with what it lists TIED to the program's text (the seventh form; the later family's looks); each row that meets fmt, with fmt's text TOLD by the authors' own Lean function (tested against real Go, not proved from fmt's source: count such statements apart). THE CARD IS WHAT COUNTS. Prove the row's statement (the work); the ties are given (YtpmegpmiijhehaaGreatDoorTie.lean); close each card by the builder's one call (the guide's Derived/Test/ToyasCard.lean, 'card_holds'). Laid BY PROGRAM, IN A SANDBOX (cutbox-door.mjs). By AI agents, Wed Nov 11 2026. No macro, syntax, notation, axiom, sorry.
-/
import Derived.Test.YtpmegpmiijhehaaGreatDoorRows
import GoSem.ClaimSeven
namespace Go.Proofs.YtpmegpmiijhehaaGreatDoor
namespace Rows

/-- THE TIED CARD OF 'ringtop.TopTurnsGo'. -/
def topTurnsGoCard : Claim7 := { stood := { row := topTurnsGoRow, standIns := [], harness := (true, "1dfbdd3c90809ba371377d1efb0638580599cc2d5e55f3c0b904cd90f06e4a29"), looks := false }, kinds := [], alts := [], laidByText := true, laidKinds := [.data, .pinned], laidTests := true, laidLooks := .later }
def TopTurnsGoCardSaid : Prop := Claim7.holds Tryz.pinned (.plain (OpenSpec.ofChange topTurnsGoSpec)) topTurnsGoCard

/-- THE SECOND FORM's CARD OF 'ringtop.TopTurnsGo'. -/
def topTurnsGoUptoCard : Claim7 := { stood := { row := topTurnsGoUptoRow, standIns := [], harness := (true, "1dfbdd3c90809ba371377d1efb0638580599cc2d5e55f3c0b904cd90f06e4a29"), looks := false }, kinds := [], alts := [], laidByText := true, laidKinds := [.data, .pinned], laidTests := true, laidLooks := .later }
def TopTurnsGoUptoCardSaid : Prop := Claim7.holds Tryz.pinned (.plain (OpenSpec.upto topTurnsGoSpec)) topTurnsGoUptoCard
end Rows
end Go.Proofs.YtpmegpmiijhehaaGreatDoor
