/-
  DERIVED. GIVEN WITH THE SEED: THE CARDS: each row of YtnbhohaphmilmaaGreatDoorRows.lean that lists a variable, with what it lists TIED to the program's text (the seventh form; the later family's looks); each row that meets fmt, with fmt's text TOLD by the authors' own Lean function (tested against real Go, not proved from fmt's source: count such statements apart). THE CARD IS WHAT COUNTS. Prove the row's statement (the work); the ties are given (YtnbhohaphmilmaaGreatDoorTie.lean); close each card by the builder's one call (the guide's Derived/Test/ToyasCard.lean, 'card_holds'). Laid BY PROGRAM, IN A SANDBOX (cutbox-door.mjs). By AI agents, Wed Nov 11 2026. No macro, syntax, notation, axiom, sorry.
-/
import Derived.Test.YtnbhohaphmilmaaGreatDoorRows
import GoSem.ClaimSeven
namespace Go.Proofs.YtnbhohaphmilmaaGreatDoor
namespace Rows

/-- THE TIED CARD OF 'ringtop.TopTurnsTwo'. -/
def topTurnsTwoCard : Claim7 := { stood := { row := topTurnsTwoRow, standIns := [], harness := (true, "64202c8fff4e9d59fce99f0e1bbe7a277c08429d3bd2a80511340568f4992521"), looks := false }, kinds := [], alts := [], laidByText := true, laidKinds := [.data, .pinned], laidTests := true, laidLooks := .later }
def TopTurnsTwoCardSaid : Prop := Claim7.holds Tryz.pinned (.plain (OpenSpec.ofChange topTurnsTwoSpec)) topTurnsTwoCard

/-- THE SECOND FORM's CARD OF 'ringtop.TopTurnsTwo'. -/
def topTurnsTwoUptoCard : Claim7 := { stood := { row := topTurnsTwoUptoRow, standIns := [], harness := (true, "64202c8fff4e9d59fce99f0e1bbe7a277c08429d3bd2a80511340568f4992521"), looks := false }, kinds := [], alts := [], laidByText := true, laidKinds := [.data, .pinned], laidTests := true, laidLooks := .later }
def TopTurnsTwoUptoCardSaid : Prop := Claim7.holds Tryz.pinned (.plain (OpenSpec.upto topTurnsTwoSpec)) topTurnsTwoUptoCard
end Rows
end Go.Proofs.YtnbhohaphmilmaaGreatDoor
