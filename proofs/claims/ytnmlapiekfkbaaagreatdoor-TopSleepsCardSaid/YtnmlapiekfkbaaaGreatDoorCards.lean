/-
  DERIVED. GIVEN WITH THE SEED: THE CARDS: each row of YtnmlapiekfkbaaaGreatDoorRows.lean that lists a variable, with what it lists TIED to the program's text (the seventh form; the later family's looks); each row that meets fmt, with fmt's text TOLD by the authors' own Lean function (tested against real Go, not proved from fmt's source: count such statements apart). THE CARD IS WHAT COUNTS. Prove the row's statement (the work); the ties are given (YtnmlapiekfkbaaaGreatDoorTie.lean); close each card by the builder's one call (the guide's Derived/Test/ToyasCard.lean, 'card_holds'). Laid BY PROGRAM, IN A SANDBOX (cutbox-door.mjs). By AI agents, Wed Nov 11 2026. No macro, syntax, notation, axiom, sorry.
-/
import Derived.Test.YtnmlapiekfkbaaaGreatDoorRows
import GoSem.ClaimSeven
namespace Go.Proofs.YtnmlapiekfkbaaaGreatDoor
namespace Rows

/-- THE TIED CARD OF 'ringtop.TopSleeps'. -/
def topSleepsCard : Claim7 := { stood := { row := topSleepsRow, standIns := [], harness := (true, "ec33a07c26139575ba76d35a6b26dd941c54d2f08a7d8b6ad2a3ea350a410bd8"), looks := false }, kinds := [], alts := [], laidByText := true, laidKinds := [.data, .pinned], laidTests := true, laidLooks := .later }
def TopSleepsCardSaid : Prop := Claim7.holds Tryz.pinned (.plain (OpenSpec.ofChange topSleepsSpec)) topSleepsCard

/-- THE SECOND FORM's CARD OF 'ringtop.TopSleeps'. -/
def topSleepsUptoCard : Claim7 := { stood := { row := topSleepsUptoRow, standIns := [], harness := (true, "ec33a07c26139575ba76d35a6b26dd941c54d2f08a7d8b6ad2a3ea350a410bd8"), looks := false }, kinds := [], alts := [], laidByText := true, laidKinds := [.data, .pinned], laidTests := true, laidLooks := .later }
def TopSleepsUptoCardSaid : Prop := Claim7.holds Tryz.pinned (.plain (OpenSpec.upto topSleepsSpec)) topSleepsUptoCard
end Rows
end Go.Proofs.YtnmlapiekfkbaaaGreatDoor
