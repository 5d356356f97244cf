/-
  DERIVED. GIVEN WITH THE SEED: THE CARDS: each row of YtfkepfncgdlgoaaGreatDoorRows.lean that lists a variable, with what it lists TIED to the program's text (the seventh form; the later family's looks); each row that meets fmt, with fmt's text TOLD by the authors' own Lean function (tested against real Go, not proved from fmt's source: count such statements apart). THE CARD IS WHAT COUNTS. Prove the row's statement (the work); the ties are given (YtfkepfncgdlgoaaGreatDoorTie.lean); close each card by the builder's one call (the guide's Derived/Test/ToyasCard.lean, 'card_holds'). Laid BY PROGRAM, IN A SANDBOX (cutbox-door.mjs). By AI agents, Wed Nov 11 2026. No macro, syntax, notation, axiom, sorry.
-/
import Derived.Test.YtfkepfncgdlgoaaGreatDoorRows
import GoSem.ClaimSeven
namespace Go.Proofs.YtfkepfncgdlgoaaGreatDoor
namespace Rows

/-- THE TIED CARD OF 'ringkeep5.BootAgain'. -/
def bootAgainCard : Claim7 := { stood := { row := bootAgainRow, standIns := [], harness := (true, "763454d5ceb531d57526ca1145ff4e899b1e21d550c7fa76ff508e0f3aacc97c"), looks := false }, kinds := [], alts := [], laidByText := true, laidKinds := [.data, .pinned], laidTests := true, laidLooks := .later }
def BootAgainCardSaid : Prop := Claim7.holds Tryz.pinned (.plain (OpenSpec.ofChange bootAgainSpec)) bootAgainCard

/-- THE SECOND FORM's CARD OF 'ringkeep5.BootAgain'. -/
def bootAgainUptoCard : Claim7 := { stood := { row := bootAgainUptoRow, standIns := [], harness := (true, "763454d5ceb531d57526ca1145ff4e899b1e21d550c7fa76ff508e0f3aacc97c"), looks := false }, kinds := [], alts := [], laidByText := true, laidKinds := [.data, .pinned], laidTests := true, laidLooks := .later }
def BootAgainUptoCardSaid : Prop := Claim7.holds Tryz.pinned (.plain (OpenSpec.upto bootAgainSpec)) bootAgainUptoCard
end Rows
end Go.Proofs.YtfkepfncgdlgoaaGreatDoor
