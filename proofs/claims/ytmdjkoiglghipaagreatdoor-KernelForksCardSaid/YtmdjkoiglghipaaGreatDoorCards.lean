/-
  DERIVED. GIVEN WITH THE SEED: THE CARDS: each row of YtmdjkoiglghipaaGreatDoorRows.lean that lists a variable, with what it lists TIED to the program's text (the seventh form; the later family's looks); each row that meets fmt, with fmt's text TOLD by the authors' own Lean function (tested against real Go, not proved from fmt's source: count such statements apart). THE CARD IS WHAT COUNTS. Prove the row's statement (the work); the ties are given (YtmdjkoiglghipaaGreatDoorTie.lean); close each card by the builder's one call (the guide's Derived/Test/ToyasCard.lean, 'card_holds'). Laid BY PROGRAM, IN A SANDBOX (cutbox-door.mjs). By AI agents, Wed Nov 11 2026. No macro, syntax, notation, axiom, sorry.
-/
import Derived.Test.YtmdjkoiglghipaaGreatDoorRows
import GoSem.ClaimSeven
namespace Go.Proofs.YtmdjkoiglghipaaGreatDoor
namespace Rows

/-- THE TIED CARD OF 'ringkeep5.KernelForks'. -/
def kernelForksCard : Claim7 := { stood := { row := kernelForksRow, standIns := [], harness := (true, "d56b9ed8b2f9ccd5e617e2c4f86fc70612cc442bbf8abad41f86071381219a96"), looks := false }, kinds := [], alts := [], laidByText := true, laidKinds := [.data, .pinned], laidTests := true, laidLooks := .later }
def KernelForksCardSaid : Prop := Claim7.holds Tryz.pinned (.plain (OpenSpec.ofChange kernelForksSpec)) kernelForksCard

/-- THE SECOND FORM's CARD OF 'ringkeep5.KernelForks'. -/
def kernelForksUptoCard : Claim7 := { stood := { row := kernelForksUptoRow, standIns := [], harness := (true, "d56b9ed8b2f9ccd5e617e2c4f86fc70612cc442bbf8abad41f86071381219a96"), looks := false }, kinds := [], alts := [], laidByText := true, laidKinds := [.data, .pinned], laidTests := true, laidLooks := .later }
def KernelForksUptoCardSaid : Prop := Claim7.holds Tryz.pinned (.plain (OpenSpec.upto kernelForksSpec)) kernelForksUptoCard
end Rows
end Go.Proofs.YtmdjkoiglghipaaGreatDoor
