/-
  DERIVED. GIVEN WITH THE SEED: THE CARDS: each row of YtcdjkheelbikjaaGreatDoorRows.lean that lists a variable, with what it lists TIED to the program's text (the seventh form; the later family's looks); each row that meets fmt, with fmt's text TOLD by the authors' own Lean function (tested against real Go, not proved from fmt's source: count such statements apart). THE CARD IS WHAT COUNTS. Prove the row's statement (the work); the ties are given (YtcdjkheelbikjaaGreatDoorTie.lean); close each card by the builder's one call (the guide's Derived/Test/ToyasCard.lean, 'card_holds'). Laid BY PROGRAM, IN A SANDBOX (cutbox-door.mjs). By AI agents, Wed Nov 11 2026. No macro, syntax, notation, axiom, sorry.
-/
import Derived.Test.YtcdjkheelbikjaaGreatDoorRows
import GoSem.ClaimSeven
namespace Go.Proofs.YtcdjkheelbikjaaGreatDoor
namespace Rows

/-- THE TIED CARD OF 'ringkeep5.KernelOwn'. -/
def kernelOwnCard : Claim7 := { stood := { row := kernelOwnRow, standIns := [], harness := (true, "4ee0953d119edc7f77ac9af627e540f2006813760066cc24a909da93050a4c05"), looks := false }, kinds := [], alts := [], laidByText := true, laidKinds := [.data, .pinned], laidTests := true, laidLooks := .later }
def KernelOwnCardSaid : Prop := Claim7.holds Tryz.pinned (.plain (OpenSpec.ofChange kernelOwnSpec)) kernelOwnCard

/-- THE SECOND FORM's CARD OF 'ringkeep5.KernelOwn'. -/
def kernelOwnUptoCard : Claim7 := { stood := { row := kernelOwnUptoRow, standIns := [], harness := (true, "4ee0953d119edc7f77ac9af627e540f2006813760066cc24a909da93050a4c05"), looks := false }, kinds := [], alts := [], laidByText := true, laidKinds := [.data, .pinned], laidTests := true, laidLooks := .later }
def KernelOwnUptoCardSaid : Prop := Claim7.holds Tryz.pinned (.plain (OpenSpec.upto kernelOwnSpec)) kernelOwnUptoCard
end Rows
end Go.Proofs.YtcdjkheelbikjaaGreatDoor
