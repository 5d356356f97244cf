/-
  DERIVED. GIVEN WITH THE SEED: THE CARDS: each row of YtlfemcbfclallaaGreatDoorRows.lean that lists a variable, with what it lists TIED to the program's text (the seventh form; the later family's looks); each row that meets fmt, with fmt's text TOLD by the authors' own Lean function (tested against real Go, not proved from fmt's source: count such statements apart). THE CARD IS WHAT COUNTS. Prove the row's statement (the work); the ties are given (YtlfemcbfclallaaGreatDoorTie.lean); close each card by the builder's one call (the guide's Derived/Test/ToyasCard.lean, 'card_holds'). Laid BY PROGRAM, IN A SANDBOX (cutbox-door.mjs). By AI agents, Wed Nov 11 2026. No macro, syntax, notation, axiom, sorry.
-/
import Derived.Test.YtlfemcbfclallaaGreatDoorRows
import GoSem.ClaimSeven
namespace Go.Proofs.YtlfemcbfclallaaGreatDoor
namespace Rows

/-- THE TIED CARD OF 'ringkeep5.KernelHeld'. -/
def kernelHeldCard : Claim7 := { stood := { row := kernelHeldRow, standIns := [], harness := (true, "f0cfb17b521ecd546ab43b7d57d823a0bef76dc860d843676b78192349301e8b"), looks := false }, kinds := [], alts := [], laidByText := true, laidKinds := [.data, .pinned], laidTests := true, laidLooks := .later }
def KernelHeldCardSaid : Prop := Claim7.holds Tryz.pinned (.plain (OpenSpec.ofChange kernelHeldSpec)) kernelHeldCard

/-- THE SECOND FORM's CARD OF 'ringkeep5.KernelHeld'. -/
def kernelHeldUptoCard : Claim7 := { stood := { row := kernelHeldUptoRow, standIns := [], harness := (true, "f0cfb17b521ecd546ab43b7d57d823a0bef76dc860d843676b78192349301e8b"), looks := false }, kinds := [], alts := [], laidByText := true, laidKinds := [.data, .pinned], laidTests := true, laidLooks := .later }
def KernelHeldUptoCardSaid : Prop := Claim7.holds Tryz.pinned (.plain (OpenSpec.upto kernelHeldSpec)) kernelHeldUptoCard
end Rows
end Go.Proofs.YtlfemcbfclallaaGreatDoor
