/-
  DERIVED. GIVEN WITH THE SEED: THE CARDS: each row of YthioadiiedlmfaaGreatDoorRows.lean that lists a variable, with what it lists TIED to the program's text (the seventh form; the later family's looks); each row that meets fmt, with fmt's text TOLD by the authors' own Lean function (tested against real Go, not proved from fmt's source: count such statements apart). THE CARD IS WHAT COUNTS. Prove the row's statement (the work); the ties are given (YthioadiiedlmfaaGreatDoorTie.lean); close each card by the builder's one call (the guide's Derived/Test/ToyasCard.lean, 'card_holds'). Laid BY PROGRAM, IN A SANDBOX (cutbox-door.mjs). By AI agents, Wed Nov 11 2026. No macro, syntax, notation, axiom, sorry.
-/
import Derived.Test.YthioadiiedlmfaaGreatDoorRows
import GoSem.ClaimSeven
namespace Go.Proofs.YthioadiiedlmfaaGreatDoor
namespace Rows

/-- THE TIED CARD OF 'ringkeep5.KernelRights'. -/
def kernelRightsCard : Claim7 := { stood := { row := kernelRightsRow, standIns := [], harness := (true, "4d4af9a620c708c259eca1b9436926349a9743e37ac5358822deb130e2fd73f1"), looks := false }, kinds := [], alts := [], laidByText := true, laidKinds := [.data, .pinned], laidTests := true, laidLooks := .later }
def KernelRightsCardSaid : Prop := Claim7.holds Tryz.pinned (.plain (OpenSpec.ofChange kernelRightsSpec)) kernelRightsCard

/-- THE SECOND FORM's CARD OF 'ringkeep5.KernelRights'. -/
def kernelRightsUptoCard : Claim7 := { stood := { row := kernelRightsUptoRow, standIns := [], harness := (true, "4d4af9a620c708c259eca1b9436926349a9743e37ac5358822deb130e2fd73f1"), looks := false }, kinds := [], alts := [], laidByText := true, laidKinds := [.data, .pinned], laidTests := true, laidLooks := .later }
def KernelRightsUptoCardSaid : Prop := Claim7.holds Tryz.pinned (.plain (OpenSpec.upto kernelRightsSpec)) kernelRightsUptoCard
end Rows
end Go.Proofs.YthioadiiedlmfaaGreatDoor
