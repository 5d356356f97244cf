/-
  DERIVED. GIVEN WITH THE SEED: THE CARDS: each row of YtdkbmkapnapahaaGreatDoorRows.lean that lists a variable, with what it lists TIED to the program's text (the seventh form; the later family's looks); each row that meets fmt, with fmt's text TOLD by the authors' own Lean function (tested against real Go, not proved from fmt's source: count such statements apart). THE CARD IS WHAT COUNTS. Prove the row's statement (the work); the ties are given (YtdkbmkapnapahaaGreatDoorTie.lean); close each card by the builder's one call (the guide's Derived/Test/ToyasCard.lean, 'card_holds'). Laid BY PROGRAM, IN A SANDBOX (cutbox-door.mjs). By AI agents, Wed Nov 11 2026. No macro, syntax, notation, axiom, sorry.
-/
import Derived.Test.YtdkbmkapnapahaaGreatDoorRows
import GoSem.ClaimSeven
namespace Go.Proofs.YtdkbmkapnapahaaGreatDoor
namespace Rows

/-- THE TIED CARD OF 'ringkeep5.KernelEnds'. -/
def kernelEndsCard : Claim7 := { stood := { row := kernelEndsRow, standIns := [], harness := (true, "95bd36a2f7eba0b143287927bd43a257e380599d42d51b0d9e73d7c5f26359ab"), looks := false }, kinds := [], alts := [], laidByText := true, laidKinds := [.data, .pinned], laidTests := true, laidLooks := .later }
def KernelEndsCardSaid : Prop := Claim7.holds Tryz.pinned (.plain (OpenSpec.ofChange kernelEndsSpec)) kernelEndsCard

/-- THE SECOND FORM's CARD OF 'ringkeep5.KernelEnds'. -/
def kernelEndsUptoCard : Claim7 := { stood := { row := kernelEndsUptoRow, standIns := [], harness := (true, "95bd36a2f7eba0b143287927bd43a257e380599d42d51b0d9e73d7c5f26359ab"), looks := false }, kinds := [], alts := [], laidByText := true, laidKinds := [.data, .pinned], laidTests := true, laidLooks := .later }
def KernelEndsUptoCardSaid : Prop := Claim7.holds Tryz.pinned (.plain (OpenSpec.upto kernelEndsSpec)) kernelEndsUptoCard
end Rows
end Go.Proofs.YtdkbmkapnapahaaGreatDoor
