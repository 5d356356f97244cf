/-
  DERIVED. GIVEN WITH THE SEED: THE CARDS: each row of YthdpeecahpedeaaGreatDoorRows.lean that lists a variable, with what it lists TIED to the program's text (the seventh form; the later family's looks); each row that meets fmt, with fmt's text TOLD by the authors' own Lean function (tested against real Go, not proved from fmt's source: count such statements apart). THE CARD IS WHAT COUNTS. Prove the row's statement (the work); the ties are given (YthdpeecahpedeaaGreatDoorTie.lean); close each card by the builder's one call (the guide's Derived/Test/ToyasCard.lean, 'card_holds'). Laid BY PROGRAM, IN A SANDBOX (cutbox-door.mjs). By AI agents, Wed Nov 11 2026. No macro, syntax, notation, axiom, sorry.
-/
import Derived.Test.YthdpeecahpedeaaGreatDoorRows
import GoSem.ClaimSeven
namespace Go.Proofs.YthdpeecahpedeaaGreatDoor
namespace Rows

/-- THE TIED CARD OF 'ringkeep5.KernelPipes'. -/
def kernelPipesCard : Claim7 := { stood := { row := kernelPipesRow, standIns := [], harness := (true, "6786bbc809852060024e20490dc298de030f104fddef501c730d1734efb4188a"), looks := false }, kinds := [], alts := [], laidByText := true, laidKinds := [.data, .pinned], laidTests := true, laidLooks := .later }
def KernelPipesCardSaid : Prop := Claim7.holds Tryz.pinned (.plain (OpenSpec.ofChange kernelPipesSpec)) kernelPipesCard

/-- THE SECOND FORM's CARD OF 'ringkeep5.KernelPipes'. -/
def kernelPipesUptoCard : Claim7 := { stood := { row := kernelPipesUptoRow, standIns := [], harness := (true, "6786bbc809852060024e20490dc298de030f104fddef501c730d1734efb4188a"), looks := false }, kinds := [], alts := [], laidByText := true, laidKinds := [.data, .pinned], laidTests := true, laidLooks := .later }
def KernelPipesUptoCardSaid : Prop := Claim7.holds Tryz.pinned (.plain (OpenSpec.upto kernelPipesSpec)) kernelPipesUptoCard
end Rows
end Go.Proofs.YthdpeecahpedeaaGreatDoor
