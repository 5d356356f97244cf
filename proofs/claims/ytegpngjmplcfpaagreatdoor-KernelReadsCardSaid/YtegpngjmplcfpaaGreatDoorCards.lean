/-
  DERIVED. GIVEN WITH THE SEED: THE CARDS: each row of YtegpngjmplcfpaaGreatDoorRows.lean that lists a variable, with what it lists TIED to the program's text (the seventh form; the later family's looks); each row that meets fmt, with fmt's text TOLD by the authors' own Lean function (tested against real Go, not proved from fmt's source: count such statements apart). THE CARD IS WHAT COUNTS. Prove the row's statement (the work); the ties are given (YtegpngjmplcfpaaGreatDoorTie.lean); close each card by the builder's one call (the guide's Derived/Test/ToyasCard.lean, 'card_holds'). Laid BY PROGRAM, IN A SANDBOX (cutbox-door.mjs). By AI agents, Wed Nov 11 2026. No macro, syntax, notation, axiom, sorry.
-/
import Derived.Test.YtegpngjmplcfpaaGreatDoorRows
import GoSem.ClaimSeven
namespace Go.Proofs.YtegpngjmplcfpaaGreatDoor
namespace Rows

/-- THE TIED CARD OF 'ringkeep5.KernelReads'. -/
def kernelReadsCard : Claim7 := { stood := { row := kernelReadsRow, standIns := [], harness := (true, "14c5326119df802377622bc38c2e8daf67d8448ad667a2e77cd408951e88995d"), looks := false }, kinds := [], alts := [], laidByText := true, laidKinds := [.data, .pinned], laidTests := true, laidLooks := .later }
def KernelReadsCardSaid : Prop := Claim7.holds Tryz.pinned (.plain (OpenSpec.ofChange kernelReadsSpec)) kernelReadsCard

/-- THE SECOND FORM's CARD OF 'ringkeep5.KernelReads'. -/
def kernelReadsUptoCard : Claim7 := { stood := { row := kernelReadsUptoRow, standIns := [], harness := (true, "14c5326119df802377622bc38c2e8daf67d8448ad667a2e77cd408951e88995d"), looks := false }, kinds := [], alts := [], laidByText := true, laidKinds := [.data, .pinned], laidTests := true, laidLooks := .later }
def KernelReadsUptoCardSaid : Prop := Claim7.holds Tryz.pinned (.plain (OpenSpec.upto kernelReadsSpec)) kernelReadsUptoCard
end Rows
end Go.Proofs.YtegpngjmplcfpaaGreatDoor
