/-
  DERIVED. GIVEN WITH THE SEED: THE CARDS: each row of YtopadiofanaaiaaDoorRows.lean that lists a variable, with what it lists TIED to the program's text (the seventh form; the later family's looks); each row that meets fmt, with fmt's text TOLD by the authors' own Lean function (tested against real Go, not proved from fmt's source: count such statements apart). THE CARD IS WHAT COUNTS. Prove the row's statement (the work); the ties are given (YtopadiofanaaiaaDoorTie.lean); close each card by the builder's one call (the guide's Derived/Test/ToyasCard.lean, 'card_holds'). Laid BY PROGRAM, IN A SANDBOX (cutbox-door.mjs). By AI agents, Wed Nov 11 2026. No macro, syntax, notation, axiom, sorry.
-/
import Derived.Test.YtopadiofanaaiaaDoorRows
import GoSem.ClaimSeven
namespace Go.Proofs.YtopadiofanaaiaaDoor
namespace Rows

/-- THE TIED CARD OF 'ringkeep5.EdgeText'. -/
def edgeTextCard : Claim7 := { stood := { row := edgeTextRow, standIns := [], harness := (true, "bb66bbe047679243da0d31ff2997cc56705acc03bcdf19de8df69178c8259227"), looks := false }, kinds := [], alts := [], laidByText := true, laidKinds := [.data, .pinned], laidTests := true, laidLooks := .later }
def EdgeTextCardSaid : Prop := Claim7.holds Tryd.pinned (.plain (OpenSpec.ofChange edgeTextSpec)) edgeTextCard

/-- THE SECOND FORM's CARD OF 'ringkeep5.EdgeText'. -/
def edgeTextUptoCard : Claim7 := { stood := { row := edgeTextUptoRow, standIns := [], harness := (true, "bb66bbe047679243da0d31ff2997cc56705acc03bcdf19de8df69178c8259227"), looks := false }, kinds := [], alts := [], laidByText := true, laidKinds := [.data, .pinned], laidTests := true, laidLooks := .later }
def EdgeTextUptoCardSaid : Prop := Claim7.holds Tryd.pinned (.plain (OpenSpec.upto edgeTextSpec)) edgeTextUptoCard
end Rows
end Go.Proofs.YtopadiofanaaiaaDoor
