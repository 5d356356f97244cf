/-
  DERIVED. GIVEN WITH THE SEED: THE CARDS: each row of YtjkephmfpoekgaaDoorRows.lean that lists a variable, with what it lists TIED to the program's text (the seventh form; the later family's looks); each row that meets fmt, with fmt's text TOLD by the authors' own Lean function (tested against real Go, not proved from fmt's source: count such statements apart). THE CARD IS WHAT COUNTS. Prove the row's statement (the work); the ties are given (YtjkephmfpoekgaaDoorTie.lean); close each card by the builder's one call (the guide's Derived/Test/ToyasCard.lean, 'card_holds'). Laid BY PROGRAM, IN A SANDBOX (cutbox-door.mjs). By AI agents, Wed Nov 11 2026. No macro, syntax, notation, axiom, sorry.
-/
import Derived.Test.YtjkephmfpoekgaaDoorRows
import GoSem.ClaimSeven
namespace Go.Proofs.YtjkephmfpoekgaaDoor
namespace Rows

/-- THE TIED CARD OF 'ringkeep5.PathJoined'. -/
def pathJoinedCard : Claim7 := { stood := { row := pathJoinedRow, standIns := [], harness := (true, "25128e1b93b7367ce31654beece14de0d4a29b2b995002289c2f73285060d1d9"), looks := false }, kinds := [], alts := [], laidByText := true, laidKinds := [.data, .pinned], laidTests := true, laidLooks := .later }
def PathJoinedCardSaid : Prop := Claim7.holds Tryd.pinned (.plain (OpenSpec.ofChange pathJoinedSpec)) pathJoinedCard

/-- THE TIED CARD OF 'ringkeep5.PathUp'. -/
def pathUpCard : Claim7 := { stood := { row := pathUpRow, standIns := [], harness := (true, "25128e1b93b7367ce31654beece14de0d4a29b2b995002289c2f73285060d1d9"), looks := false }, kinds := [], alts := [], laidByText := true, laidKinds := [.data, .pinned], laidTests := true, laidLooks := .later }
def PathUpCardSaid : Prop := Claim7.holds Tryd.pinned (.plain (OpenSpec.ofChange pathUpSpec)) pathUpCard

/-- THE TIED CARD OF 'ringkeep5.PathDots'. -/
def pathDotsCard : Claim7 := { stood := { row := pathDotsRow, standIns := [], harness := (true, "25128e1b93b7367ce31654beece14de0d4a29b2b995002289c2f73285060d1d9"), looks := false }, kinds := [], alts := [], laidByText := true, laidKinds := [.data, .pinned], laidTests := true, laidLooks := .later }
def PathDotsCardSaid : Prop := Claim7.holds Tryd.pinned (.plain (OpenSpec.ofChange pathDotsSpec)) pathDotsCard

/-- THE SECOND FORM's CARD OF 'ringkeep5.PathJoined'. -/
def pathJoinedUptoCard : Claim7 := { stood := { row := pathJoinedUptoRow, standIns := [], harness := (true, "25128e1b93b7367ce31654beece14de0d4a29b2b995002289c2f73285060d1d9"), looks := false }, kinds := [], alts := [], laidByText := true, laidKinds := [.data, .pinned], laidTests := true, laidLooks := .later }
def PathJoinedUptoCardSaid : Prop := Claim7.holds Tryd.pinned (.plain (OpenSpec.upto pathJoinedSpec)) pathJoinedUptoCard

/-- THE SECOND FORM's CARD OF 'ringkeep5.PathUp'. -/
def pathUpUptoCard : Claim7 := { stood := { row := pathUpUptoRow, standIns := [], harness := (true, "25128e1b93b7367ce31654beece14de0d4a29b2b995002289c2f73285060d1d9"), looks := false }, kinds := [], alts := [], laidByText := true, laidKinds := [.data, .pinned], laidTests := true, laidLooks := .later }
def PathUpUptoCardSaid : Prop := Claim7.holds Tryd.pinned (.plain (OpenSpec.upto pathUpSpec)) pathUpUptoCard

/-- THE SECOND FORM's CARD OF 'ringkeep5.PathDots'. -/
def pathDotsUptoCard : Claim7 := { stood := { row := pathDotsUptoRow, standIns := [], harness := (true, "25128e1b93b7367ce31654beece14de0d4a29b2b995002289c2f73285060d1d9"), looks := false }, kinds := [], alts := [], laidByText := true, laidKinds := [.data, .pinned], laidTests := true, laidLooks := .later }
def PathDotsUptoCardSaid : Prop := Claim7.holds Tryd.pinned (.plain (OpenSpec.upto pathDotsSpec)) pathDotsUptoCard
end Rows
end Go.Proofs.YtjkephmfpoekgaaDoor
