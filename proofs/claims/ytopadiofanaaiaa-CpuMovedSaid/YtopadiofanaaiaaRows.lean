/-
  No cell of these rows narrows 'for every input' (looked for: loops, veiled, ifaces, maps, wideKeys, modest, calm, conditions, laid).
  DERIVED. THE GIVEN ROWS OF THIS SEAT. 8 by the template 'for every input the law returns true; each argument reads behind the call as it read before'; 0 by the template 'total and deterministic' (their statements: YtopadiofanaaiaaTotals.lean).
  GIVEN WITH THE SEED: the statements are not yours to turn. If you find one false, say at which input.
  Laid BY PROGRAM, IN A SANDBOX (cutbox-rows.mjs): the forced cells as the released guide's own fill.sh prints them over the translation 9b2c149d97bd004d… (all of the seat's roots in one cut). By AI agents, Wed Nov 11 2026. No macro, syntax, notation, axiom, sorry.
-/
import Derived.Test.YtopadiofanaaiaaChecked
import GoSem.Claim
import GoSem.ClaimJoined
import GoSem.ClaimMapViews
import Derived.JoinedTies
import Derived.KernelRfl
namespace Go.Proofs.Ytopadiofanaaiaa
/- THE CELL 'sum', in the pinned program and in every row, IS THE sha256 OF THE DUMP (.gsa) THAT YtopadiofanaaiaaProg.lean LOADS. Nothing in Lean hashes anything: it is a label: what it is worth is what the hold of that sum in a sandbox is worth. -/
noncomputable def Try.pinned : Pinned := { name := "ytopadiofanaaiaa", sum := "9b2c149d97bd004db31dd96c964b41987fdd9bf2637b9506339b53614591dde2", checked := Try.checked }
namespace Rows
def none {H : Type} : Left H := { results := [], args := [] }

/-- 'ringkeep5.TurnCount': WHATEVER THE INPUT: true; the input reads as it did. -/
def turnCountSpec : ChangeSpec := { name := "turnCount", fn := fun _ => fun
  | [d1, d2] => { results := [.lit (.bool true)], args := [d1, d2] }
  | _ => none }
def turnCountRow : OpenClaim := { program := "ytopadiofanaaiaa", sum := "9b2c149d97bd004db31dd96c964b41987fdd9bf2637b9506339b53614591dde2", func := "ringhall/ringkeep5.TurnCount", spec := "turnCount", unfollowed := true, recurses := true, apart := false }
def TurnCountSaid : Prop := turnCountRow.holds Try.pinned (OpenSpec.ofChange turnCountSpec)

/-- ITS FALSE NEIGHBOUR: 'it returns false'. Refute it at one input. -/
def turnCountWrong : ChangeSpec := { name := "turnCount", fn := fun _ => fun
  | [d1, d2] => { results := [.lit (.bool false)], args := [d1, d2] }
  | _ => none }
def TurnCountWrongFalsely : Prop := turnCountRow.holds Try.pinned (OpenSpec.ofChange turnCountWrong)

/-- 'ringkeep5.TurnAdds': WHATEVER THE INPUT: true; the input reads as it did. -/
def turnAddsSpec : ChangeSpec := { name := "turnAdds", fn := fun _ => fun
  | [d1, d2, d3, d4] => { results := [.lit (.bool true)], args := [d1, d2, d3, d4] }
  | _ => none }
def turnAddsRow : OpenClaim := { program := "ytopadiofanaaiaa", sum := "9b2c149d97bd004db31dd96c964b41987fdd9bf2637b9506339b53614591dde2", func := "ringhall/ringkeep5.TurnAdds", spec := "turnAdds", unfollowed := true, recurses := true, apart := false }
def TurnAddsSaid : Prop := turnAddsRow.holds Try.pinned (OpenSpec.ofChange turnAddsSpec)

/-- ITS FALSE NEIGHBOUR: 'it returns false'. Refute it at one input. -/
def turnAddsWrong : ChangeSpec := { name := "turnAdds", fn := fun _ => fun
  | [d1, d2, d3, d4] => { results := [.lit (.bool false)], args := [d1, d2, d3, d4] }
  | _ => none }
def TurnAddsWrongFalsely : Prop := turnAddsRow.holds Try.pinned (OpenSpec.ofChange turnAddsWrong)

/-- 'ringkeep5.TurnOne': WHATEVER THE INPUT: true; the input reads as it did. -/
def turnOneSpec : ChangeSpec := { name := "turnOne", fn := fun _ => fun
  | [d1, d2] => { results := [.lit (.bool true)], args := [d1, d2] }
  | _ => none }
def turnOneRow : OpenClaim := { program := "ytopadiofanaaiaa", sum := "9b2c149d97bd004db31dd96c964b41987fdd9bf2637b9506339b53614591dde2", func := "ringhall/ringkeep5.TurnOne", spec := "turnOne", unfollowed := true, recurses := true, apart := false }
def TurnOneSaid : Prop := turnOneRow.holds Try.pinned (OpenSpec.ofChange turnOneSpec)

/-- ITS FALSE NEIGHBOUR: 'it returns false'. Refute it at one input. -/
def turnOneWrong : ChangeSpec := { name := "turnOne", fn := fun _ => fun
  | [d1, d2] => { results := [.lit (.bool false)], args := [d1, d2] }
  | _ => none }
def TurnOneWrongFalsely : Prop := turnOneRow.holds Try.pinned (OpenSpec.ofChange turnOneWrong)

/-- 'ringkeep5.TurnLost': WHATEVER THE INPUT: true; the input reads as it did. -/
def turnLostSpec : ChangeSpec := { name := "turnLost", fn := fun _ => fun
  | [d] => { results := [.lit (.bool true)], args := [d] }
  | _ => none }
def turnLostRow : OpenClaim := { program := "ytopadiofanaaiaa", sum := "9b2c149d97bd004db31dd96c964b41987fdd9bf2637b9506339b53614591dde2", func := "ringhall/ringkeep5.TurnLost", spec := "turnLost", unfollowed := true, recurses := true, apart := false }
def TurnLostSaid : Prop := turnLostRow.holds Try.pinned (OpenSpec.ofChange turnLostSpec)

/-- ITS FALSE NEIGHBOUR: 'it returns false'. Refute it at one input. -/
def turnLostWrong : ChangeSpec := { name := "turnLost", fn := fun _ => fun
  | [d] => { results := [.lit (.bool false)], args := [d] }
  | _ => none }
def TurnLostWrongFalsely : Prop := turnLostRow.holds Try.pinned (OpenSpec.ofChange turnLostWrong)

/-- 'ringkeep5.TurnBack': WHATEVER THE INPUT: true; the input reads as it did. -/
def turnBackSpec : ChangeSpec := { name := "turnBack", fn := fun _ => fun
  | [d1, d2, d3] => { results := [.lit (.bool true)], args := [d1, d2, d3] }
  | _ => none }
def turnBackRow : OpenClaim := { program := "ytopadiofanaaiaa", sum := "9b2c149d97bd004db31dd96c964b41987fdd9bf2637b9506339b53614591dde2", func := "ringhall/ringkeep5.TurnBack", spec := "turnBack", unfollowed := true, recurses := true, apart := false }
def TurnBackSaid : Prop := turnBackRow.holds Try.pinned (OpenSpec.ofChange turnBackSpec)

/-- ITS FALSE NEIGHBOUR: 'it returns false'. Refute it at one input. -/
def turnBackWrong : ChangeSpec := { name := "turnBack", fn := fun _ => fun
  | [d1, d2, d3] => { results := [.lit (.bool false)], args := [d1, d2, d3] }
  | _ => none }
def TurnBackWrongFalsely : Prop := turnBackRow.holds Try.pinned (OpenSpec.ofChange turnBackWrong)

/-- 'ringkeep5.CpuMoved': WHATEVER THE INPUT: true; the input reads as it did. -/
def cpuMovedSpec : ChangeSpec := { name := "cpuMoved", fn := fun _ => fun
  | [d1, d2, d3] => { results := [.lit (.bool true)], args := [d1, d2, d3] }
  | _ => none }
def cpuMovedRow : OpenClaim := { program := "ytopadiofanaaiaa", sum := "9b2c149d97bd004db31dd96c964b41987fdd9bf2637b9506339b53614591dde2", func := "ringhall/ringkeep5.CpuMoved", spec := "cpuMoved", unfollowed := true, recurses := true, apart := false }
def CpuMovedSaid : Prop := cpuMovedRow.holds Try.pinned (OpenSpec.ofChange cpuMovedSpec)

/-- ITS FALSE NEIGHBOUR: 'it returns false'. Refute it at one input. -/
def cpuMovedWrong : ChangeSpec := { name := "cpuMoved", fn := fun _ => fun
  | [d1, d2, d3] => { results := [.lit (.bool false)], args := [d1, d2, d3] }
  | _ => none }
def CpuMovedWrongFalsely : Prop := cpuMovedRow.holds Try.pinned (OpenSpec.ofChange cpuMovedWrong)

/-- 'ringkeep5.CpuRing': WHATEVER THE INPUT: true; the input reads as it did. -/
def cpuRingSpec : ChangeSpec := { name := "cpuRing", fn := fun _ => fun
  | [d1, d2, d3] => { results := [.lit (.bool true)], args := [d1, d2, d3] }
  | _ => none }
def cpuRingRow : OpenClaim := { program := "ytopadiofanaaiaa", sum := "9b2c149d97bd004db31dd96c964b41987fdd9bf2637b9506339b53614591dde2", func := "ringhall/ringkeep5.CpuRing", spec := "cpuRing", unfollowed := true, recurses := true, apart := false }
def CpuRingSaid : Prop := cpuRingRow.holds Try.pinned (OpenSpec.ofChange cpuRingSpec)

/-- ITS FALSE NEIGHBOUR: 'it returns false'. Refute it at one input. -/
def cpuRingWrong : ChangeSpec := { name := "cpuRing", fn := fun _ => fun
  | [d1, d2, d3] => { results := [.lit (.bool false)], args := [d1, d2, d3] }
  | _ => none }
def CpuRingWrongFalsely : Prop := cpuRingRow.holds Try.pinned (OpenSpec.ofChange cpuRingWrong)

/-- 'ringkeep5.CpuWords': WHATEVER THE INPUT: true; the input reads as it did. -/
def cpuWordsSpec : ChangeSpec := { name := "cpuWords", fn := fun _ => fun
  | [d1, d2, d3] => { results := [.lit (.bool true)], args := [d1, d2, d3] }
  | _ => none }
def cpuWordsRow : OpenClaim := { program := "ytopadiofanaaiaa", sum := "9b2c149d97bd004db31dd96c964b41987fdd9bf2637b9506339b53614591dde2", func := "ringhall/ringkeep5.CpuWords", spec := "cpuWords", unfollowed := true, recurses := true, apart := false }
def CpuWordsSaid : Prop := cpuWordsRow.holds Try.pinned (OpenSpec.ofChange cpuWordsSpec)

/-- ITS FALSE NEIGHBOUR: 'it returns false'. Refute it at one input. -/
def cpuWordsWrong : ChangeSpec := { name := "cpuWords", fn := fun _ => fun
  | [d1, d2, d3] => { results := [.lit (.bool false)], args := [d1, d2, d3] }
  | _ => none }
def CpuWordsWrongFalsely : Prop := cpuWordsRow.holds Try.pinned (OpenSpec.ofChange cpuWordsWrong)

/- THE SECOND FORM. 'bulk': how many values and letters a reading holds, each counted each time it is reached (what is shared counts as often as it is met; a slice's spare places count too). A statement '..UptoSaid' is the law's where the arguments, and the package variables that the reading takes, are together of bulk at most 1048576: NARROWER than '..Said'. Prove '..Said' where nothing that the law and all that it calls make is longer than what came in: it says more and counts as full. Else prove '..UptoSaid'. A law counts once. -/
mutual
def uptoBulk {H : Type} : DataW H → Nat
  | .lit (.string bytes) => bytes.length + 1
  | .lit _ => 1
  | .nil => 1
  | .ptr d => uptoBulk d + 1
  | .slice elems spare => uptoBulkAll elems + uptoBulkAll spare + 1
  | .agg parts => uptoBulkAll parts + 1
  | .iface _ d => uptoBulk d + 1
  | .map entries => uptoBulkEntries entries + 1
  | .held _ => 1
def uptoBulkAll {H : Type} : List (DataW H) → Nat
  | [] => 0
  | d :: r => uptoBulk d + uptoBulkAll r
def uptoBulkEntries {H : Type} : List (Lit × DataW H) → Nat
  | [] => 0
  | x :: r => uptoBulkEntry x + uptoBulkEntries r
def uptoBulkEntry {H : Type} : Lit × DataW H → Nat
  | (.string bytes, d) => bytes.length + uptoBulk d + 1
  | (_, d) => uptoBulk d + 1
 end
def uptoSmall : (H : Type) → List (DataW H) → Bool := fun _ ds => decide (uptoBulkAll ds ≤ 1048576)
def OpenSpec.upto (s : _root_.Go.ChangeSpec) : _root_.Go.OpenSpec := { _root_.Go.OpenSpec.ofChange s with cond := some uptoSmall }

/-- 'ringkeep5.TurnCount', WHERE WHAT IT READS IS OF BULK AT MOST 1048576: true; the input reads as it did. -/
def turnCountUptoRow : OpenClaim := { program := "ytopadiofanaaiaa", sum := "9b2c149d97bd004db31dd96c964b41987fdd9bf2637b9506339b53614591dde2", func := "ringhall/ringkeep5.TurnCount", spec := "turnCount", unfollowed := true, recurses := true, apart := false, narrowed := true }
def TurnCountUptoSaid : Prop := turnCountUptoRow.holds Try.pinned (OpenSpec.upto turnCountSpec)

/-- 'ringkeep5.TurnAdds', WHERE WHAT IT READS IS OF BULK AT MOST 1048576: true; the input reads as it did. -/
def turnAddsUptoRow : OpenClaim := { program := "ytopadiofanaaiaa", sum := "9b2c149d97bd004db31dd96c964b41987fdd9bf2637b9506339b53614591dde2", func := "ringhall/ringkeep5.TurnAdds", spec := "turnAdds", unfollowed := true, recurses := true, apart := false, narrowed := true }
def TurnAddsUptoSaid : Prop := turnAddsUptoRow.holds Try.pinned (OpenSpec.upto turnAddsSpec)

/-- 'ringkeep5.TurnOne', WHERE WHAT IT READS IS OF BULK AT MOST 1048576: true; the input reads as it did. -/
def turnOneUptoRow : OpenClaim := { program := "ytopadiofanaaiaa", sum := "9b2c149d97bd004db31dd96c964b41987fdd9bf2637b9506339b53614591dde2", func := "ringhall/ringkeep5.TurnOne", spec := "turnOne", unfollowed := true, recurses := true, apart := false, narrowed := true }
def TurnOneUptoSaid : Prop := turnOneUptoRow.holds Try.pinned (OpenSpec.upto turnOneSpec)

/-- 'ringkeep5.TurnLost', WHERE WHAT IT READS IS OF BULK AT MOST 1048576: true; the input reads as it did. -/
def turnLostUptoRow : OpenClaim := { program := "ytopadiofanaaiaa", sum := "9b2c149d97bd004db31dd96c964b41987fdd9bf2637b9506339b53614591dde2", func := "ringhall/ringkeep5.TurnLost", spec := "turnLost", unfollowed := true, recurses := true, apart := false, narrowed := true }
def TurnLostUptoSaid : Prop := turnLostUptoRow.holds Try.pinned (OpenSpec.upto turnLostSpec)

/-- 'ringkeep5.TurnBack', WHERE WHAT IT READS IS OF BULK AT MOST 1048576: true; the input reads as it did. -/
def turnBackUptoRow : OpenClaim := { program := "ytopadiofanaaiaa", sum := "9b2c149d97bd004db31dd96c964b41987fdd9bf2637b9506339b53614591dde2", func := "ringhall/ringkeep5.TurnBack", spec := "turnBack", unfollowed := true, recurses := true, apart := false, narrowed := true }
def TurnBackUptoSaid : Prop := turnBackUptoRow.holds Try.pinned (OpenSpec.upto turnBackSpec)

/-- 'ringkeep5.CpuMoved', WHERE WHAT IT READS IS OF BULK AT MOST 1048576: true; the input reads as it did. -/
def cpuMovedUptoRow : OpenClaim := { program := "ytopadiofanaaiaa", sum := "9b2c149d97bd004db31dd96c964b41987fdd9bf2637b9506339b53614591dde2", func := "ringhall/ringkeep5.CpuMoved", spec := "cpuMoved", unfollowed := true, recurses := true, apart := false, narrowed := true }
def CpuMovedUptoSaid : Prop := cpuMovedUptoRow.holds Try.pinned (OpenSpec.upto cpuMovedSpec)

/-- 'ringkeep5.CpuRing', WHERE WHAT IT READS IS OF BULK AT MOST 1048576: true; the input reads as it did. -/
def cpuRingUptoRow : OpenClaim := { program := "ytopadiofanaaiaa", sum := "9b2c149d97bd004db31dd96c964b41987fdd9bf2637b9506339b53614591dde2", func := "ringhall/ringkeep5.CpuRing", spec := "cpuRing", unfollowed := true, recurses := true, apart := false, narrowed := true }
def CpuRingUptoSaid : Prop := cpuRingUptoRow.holds Try.pinned (OpenSpec.upto cpuRingSpec)

/-- 'ringkeep5.CpuWords', WHERE WHAT IT READS IS OF BULK AT MOST 1048576: true; the input reads as it did. -/
def cpuWordsUptoRow : OpenClaim := { program := "ytopadiofanaaiaa", sum := "9b2c149d97bd004db31dd96c964b41987fdd9bf2637b9506339b53614591dde2", func := "ringhall/ringkeep5.CpuWords", spec := "cpuWords", unfollowed := true, recurses := true, apart := false, narrowed := true }
def CpuWordsUptoSaid : Prop := cpuWordsUptoRow.holds Try.pinned (OpenSpec.upto cpuWordsSpec)

end Rows
end Go.Proofs.Ytopadiofanaaiaa
