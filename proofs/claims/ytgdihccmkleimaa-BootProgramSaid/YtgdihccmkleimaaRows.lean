/-
  No cell of these rows narrows 'for every input' (looked for: loops, veiled, ifaces, maps, wideKeys, modest, calm, conditions, laid).
  DERIVED. THE GIVEN ROWS OF THIS SEAT. 12 by the template 'for every input the law returns true; each argument reads behind the call as it read before'; 0 by the template 'total and deterministic' (their statements: YtgdihccmkleimaaTotals.lean).
  GIVEN WITH THE SEED: the statements are not yours to turn. If you find one false, say at which input.
  Laid BY PROGRAM, IN A SANDBOX (cutbox-rows.mjs): the forced cells as the released guide's own fill.sh prints them over the translation f754418042cf41a7… (all of the seat's roots in one cut). By AI agents, Wed Nov 11 2026. No macro, syntax, notation, axiom, sorry.
-/
import Derived.Test.YtgdihccmkleimaaChecked
import GoSem.Claim
import GoSem.ClaimJoined
import GoSem.ClaimMapViews
import Derived.JoinedTies
import Derived.KernelRfl
namespace Go.Proofs.Ytgdihccmkleimaa
/- THE CELL 'sum', in the pinned program and in every row, IS THE sha256 OF THE DUMP (.gsa) THAT YtgdihccmkleimaaProg.lean LOADS. Nothing in Lean hashes anything: it is a label: what it is worth is what the hold of that sum in a sandbox is worth. -/
noncomputable def Try.pinned : Pinned := { name := "ytgdihccmkleimaa", sum := "f754418042cf41a744362a34cc42b29ec581c328b8439ae96c46057e01bc031b", checked := Try.checked }
namespace Rows
def none {H : Type} : Left H := { results := [], args := [] }

/-- 'ringkeep5.EdgeCatch': WHATEVER THE INPUT: true; the input reads as it did. -/
def edgeCatchSpec : ChangeSpec := { name := "edgeCatch", fn := fun _ => fun
  | [d1, d2, d3] => { results := [.lit (.bool true)], args := [d1, d2, d3] }
  | _ => none }
def edgeCatchRow : OpenClaim := { program := "ytgdihccmkleimaa", sum := "f754418042cf41a744362a34cc42b29ec581c328b8439ae96c46057e01bc031b", func := "ringhall/ringkeep5.EdgeCatch", spec := "edgeCatch", unfollowed := true, recurses := true, apart := false }
def EdgeCatchSaid : Prop := edgeCatchRow.holds Try.pinned (OpenSpec.ofChange edgeCatchSpec)

/-- ITS FALSE NEIGHBOUR: 'it returns false'. Refute it at one input. -/
def edgeCatchWrong : ChangeSpec := { name := "edgeCatch", fn := fun _ => fun
  | [d1, d2, d3] => { results := [.lit (.bool false)], args := [d1, d2, d3] }
  | _ => none }
def EdgeCatchWrongFalsely : Prop := edgeCatchRow.holds Try.pinned (OpenSpec.ofChange edgeCatchWrong)

/-- 'ringkeep5.BoxBack': WHATEVER THE INPUT: true; the input reads as it did. -/
def boxBackSpec : ChangeSpec := { name := "boxBack", fn := fun _ => fun
  | [d1, d2, d3] => { results := [.lit (.bool true)], args := [d1, d2, d3] }
  | _ => none }
def boxBackRow : OpenClaim := { program := "ytgdihccmkleimaa", sum := "f754418042cf41a744362a34cc42b29ec581c328b8439ae96c46057e01bc031b", func := "ringhall/ringkeep5.BoxBack", spec := "boxBack", apart := false }
def BoxBackSaid : Prop := boxBackRow.holds Try.pinned (OpenSpec.ofChange boxBackSpec)

/-- ITS FALSE NEIGHBOUR: 'it returns false'. Refute it at one input. -/
def boxBackWrong : ChangeSpec := { name := "boxBack", fn := fun _ => fun
  | [d1, d2, d3] => { results := [.lit (.bool false)], args := [d1, d2, d3] }
  | _ => none }
def BoxBackWrongFalsely : Prop := boxBackRow.holds Try.pinned (OpenSpec.ofChange boxBackWrong)

/-- 'ringkeep5.BoxNested': WHATEVER THE INPUT: true; the input reads as it did. -/
def boxNestedSpec : ChangeSpec := { name := "boxNested", fn := fun _ => fun
  | [d1, d2, d3] => { results := [.lit (.bool true)], args := [d1, d2, d3] }
  | _ => none }
def boxNestedRow : OpenClaim := { program := "ytgdihccmkleimaa", sum := "f754418042cf41a744362a34cc42b29ec581c328b8439ae96c46057e01bc031b", func := "ringhall/ringkeep5.BoxNested", spec := "boxNested", apart := false }
def BoxNestedSaid : Prop := boxNestedRow.holds Try.pinned (OpenSpec.ofChange boxNestedSpec)

/-- ITS FALSE NEIGHBOUR: 'it returns false'. Refute it at one input. -/
def boxNestedWrong : ChangeSpec := { name := "boxNested", fn := fun _ => fun
  | [d1, d2, d3] => { results := [.lit (.bool false)], args := [d1, d2, d3] }
  | _ => none }
def BoxNestedWrongFalsely : Prop := boxNestedRow.holds Try.pinned (OpenSpec.ofChange boxNestedWrong)

/-- 'ringkeep5.LabelLattice': WHATEVER THE INPUT: true; the input reads as it did. -/
def labelLatticeSpec : ChangeSpec := { name := "labelLattice", fn := fun _ => fun
  | [d1, d2, d3] => { results := [.lit (.bool true)], args := [d1, d2, d3] }
  | _ => none }
def labelLatticeRow : OpenClaim := { program := "ytgdihccmkleimaa", sum := "f754418042cf41a744362a34cc42b29ec581c328b8439ae96c46057e01bc031b", func := "ringhall/ringkeep5.LabelLattice", spec := "labelLattice", unfollowed := true, recurses := true, apart := false }
def LabelLatticeSaid : Prop := labelLatticeRow.holds Try.pinned (OpenSpec.ofChange labelLatticeSpec)

/-- ITS FALSE NEIGHBOUR: 'it returns false'. Refute it at one input. -/
def labelLatticeWrong : ChangeSpec := { name := "labelLattice", fn := fun _ => fun
  | [d1, d2, d3] => { results := [.lit (.bool false)], args := [d1, d2, d3] }
  | _ => none }
def LabelLatticeWrongFalsely : Prop := labelLatticeRow.holds Try.pinned (OpenSpec.ofChange labelLatticeWrong)

/-- 'ringkeep5.LabelDown': WHATEVER THE INPUT: true; the input reads as it did. -/
def labelDownSpec : ChangeSpec := { name := "labelDown", fn := fun _ => fun
  | [d1, d2, d3, d4] => { results := [.lit (.bool true)], args := [d1, d2, d3, d4] }
  | _ => none }
def labelDownRow : OpenClaim := { program := "ytgdihccmkleimaa", sum := "f754418042cf41a744362a34cc42b29ec581c328b8439ae96c46057e01bc031b", func := "ringhall/ringkeep5.LabelDown", spec := "labelDown", unfollowed := true, recurses := true, apart := false }
def LabelDownSaid : Prop := labelDownRow.holds Try.pinned (OpenSpec.ofChange labelDownSpec)

/-- ITS FALSE NEIGHBOUR: 'it returns false'. Refute it at one input. -/
def labelDownWrong : ChangeSpec := { name := "labelDown", fn := fun _ => fun
  | [d1, d2, d3, d4] => { results := [.lit (.bool false)], args := [d1, d2, d3, d4] }
  | _ => none }
def LabelDownWrongFalsely : Prop := labelDownRow.holds Try.pinned (OpenSpec.ofChange labelDownWrong)

/-- 'ringkeep5.SigOnce': WHATEVER THE INPUT: true; the input reads as it did. -/
def sigOnceSpec : ChangeSpec := { name := "sigOnce", fn := fun _ => fun
  | [d1, d2] => { results := [.lit (.bool true)], args := [d1, d2] }
  | _ => none }
def sigOnceRow : OpenClaim := { program := "ytgdihccmkleimaa", sum := "f754418042cf41a744362a34cc42b29ec581c328b8439ae96c46057e01bc031b", func := "ringhall/ringkeep5.SigOnce", spec := "sigOnce", unfollowed := true, recurses := true, apart := false }
def SigOnceSaid : Prop := sigOnceRow.holds Try.pinned (OpenSpec.ofChange sigOnceSpec)

/-- ITS FALSE NEIGHBOUR: 'it returns false'. Refute it at one input. -/
def sigOnceWrong : ChangeSpec := { name := "sigOnce", fn := fun _ => fun
  | [d1, d2] => { results := [.lit (.bool false)], args := [d1, d2] }
  | _ => none }
def SigOnceWrongFalsely : Prop := sigOnceRow.holds Try.pinned (OpenSpec.ofChange sigOnceWrong)

/-- 'ringkeep5.SigKeeps': WHATEVER THE INPUT: true; the input reads as it did. -/
def sigKeepsSpec : ChangeSpec := { name := "sigKeeps", fn := fun _ => fun
  | [d1, d2, d3] => { results := [.lit (.bool true)], args := [d1, d2, d3] }
  | _ => none }
def sigKeepsRow : OpenClaim := { program := "ytgdihccmkleimaa", sum := "f754418042cf41a744362a34cc42b29ec581c328b8439ae96c46057e01bc031b", func := "ringhall/ringkeep5.SigKeeps", spec := "sigKeeps", unfollowed := true, recurses := true, apart := false }
def SigKeepsSaid : Prop := sigKeepsRow.holds Try.pinned (OpenSpec.ofChange sigKeepsSpec)

/-- ITS FALSE NEIGHBOUR: 'it returns false'. Refute it at one input. -/
def sigKeepsWrong : ChangeSpec := { name := "sigKeeps", fn := fun _ => fun
  | [d1, d2, d3] => { results := [.lit (.bool false)], args := [d1, d2, d3] }
  | _ => none }
def SigKeepsWrongFalsely : Prop := sigKeepsRow.holds Try.pinned (OpenSpec.ofChange sigKeepsWrong)

/-- 'ringkeep5.LimitAll': WHATEVER THE INPUT: true; the input reads as it did. -/
def limitAllSpec : ChangeSpec := { name := "limitAll", fn := fun _ => fun
  | [d1, d2] => { results := [.lit (.bool true)], args := [d1, d2] }
  | _ => none }
def limitAllRow : OpenClaim := { program := "ytgdihccmkleimaa", sum := "f754418042cf41a744362a34cc42b29ec581c328b8439ae96c46057e01bc031b", func := "ringhall/ringkeep5.LimitAll", spec := "limitAll", apart := false }
def LimitAllSaid : Prop := limitAllRow.holds Try.pinned (OpenSpec.ofChange limitAllSpec)

/-- ITS FALSE NEIGHBOUR: 'it returns false'. Refute it at one input. -/
def limitAllWrong : ChangeSpec := { name := "limitAll", fn := fun _ => fun
  | [d1, d2] => { results := [.lit (.bool false)], args := [d1, d2] }
  | _ => none }
def LimitAllWrongFalsely : Prop := limitAllRow.holds Try.pinned (OpenSpec.ofChange limitAllWrong)

/-- 'ringkeep5.LimitBack': WHATEVER THE INPUT: true; the input reads as it did. -/
def limitBackSpec : ChangeSpec := { name := "limitBack", fn := fun _ => fun
  | [d1, d2, d3] => { results := [.lit (.bool true)], args := [d1, d2, d3] }
  | _ => none }
def limitBackRow : OpenClaim := { program := "ytgdihccmkleimaa", sum := "f754418042cf41a744362a34cc42b29ec581c328b8439ae96c46057e01bc031b", func := "ringhall/ringkeep5.LimitBack", spec := "limitBack", unfollowed := true, recurses := true, apart := false }
def LimitBackSaid : Prop := limitBackRow.holds Try.pinned (OpenSpec.ofChange limitBackSpec)

/-- ITS FALSE NEIGHBOUR: 'it returns false'. Refute it at one input. -/
def limitBackWrong : ChangeSpec := { name := "limitBack", fn := fun _ => fun
  | [d1, d2, d3] => { results := [.lit (.bool false)], args := [d1, d2, d3] }
  | _ => none }
def LimitBackWrongFalsely : Prop := limitBackRow.holds Try.pinned (OpenSpec.ofChange limitBackWrong)

/-- 'ringkeep5.ProcOnce': WHATEVER THE INPUT: true; the input reads as it did. -/
def procOnceSpec : ChangeSpec := { name := "procOnce", fn := fun _ => fun
  | [d] => { results := [.lit (.bool true)], args := [d] }
  | _ => none }
def procOnceRow : OpenClaim := { program := "ytgdihccmkleimaa", sum := "f754418042cf41a744362a34cc42b29ec581c328b8439ae96c46057e01bc031b", func := "ringhall/ringkeep5.ProcOnce", spec := "procOnce", unfollowed := true, recurses := true, apart := false }
def ProcOnceSaid : Prop := procOnceRow.holds Try.pinned (OpenSpec.ofChange procOnceSpec)

/-- ITS FALSE NEIGHBOUR: 'it returns false'. Refute it at one input. -/
def procOnceWrong : ChangeSpec := { name := "procOnce", fn := fun _ => fun
  | [d] => { results := [.lit (.bool false)], args := [d] }
  | _ => none }
def ProcOnceWrongFalsely : Prop := procOnceRow.holds Try.pinned (OpenSpec.ofChange procOnceWrong)

/-- 'ringkeep5.ProcTree': WHATEVER THE INPUT: true; the input reads as it did. -/
def procTreeSpec : ChangeSpec := { name := "procTree", fn := fun _ => fun
  | [d] => { results := [.lit (.bool true)], args := [d] }
  | _ => none }
def procTreeRow : OpenClaim := { program := "ytgdihccmkleimaa", sum := "f754418042cf41a744362a34cc42b29ec581c328b8439ae96c46057e01bc031b", func := "ringhall/ringkeep5.ProcTree", spec := "procTree", unfollowed := true, recurses := true, apart := false }
def ProcTreeSaid : Prop := procTreeRow.holds Try.pinned (OpenSpec.ofChange procTreeSpec)

/-- ITS FALSE NEIGHBOUR: 'it returns false'. Refute it at one input. -/
def procTreeWrong : ChangeSpec := { name := "procTree", fn := fun _ => fun
  | [d] => { results := [.lit (.bool false)], args := [d] }
  | _ => none }
def ProcTreeWrongFalsely : Prop := procTreeRow.holds Try.pinned (OpenSpec.ofChange procTreeWrong)

/-- 'ringkeep5.BootProgram': WHATEVER THE INPUT: true; the input reads as it did. -/
def bootProgramSpec : ChangeSpec := { name := "bootProgram", fn := fun _ => fun
  | [d1, d2] => { results := [.lit (.bool true)], args := [d1, d2] }
  | _ => none }
def bootProgramRow : OpenClaim := { program := "ytgdihccmkleimaa", sum := "f754418042cf41a744362a34cc42b29ec581c328b8439ae96c46057e01bc031b", func := "ringhall/ringkeep5.BootProgram", spec := "bootProgram", apart := false }
def BootProgramSaid : Prop := bootProgramRow.holds Try.pinned (OpenSpec.ofChange bootProgramSpec)

/-- ITS FALSE NEIGHBOUR: 'it returns false'. Refute it at one input. -/
def bootProgramWrong : ChangeSpec := { name := "bootProgram", fn := fun _ => fun
  | [d1, d2] => { results := [.lit (.bool false)], args := [d1, d2] }
  | _ => none }
def BootProgramWrongFalsely : Prop := bootProgramRow.holds Try.pinned (OpenSpec.ofChange bootProgramWrong)

/- THE SECOND FORM. 'bulk': how many values and letters a reading holds, each counted each time it is reached (what is shared counts as often as it is met; a slice's spare places count too). A statement '..UptoSaid' is the law's where the arguments, and the package variables that the reading takes, are together of bulk at most 1048576: NARROWER than '..Said'. Prove '..Said' where nothing that the law and all that it calls make is longer than what came in: it says more and counts as full. Else prove '..UptoSaid'. A law counts once. -/
mutual
def uptoBulk {H : Type} : DataW H → Nat
  | .lit (.string bytes) => bytes.length + 1
  | .lit _ => 1
  | .nil => 1
  | .ptr d => uptoBulk d + 1
  | .slice elems spare => uptoBulkAll elems + uptoBulkAll spare + 1
  | .agg parts => uptoBulkAll parts + 1
  | .iface _ d => uptoBulk d + 1
  | .map entries => uptoBulkEntries entries + 1
  | .held _ => 1
def uptoBulkAll {H : Type} : List (DataW H) → Nat
  | [] => 0
  | d :: r => uptoBulk d + uptoBulkAll r
def uptoBulkEntries {H : Type} : List (Lit × DataW H) → Nat
  | [] => 0
  | x :: r => uptoBulkEntry x + uptoBulkEntries r
def uptoBulkEntry {H : Type} : Lit × DataW H → Nat
  | (.string bytes, d) => bytes.length + uptoBulk d + 1
  | (_, d) => uptoBulk d + 1
 end
def uptoSmall : (H : Type) → List (DataW H) → Bool := fun _ ds => decide (uptoBulkAll ds ≤ 1048576)
def OpenSpec.upto (s : _root_.Go.ChangeSpec) : _root_.Go.OpenSpec := { _root_.Go.OpenSpec.ofChange s with cond := some uptoSmall }

/-- 'ringkeep5.EdgeCatch', WHERE WHAT IT READS IS OF BULK AT MOST 1048576: true; the input reads as it did. -/
def edgeCatchUptoRow : OpenClaim := { program := "ytgdihccmkleimaa", sum := "f754418042cf41a744362a34cc42b29ec581c328b8439ae96c46057e01bc031b", func := "ringhall/ringkeep5.EdgeCatch", spec := "edgeCatch", unfollowed := true, recurses := true, apart := false, narrowed := true }
def EdgeCatchUptoSaid : Prop := edgeCatchUptoRow.holds Try.pinned (OpenSpec.upto edgeCatchSpec)

/-- 'ringkeep5.BoxBack', WHERE WHAT IT READS IS OF BULK AT MOST 1048576: true; the input reads as it did. -/
def boxBackUptoRow : OpenClaim := { program := "ytgdihccmkleimaa", sum := "f754418042cf41a744362a34cc42b29ec581c328b8439ae96c46057e01bc031b", func := "ringhall/ringkeep5.BoxBack", spec := "boxBack", apart := false, narrowed := true }
def BoxBackUptoSaid : Prop := boxBackUptoRow.holds Try.pinned (OpenSpec.upto boxBackSpec)

/-- 'ringkeep5.BoxNested', WHERE WHAT IT READS IS OF BULK AT MOST 1048576: true; the input reads as it did. -/
def boxNestedUptoRow : OpenClaim := { program := "ytgdihccmkleimaa", sum := "f754418042cf41a744362a34cc42b29ec581c328b8439ae96c46057e01bc031b", func := "ringhall/ringkeep5.BoxNested", spec := "boxNested", apart := false, narrowed := true }
def BoxNestedUptoSaid : Prop := boxNestedUptoRow.holds Try.pinned (OpenSpec.upto boxNestedSpec)

/-- 'ringkeep5.LabelLattice', WHERE WHAT IT READS IS OF BULK AT MOST 1048576: true; the input reads as it did. -/
def labelLatticeUptoRow : OpenClaim := { program := "ytgdihccmkleimaa", sum := "f754418042cf41a744362a34cc42b29ec581c328b8439ae96c46057e01bc031b", func := "ringhall/ringkeep5.LabelLattice", spec := "labelLattice", unfollowed := true, recurses := true, apart := false, narrowed := true }
def LabelLatticeUptoSaid : Prop := labelLatticeUptoRow.holds Try.pinned (OpenSpec.upto labelLatticeSpec)

/-- 'ringkeep5.LabelDown', WHERE WHAT IT READS IS OF BULK AT MOST 1048576: true; the input reads as it did. -/
def labelDownUptoRow : OpenClaim := { program := "ytgdihccmkleimaa", sum := "f754418042cf41a744362a34cc42b29ec581c328b8439ae96c46057e01bc031b", func := "ringhall/ringkeep5.LabelDown", spec := "labelDown", unfollowed := true, recurses := true, apart := false, narrowed := true }
def LabelDownUptoSaid : Prop := labelDownUptoRow.holds Try.pinned (OpenSpec.upto labelDownSpec)

/-- 'ringkeep5.SigOnce', WHERE WHAT IT READS IS OF BULK AT MOST 1048576: true; the input reads as it did. -/
def sigOnceUptoRow : OpenClaim := { program := "ytgdihccmkleimaa", sum := "f754418042cf41a744362a34cc42b29ec581c328b8439ae96c46057e01bc031b", func := "ringhall/ringkeep5.SigOnce", spec := "sigOnce", unfollowed := true, recurses := true, apart := false, narrowed := true }
def SigOnceUptoSaid : Prop := sigOnceUptoRow.holds Try.pinned (OpenSpec.upto sigOnceSpec)

/-- 'ringkeep5.SigKeeps', WHERE WHAT IT READS IS OF BULK AT MOST 1048576: true; the input reads as it did. -/
def sigKeepsUptoRow : OpenClaim := { program := "ytgdihccmkleimaa", sum := "f754418042cf41a744362a34cc42b29ec581c328b8439ae96c46057e01bc031b", func := "ringhall/ringkeep5.SigKeeps", spec := "sigKeeps", unfollowed := true, recurses := true, apart := false, narrowed := true }
def SigKeepsUptoSaid : Prop := sigKeepsUptoRow.holds Try.pinned (OpenSpec.upto sigKeepsSpec)

/-- 'ringkeep5.LimitAll', WHERE WHAT IT READS IS OF BULK AT MOST 1048576: true; the input reads as it did. -/
def limitAllUptoRow : OpenClaim := { program := "ytgdihccmkleimaa", sum := "f754418042cf41a744362a34cc42b29ec581c328b8439ae96c46057e01bc031b", func := "ringhall/ringkeep5.LimitAll", spec := "limitAll", apart := false, narrowed := true }
def LimitAllUptoSaid : Prop := limitAllUptoRow.holds Try.pinned (OpenSpec.upto limitAllSpec)

/-- 'ringkeep5.LimitBack', WHERE WHAT IT READS IS OF BULK AT MOST 1048576: true; the input reads as it did. -/
def limitBackUptoRow : OpenClaim := { program := "ytgdihccmkleimaa", sum := "f754418042cf41a744362a34cc42b29ec581c328b8439ae96c46057e01bc031b", func := "ringhall/ringkeep5.LimitBack", spec := "limitBack", unfollowed := true, recurses := true, apart := false, narrowed := true }
def LimitBackUptoSaid : Prop := limitBackUptoRow.holds Try.pinned (OpenSpec.upto limitBackSpec)

/-- 'ringkeep5.ProcOnce', WHERE WHAT IT READS IS OF BULK AT MOST 1048576: true; the input reads as it did. -/
def procOnceUptoRow : OpenClaim := { program := "ytgdihccmkleimaa", sum := "f754418042cf41a744362a34cc42b29ec581c328b8439ae96c46057e01bc031b", func := "ringhall/ringkeep5.ProcOnce", spec := "procOnce", unfollowed := true, recurses := true, apart := false, narrowed := true }
def ProcOnceUptoSaid : Prop := procOnceUptoRow.holds Try.pinned (OpenSpec.upto procOnceSpec)

/-- 'ringkeep5.ProcTree', WHERE WHAT IT READS IS OF BULK AT MOST 1048576: true; the input reads as it did. -/
def procTreeUptoRow : OpenClaim := { program := "ytgdihccmkleimaa", sum := "f754418042cf41a744362a34cc42b29ec581c328b8439ae96c46057e01bc031b", func := "ringhall/ringkeep5.ProcTree", spec := "procTree", unfollowed := true, recurses := true, apart := false, narrowed := true }
def ProcTreeUptoSaid : Prop := procTreeUptoRow.holds Try.pinned (OpenSpec.upto procTreeSpec)

/-- 'ringkeep5.BootProgram', WHERE WHAT IT READS IS OF BULK AT MOST 1048576: true; the input reads as it did. -/
def bootProgramUptoRow : OpenClaim := { program := "ytgdihccmkleimaa", sum := "f754418042cf41a744362a34cc42b29ec581c328b8439ae96c46057e01bc031b", func := "ringhall/ringkeep5.BootProgram", spec := "bootProgram", apart := false, narrowed := true }
def BootProgramUptoSaid : Prop := bootProgramUptoRow.holds Try.pinned (OpenSpec.upto bootProgramSpec)

end Rows
end Go.Proofs.Ytgdihccmkleimaa
