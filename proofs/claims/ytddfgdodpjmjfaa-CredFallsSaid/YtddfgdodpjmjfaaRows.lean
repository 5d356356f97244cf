/-
  No cell of these rows narrows 'for every input' (looked for: loops, veiled, ifaces, maps, wideKeys, modest, calm, conditions, laid).
  DERIVED. THE GIVEN ROWS OF THIS SEAT. 12 by the template 'for every input the law returns true; each argument reads behind the call as it read before'; 0 by the template 'total and deterministic' (their statements: YtddfgdodpjmjfaaTotals.lean).
  GIVEN WITH THE SEED: the statements are not yours to turn. If you find one false, say at which input.
  Laid BY PROGRAM, IN A SANDBOX (cutbox-rows.mjs): the forced cells as the released guide's own fill.sh prints them over the translation 567d6c9364f0766d… (all of the seat's roots in one cut). By AI agents, Wed Nov 11 2026. No macro, syntax, notation, axiom, sorry.
-/
import Derived.Test.YtddfgdodpjmjfaaChecked
import GoSem.Claim
import GoSem.ClaimJoined
import GoSem.ClaimMapViews
import Derived.JoinedTies
import Derived.KernelRfl
namespace Go.Proofs.Ytddfgdodpjmjfaa
/- THE CELL 'sum', in the pinned program and in every row, IS THE sha256 OF THE DUMP (.gsa) THAT YtddfgdodpjmjfaaProg.lean LOADS. Nothing in Lean hashes anything: it is a label: what it is worth is what the hold of that sum in a sandbox is worth. -/
noncomputable def Try.pinned : Pinned := { name := "ytddfgdodpjmjfaa", sum := "567d6c9364f0766d9af05f8ce2d0a6825f3991a3ac38e1dabe33bfdb41d5437b", checked := Try.checked }
namespace Rows
def none {H : Type} : Left H := { results := [], args := [] }

/-- 'ringkeep5.CodeBack': WHATEVER THE INPUT: true; the input reads as it did. -/
def codeBackSpec : ChangeSpec := { name := "codeBack", fn := fun _ => fun
  | [d1, d2] => { results := [.lit (.bool true)], args := [d1, d2] }
  | _ => none }
def codeBackRow : OpenClaim := { program := "ytddfgdodpjmjfaa", sum := "567d6c9364f0766d9af05f8ce2d0a6825f3991a3ac38e1dabe33bfdb41d5437b", func := "ringhall/ringkeep5.CodeBack", spec := "codeBack", unfollowed := true, recurses := true, apart := false }
def CodeBackSaid : Prop := codeBackRow.holds Try.pinned (OpenSpec.ofChange codeBackSpec)

/-- ITS FALSE NEIGHBOUR: 'it returns false'. Refute it at one input. -/
def codeBackWrong : ChangeSpec := { name := "codeBack", fn := fun _ => fun
  | [d1, d2] => { results := [.lit (.bool false)], args := [d1, d2] }
  | _ => none }
def CodeBackWrongFalsely : Prop := codeBackRow.holds Try.pinned (OpenSpec.ofChange codeBackWrong)

/-- 'ringkeep5.CodeNames': WHATEVER THE INPUT: true; the input reads as it did. -/
def codeNamesSpec : ChangeSpec := { name := "codeNames", fn := fun _ => fun
  | [d1, d2] => { results := [.lit (.bool true)], args := [d1, d2] }
  | _ => none }
def codeNamesRow : OpenClaim := { program := "ytddfgdodpjmjfaa", sum := "567d6c9364f0766d9af05f8ce2d0a6825f3991a3ac38e1dabe33bfdb41d5437b", func := "ringhall/ringkeep5.CodeNames", spec := "codeNames", unfollowed := true, recurses := true, apart := false }
def CodeNamesSaid : Prop := codeNamesRow.holds Try.pinned (OpenSpec.ofChange codeNamesSpec)

/-- ITS FALSE NEIGHBOUR: 'it returns false'. Refute it at one input. -/
def codeNamesWrong : ChangeSpec := { name := "codeNames", fn := fun _ => fun
  | [d1, d2] => { results := [.lit (.bool false)], args := [d1, d2] }
  | _ => none }
def CodeNamesWrongFalsely : Prop := codeNamesRow.holds Try.pinned (OpenSpec.ofChange codeNamesWrong)

/-- 'ringkeep5.ModeEach': WHATEVER THE INPUT: true; the input reads as it did. -/
def modeEachSpec : ChangeSpec := { name := "modeEach", fn := fun _ => fun
  | [d1, d2, d3, d4] => { results := [.lit (.bool true)], args := [d1, d2, d3, d4] }
  | _ => none }
def modeEachRow : OpenClaim := { program := "ytddfgdodpjmjfaa", sum := "567d6c9364f0766d9af05f8ce2d0a6825f3991a3ac38e1dabe33bfdb41d5437b", func := "ringhall/ringkeep5.ModeEach", spec := "modeEach", unfollowed := true, recurses := true, apart := false }
def ModeEachSaid : Prop := modeEachRow.holds Try.pinned (OpenSpec.ofChange modeEachSpec)

/-- ITS FALSE NEIGHBOUR: 'it returns false'. Refute it at one input. -/
def modeEachWrong : ChangeSpec := { name := "modeEach", fn := fun _ => fun
  | [d1, d2, d3, d4] => { results := [.lit (.bool false)], args := [d1, d2, d3, d4] }
  | _ => none }
def ModeEachWrongFalsely : Prop := modeEachRow.holds Try.pinned (OpenSpec.ofChange modeEachWrong)

/-- 'ringkeep5.ModeTurns': WHATEVER THE INPUT: true; the input reads as it did. -/
def modeTurnsSpec : ChangeSpec := { name := "modeTurns", fn := fun _ => fun
  | [d1, d2, d3, d4] => { results := [.lit (.bool true)], args := [d1, d2, d3, d4] }
  | _ => none }
def modeTurnsRow : OpenClaim := { program := "ytddfgdodpjmjfaa", sum := "567d6c9364f0766d9af05f8ce2d0a6825f3991a3ac38e1dabe33bfdb41d5437b", func := "ringhall/ringkeep5.ModeTurns", spec := "modeTurns", unfollowed := true, recurses := true, apart := false }
def ModeTurnsSaid : Prop := modeTurnsRow.holds Try.pinned (OpenSpec.ofChange modeTurnsSpec)

/-- ITS FALSE NEIGHBOUR: 'it returns false'. Refute it at one input. -/
def modeTurnsWrong : ChangeSpec := { name := "modeTurns", fn := fun _ => fun
  | [d1, d2, d3, d4] => { results := [.lit (.bool false)], args := [d1, d2, d3, d4] }
  | _ => none }
def ModeTurnsWrongFalsely : Prop := modeTurnsRow.holds Try.pinned (OpenSpec.ofChange modeTurnsWrong)

/-- 'ringkeep5.IrqAll': WHATEVER THE INPUT: true; the input reads as it did. -/
def irqAllSpec : ChangeSpec := { name := "irqAll", fn := fun _ => fun
  | [d1, d2, d3] => { results := [.lit (.bool true)], args := [d1, d2, d3] }
  | _ => none }
def irqAllRow : OpenClaim := { program := "ytddfgdodpjmjfaa", sum := "567d6c9364f0766d9af05f8ce2d0a6825f3991a3ac38e1dabe33bfdb41d5437b", func := "ringhall/ringkeep5.IrqAll", spec := "irqAll", unfollowed := true, recurses := true, apart := false }
def IrqAllSaid : Prop := irqAllRow.holds Try.pinned (OpenSpec.ofChange irqAllSpec)

/-- ITS FALSE NEIGHBOUR: 'it returns false'. Refute it at one input. -/
def irqAllWrong : ChangeSpec := { name := "irqAll", fn := fun _ => fun
  | [d1, d2, d3] => { results := [.lit (.bool false)], args := [d1, d2, d3] }
  | _ => none }
def IrqAllWrongFalsely : Prop := irqAllRow.holds Try.pinned (OpenSpec.ofChange irqAllWrong)

/-- 'ringkeep5.IrqLast': WHATEVER THE INPUT: true; the input reads as it did. -/
def irqLastSpec : ChangeSpec := { name := "irqLast", fn := fun _ => fun
  | [d1, d2, d3] => { results := [.lit (.bool true)], args := [d1, d2, d3] }
  | _ => none }
def irqLastRow : OpenClaim := { program := "ytddfgdodpjmjfaa", sum := "567d6c9364f0766d9af05f8ce2d0a6825f3991a3ac38e1dabe33bfdb41d5437b", func := "ringhall/ringkeep5.IrqLast", spec := "irqLast", unfollowed := true, recurses := true, apart := false }
def IrqLastSaid : Prop := irqLastRow.holds Try.pinned (OpenSpec.ofChange irqLastSpec)

/-- ITS FALSE NEIGHBOUR: 'it returns false'. Refute it at one input. -/
def irqLastWrong : ChangeSpec := { name := "irqLast", fn := fun _ => fun
  | [d1, d2, d3] => { results := [.lit (.bool false)], args := [d1, d2, d3] }
  | _ => none }
def IrqLastWrongFalsely : Prop := irqLastRow.holds Try.pinned (OpenSpec.ofChange irqLastWrong)

/-- 'ringkeep5.IrqTaken': WHATEVER THE INPUT: true; the input reads as it did. -/
def irqTakenSpec : ChangeSpec := { name := "irqTaken", fn := fun _ => fun
  | [d1, d2] => { results := [.lit (.bool true)], args := [d1, d2] }
  | _ => none }
def irqTakenRow : OpenClaim := { program := "ytddfgdodpjmjfaa", sum := "567d6c9364f0766d9af05f8ce2d0a6825f3991a3ac38e1dabe33bfdb41d5437b", func := "ringhall/ringkeep5.IrqTaken", spec := "irqTaken", unfollowed := true, recurses := true, apart := false }
def IrqTakenSaid : Prop := irqTakenRow.holds Try.pinned (OpenSpec.ofChange irqTakenSpec)

/-- ITS FALSE NEIGHBOUR: 'it returns false'. Refute it at one input. -/
def irqTakenWrong : ChangeSpec := { name := "irqTaken", fn := fun _ => fun
  | [d1, d2] => { results := [.lit (.bool false)], args := [d1, d2] }
  | _ => none }
def IrqTakenWrongFalsely : Prop := irqTakenRow.holds Try.pinned (OpenSpec.ofChange irqTakenWrong)

/-- 'ringkeep5.CredFalls': WHATEVER THE INPUT: true; the input reads as it did. -/
def credFallsSpec : ChangeSpec := { name := "credFalls", fn := fun _ => fun
  | [d1, d2] => { results := [.lit (.bool true)], args := [d1, d2] }
  | _ => none }
def credFallsRow : OpenClaim := { program := "ytddfgdodpjmjfaa", sum := "567d6c9364f0766d9af05f8ce2d0a6825f3991a3ac38e1dabe33bfdb41d5437b", func := "ringhall/ringkeep5.CredFalls", spec := "credFalls", unfollowed := true, recurses := true, apart := false }
def CredFallsSaid : Prop := credFallsRow.holds Try.pinned (OpenSpec.ofChange credFallsSpec)

/-- ITS FALSE NEIGHBOUR: 'it returns false'. Refute it at one input. -/
def credFallsWrong : ChangeSpec := { name := "credFalls", fn := fun _ => fun
  | [d1, d2] => { results := [.lit (.bool false)], args := [d1, d2] }
  | _ => none }
def CredFallsWrongFalsely : Prop := credFallsRow.holds Try.pinned (OpenSpec.ofChange credFallsWrong)

/-- 'ringkeep5.MountSeen': WHATEVER THE INPUT: true; the input reads as it did. -/
def mountSeenSpec : ChangeSpec := { name := "mountSeen", fn := fun _ => fun
  | [d] => { results := [.lit (.bool true)], args := [d] }
  | _ => none }
def mountSeenRow : OpenClaim := { program := "ytddfgdodpjmjfaa", sum := "567d6c9364f0766d9af05f8ce2d0a6825f3991a3ac38e1dabe33bfdb41d5437b", func := "ringhall/ringkeep5.MountSeen", spec := "mountSeen", unfollowed := true, recurses := true, apart := false }
def MountSeenSaid : Prop := mountSeenRow.holds Try.pinned (OpenSpec.ofChange mountSeenSpec)

/-- ITS FALSE NEIGHBOUR: 'it returns false'. Refute it at one input. -/
def mountSeenWrong : ChangeSpec := { name := "mountSeen", fn := fun _ => fun
  | [d] => { results := [.lit (.bool false)], args := [d] }
  | _ => none }
def MountSeenWrongFalsely : Prop := mountSeenRow.holds Try.pinned (OpenSpec.ofChange mountSeenWrong)

/-- 'ringkeep5.MountBack': WHATEVER THE INPUT: true; the input reads as it did. -/
def mountBackSpec : ChangeSpec := { name := "mountBack", fn := fun _ => fun
  | [d1, d2, d3, d4] => { results := [.lit (.bool true)], args := [d1, d2, d3, d4] }
  | _ => none }
def mountBackRow : OpenClaim := { program := "ytddfgdodpjmjfaa", sum := "567d6c9364f0766d9af05f8ce2d0a6825f3991a3ac38e1dabe33bfdb41d5437b", func := "ringhall/ringkeep5.MountBack", spec := "mountBack", unfollowed := true, recurses := true, apart := false }
def MountBackSaid : Prop := mountBackRow.holds Try.pinned (OpenSpec.ofChange mountBackSpec)

/-- ITS FALSE NEIGHBOUR: 'it returns false'. Refute it at one input. -/
def mountBackWrong : ChangeSpec := { name := "mountBack", fn := fun _ => fun
  | [d1, d2, d3, d4] => { results := [.lit (.bool false)], args := [d1, d2, d3, d4] }
  | _ => none }
def MountBackWrongFalsely : Prop := mountBackRow.holds Try.pinned (OpenSpec.ofChange mountBackWrong)

/-- 'ringkeep5.OpenShare': WHATEVER THE INPUT: true; the input reads as it did. -/
def openShareSpec : ChangeSpec := { name := "openShare", fn := fun _ => fun
  | [d1, d2, d3] => { results := [.lit (.bool true)], args := [d1, d2, d3] }
  | _ => none }
def openShareRow : OpenClaim := { program := "ytddfgdodpjmjfaa", sum := "567d6c9364f0766d9af05f8ce2d0a6825f3991a3ac38e1dabe33bfdb41d5437b", func := "ringhall/ringkeep5.OpenShare", spec := "openShare", unfollowed := true, recurses := true, apart := false }
def OpenShareSaid : Prop := openShareRow.holds Try.pinned (OpenSpec.ofChange openShareSpec)

/-- ITS FALSE NEIGHBOUR: 'it returns false'. Refute it at one input. -/
def openShareWrong : ChangeSpec := { name := "openShare", fn := fun _ => fun
  | [d1, d2, d3] => { results := [.lit (.bool false)], args := [d1, d2, d3] }
  | _ => none }
def OpenShareWrongFalsely : Prop := openShareRow.holds Try.pinned (OpenSpec.ofChange openShareWrong)

/-- 'ringkeep5.OpenCounts': WHATEVER THE INPUT: true; the input reads as it did. -/
def openCountsSpec : ChangeSpec := { name := "openCounts", fn := fun _ => fun
  | [d] => { results := [.lit (.bool true)], args := [d] }
  | _ => none }
def openCountsRow : OpenClaim := { program := "ytddfgdodpjmjfaa", sum := "567d6c9364f0766d9af05f8ce2d0a6825f3991a3ac38e1dabe33bfdb41d5437b", func := "ringhall/ringkeep5.OpenCounts", spec := "openCounts", unfollowed := true, recurses := true, apart := false }
def OpenCountsSaid : Prop := openCountsRow.holds Try.pinned (OpenSpec.ofChange openCountsSpec)

/-- ITS FALSE NEIGHBOUR: 'it returns false'. Refute it at one input. -/
def openCountsWrong : ChangeSpec := { name := "openCounts", fn := fun _ => fun
  | [d] => { results := [.lit (.bool false)], args := [d] }
  | _ => none }
def OpenCountsWrongFalsely : Prop := openCountsRow.holds Try.pinned (OpenSpec.ofChange openCountsWrong)

/- THE SECOND FORM. 'bulk': how many values and letters a reading holds, each counted each time it is reached (what is shared counts as often as it is met; a slice's spare places count too). A statement '..UptoSaid' is the law's where the arguments, and the package variables that the reading takes, are together of bulk at most 1048576: NARROWER than '..Said'. Prove '..Said' where nothing that the law and all that it calls make is longer than what came in: it says more and counts as full. Else prove '..UptoSaid'. A law counts once. -/
mutual
def uptoBulk {H : Type} : DataW H → Nat
  | .lit (.string bytes) => bytes.length + 1
  | .lit _ => 1
  | .nil => 1
  | .ptr d => uptoBulk d + 1
  | .slice elems spare => uptoBulkAll elems + uptoBulkAll spare + 1
  | .agg parts => uptoBulkAll parts + 1
  | .iface _ d => uptoBulk d + 1
  | .map entries => uptoBulkEntries entries + 1
  | .held _ => 1
def uptoBulkAll {H : Type} : List (DataW H) → Nat
  | [] => 0
  | d :: r => uptoBulk d + uptoBulkAll r
def uptoBulkEntries {H : Type} : List (Lit × DataW H) → Nat
  | [] => 0
  | x :: r => uptoBulkEntry x + uptoBulkEntries r
def uptoBulkEntry {H : Type} : Lit × DataW H → Nat
  | (.string bytes, d) => bytes.length + uptoBulk d + 1
  | (_, d) => uptoBulk d + 1
 end
def uptoSmall : (H : Type) → List (DataW H) → Bool := fun _ ds => decide (uptoBulkAll ds ≤ 1048576)
def OpenSpec.upto (s : _root_.Go.ChangeSpec) : _root_.Go.OpenSpec := { _root_.Go.OpenSpec.ofChange s with cond := some uptoSmall }

/-- 'ringkeep5.CodeBack', WHERE WHAT IT READS IS OF BULK AT MOST 1048576: true; the input reads as it did. -/
def codeBackUptoRow : OpenClaim := { program := "ytddfgdodpjmjfaa", sum := "567d6c9364f0766d9af05f8ce2d0a6825f3991a3ac38e1dabe33bfdb41d5437b", func := "ringhall/ringkeep5.CodeBack", spec := "codeBack", unfollowed := true, recurses := true, apart := false, narrowed := true }
def CodeBackUptoSaid : Prop := codeBackUptoRow.holds Try.pinned (OpenSpec.upto codeBackSpec)

/-- 'ringkeep5.CodeNames', WHERE WHAT IT READS IS OF BULK AT MOST 1048576: true; the input reads as it did. -/
def codeNamesUptoRow : OpenClaim := { program := "ytddfgdodpjmjfaa", sum := "567d6c9364f0766d9af05f8ce2d0a6825f3991a3ac38e1dabe33bfdb41d5437b", func := "ringhall/ringkeep5.CodeNames", spec := "codeNames", unfollowed := true, recurses := true, apart := false, narrowed := true }
def CodeNamesUptoSaid : Prop := codeNamesUptoRow.holds Try.pinned (OpenSpec.upto codeNamesSpec)

/-- 'ringkeep5.ModeEach', WHERE WHAT IT READS IS OF BULK AT MOST 1048576: true; the input reads as it did. -/
def modeEachUptoRow : OpenClaim := { program := "ytddfgdodpjmjfaa", sum := "567d6c9364f0766d9af05f8ce2d0a6825f3991a3ac38e1dabe33bfdb41d5437b", func := "ringhall/ringkeep5.ModeEach", spec := "modeEach", unfollowed := true, recurses := true, apart := false, narrowed := true }
def ModeEachUptoSaid : Prop := modeEachUptoRow.holds Try.pinned (OpenSpec.upto modeEachSpec)

/-- 'ringkeep5.ModeTurns', WHERE WHAT IT READS IS OF BULK AT MOST 1048576: true; the input reads as it did. -/
def modeTurnsUptoRow : OpenClaim := { program := "ytddfgdodpjmjfaa", sum := "567d6c9364f0766d9af05f8ce2d0a6825f3991a3ac38e1dabe33bfdb41d5437b", func := "ringhall/ringkeep5.ModeTurns", spec := "modeTurns", unfollowed := true, recurses := true, apart := false, narrowed := true }
def ModeTurnsUptoSaid : Prop := modeTurnsUptoRow.holds Try.pinned (OpenSpec.upto modeTurnsSpec)

/-- 'ringkeep5.IrqAll', WHERE WHAT IT READS IS OF BULK AT MOST 1048576: true; the input reads as it did. -/
def irqAllUptoRow : OpenClaim := { program := "ytddfgdodpjmjfaa", sum := "567d6c9364f0766d9af05f8ce2d0a6825f3991a3ac38e1dabe33bfdb41d5437b", func := "ringhall/ringkeep5.IrqAll", spec := "irqAll", unfollowed := true, recurses := true, apart := false, narrowed := true }
def IrqAllUptoSaid : Prop := irqAllUptoRow.holds Try.pinned (OpenSpec.upto irqAllSpec)

/-- 'ringkeep5.IrqLast', WHERE WHAT IT READS IS OF BULK AT MOST 1048576: true; the input reads as it did. -/
def irqLastUptoRow : OpenClaim := { program := "ytddfgdodpjmjfaa", sum := "567d6c9364f0766d9af05f8ce2d0a6825f3991a3ac38e1dabe33bfdb41d5437b", func := "ringhall/ringkeep5.IrqLast", spec := "irqLast", unfollowed := true, recurses := true, apart := false, narrowed := true }
def IrqLastUptoSaid : Prop := irqLastUptoRow.holds Try.pinned (OpenSpec.upto irqLastSpec)

/-- 'ringkeep5.IrqTaken', WHERE WHAT IT READS IS OF BULK AT MOST 1048576: true; the input reads as it did. -/
def irqTakenUptoRow : OpenClaim := { program := "ytddfgdodpjmjfaa", sum := "567d6c9364f0766d9af05f8ce2d0a6825f3991a3ac38e1dabe33bfdb41d5437b", func := "ringhall/ringkeep5.IrqTaken", spec := "irqTaken", unfollowed := true, recurses := true, apart := false, narrowed := true }
def IrqTakenUptoSaid : Prop := irqTakenUptoRow.holds Try.pinned (OpenSpec.upto irqTakenSpec)

/-- 'ringkeep5.CredFalls', WHERE WHAT IT READS IS OF BULK AT MOST 1048576: true; the input reads as it did. -/
def credFallsUptoRow : OpenClaim := { program := "ytddfgdodpjmjfaa", sum := "567d6c9364f0766d9af05f8ce2d0a6825f3991a3ac38e1dabe33bfdb41d5437b", func := "ringhall/ringkeep5.CredFalls", spec := "credFalls", unfollowed := true, recurses := true, apart := false, narrowed := true }
def CredFallsUptoSaid : Prop := credFallsUptoRow.holds Try.pinned (OpenSpec.upto credFallsSpec)

/-- 'ringkeep5.MountSeen', WHERE WHAT IT READS IS OF BULK AT MOST 1048576: true; the input reads as it did. -/
def mountSeenUptoRow : OpenClaim := { program := "ytddfgdodpjmjfaa", sum := "567d6c9364f0766d9af05f8ce2d0a6825f3991a3ac38e1dabe33bfdb41d5437b", func := "ringhall/ringkeep5.MountSeen", spec := "mountSeen", unfollowed := true, recurses := true, apart := false, narrowed := true }
def MountSeenUptoSaid : Prop := mountSeenUptoRow.holds Try.pinned (OpenSpec.upto mountSeenSpec)

/-- 'ringkeep5.MountBack', WHERE WHAT IT READS IS OF BULK AT MOST 1048576: true; the input reads as it did. -/
def mountBackUptoRow : OpenClaim := { program := "ytddfgdodpjmjfaa", sum := "567d6c9364f0766d9af05f8ce2d0a6825f3991a3ac38e1dabe33bfdb41d5437b", func := "ringhall/ringkeep5.MountBack", spec := "mountBack", unfollowed := true, recurses := true, apart := false, narrowed := true }
def MountBackUptoSaid : Prop := mountBackUptoRow.holds Try.pinned (OpenSpec.upto mountBackSpec)

/-- 'ringkeep5.OpenShare', WHERE WHAT IT READS IS OF BULK AT MOST 1048576: true; the input reads as it did. -/
def openShareUptoRow : OpenClaim := { program := "ytddfgdodpjmjfaa", sum := "567d6c9364f0766d9af05f8ce2d0a6825f3991a3ac38e1dabe33bfdb41d5437b", func := "ringhall/ringkeep5.OpenShare", spec := "openShare", unfollowed := true, recurses := true, apart := false, narrowed := true }
def OpenShareUptoSaid : Prop := openShareUptoRow.holds Try.pinned (OpenSpec.upto openShareSpec)

/-- 'ringkeep5.OpenCounts', WHERE WHAT IT READS IS OF BULK AT MOST 1048576: true; the input reads as it did. -/
def openCountsUptoRow : OpenClaim := { program := "ytddfgdodpjmjfaa", sum := "567d6c9364f0766d9af05f8ce2d0a6825f3991a3ac38e1dabe33bfdb41d5437b", func := "ringhall/ringkeep5.OpenCounts", spec := "openCounts", unfollowed := true, recurses := true, apart := false, narrowed := true }
def OpenCountsUptoSaid : Prop := openCountsUptoRow.holds Try.pinned (OpenSpec.upto openCountsSpec)

end Rows
end Go.Proofs.Ytddfgdodpjmjfaa
