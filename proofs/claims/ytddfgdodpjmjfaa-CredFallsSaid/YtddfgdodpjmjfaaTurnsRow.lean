/- Whole rows of any struct type; here: the states of files and credentials. -/
import Derived.Test.YtddfgdodpjmjfaaModeTurnsPlain
import Derived.Deep.WholeRow
import Derived.Deep.Cut
import Derived.Deep.CutRange
import Derived.Deep.DeepCutAuto
import Derived.Deep.RegionWith
import Derived.ChangeKeysEq
namespace Go.Proofs.Ytddfgdodpjmjfaa.CredLaw
open Go.RowKit
set_option linter.unusedVariables false
set_option linter.unusedSimpArgs false
def cellsS (s : S) : Array Value := #[.int .i64 s.kind, .int .i64 s.mode, .int .i64 s.user, .int .i64 s.group, .int .i64 s.size, .int .i64 s.links]
def cellsC (c : C) (m : Value) : Array Value := #[.int .i64 c.user, .int .i64 c.group, m, .int .i64 c.caps, .int .i64 c.level, .int .i64 c.kind]
def load41 (v : Value) : Sem Value := Instr.loadAt 41 v
def store41 (p v : Value) : Sem Unit := Instr.storeAt 41 p v
def load44 (v : Value) : Sem Value := Instr.loadAt 44 v
theorem load41_eq (v : Value) : Instr.loadAt 41 v = load41 v := rfl
theorem store41_eq (p v : Value) : Instr.storeAt 41 p v = store41 p v := rfl
theorem load44_eq (v : Value) : Instr.loadAt 44 v = load44 v := rfl
theorem zero41 (w : World) : (zeroValue 41).run Try.prog w = .ok (.agg (cellsS zeroS)) w := Try.zeroValue41 w
theorem cellsS_of (s : S) : Value.cells (.agg (cellsS s)) = cellsS s := rfl
theorem cellsC_of (c : C) (m : Value) : Value.cells (.agg (cellsC c m)) = cellsC c m := rfl
/-- a whole row in block b -/
def Row (w : World) (b : Nat) (T : Nat) (c : Array Value) : Prop := w.heap[b]? = some (.cells c T (0, 0))
section
variable {w : World} {b T : Nat} {c : Array Value}
theorem Row.lt (h : Row w b T c) : b < w.heap.size := by
  rcases Nat.lt_or_ge b w.heap.size with q | q
  · exact q
  · unfold Row at h; rw [Array.getElem?_eq_none q] at h; cases h
theorem Row.keepB {w' : World} {B : Nat} (h : Row w b T c) (hb : Below B w w') (hB : b < B) : Row w' b T c := (hb.block b hB).trans h
theorem Row.keep {w' : World} (h : Row w b T c) (hb : Below w.heap.size w w') : Row w' b T c := h.keepB hb h.lt
theorem Row.alloc (h : Row w b T c) (o : Obj) : Row (w.alloc o) b T c := h.keep ((Below.refl _ _).alloc (Nat.le_refl _) o)
theorem Row.cell (h : Row w b T c) (i : Nat) : w.cell? ⟨b, i, none⟩ = c[i]? := cell_of_row w b i _ T (0, 0) h
theorem Row.fz (h : Row w b T c) (i : Nat) : w.frozen? ⟨b, i, none⟩ = false := by
  unfold Row at h
  simp [World.frozen?, h]
theorem row_new (w : World) (T : Nat) (c : Array Value) : Row (w.alloc (.cells c T)) w.heap.size T c := heap_alloc_new w _
theorem Row.setRow (h : Row w b T c) (c' : Array Value) : Row (w.setRow b c') b T c' := by
  unfold Row at *
  simp only [World.setRow, Array.getElem?_modify, if_true, h, Option.map_some]
theorem Row.setRowO (h : Row w b T c) {d : Nat} (hd : d ≠ b) (c' : Array Value) : Row (w.setRow d c') b T c := by
  unfold Row at *
  simp only [World.setRow, Array.getElem?_modify]
  rw [if_neg hd]
  exact h
theorem below_setRow {B d : Nat} {u : World} (h : Below B u w) (hc : B ≤ d) (c' : Array Value) : Below B u (w.setRow d c') :=
  h.trans ⟨rfl, rfl, rfl, by simp [World.setRow], fun k hk => by simp only [World.setRow, Array.getElem?_modify]; rw [if_neg (by omega)]⟩
theorem Row.load41 {s : S} (h : Row w b 41 (cellsS s)) : (CredLaw.load41 (.pointer (some ⟨b, 0, none⟩))).run Try.prog w = .ok (.agg (cellsS s)) w := by
  simp only [CredLaw.load41, Instr.loadAt, Instr.sureAddr, Sem.run_bind, Sem.run_pure, Result.andThen]
  exact run_loadVar_row w b 41 41 (cellsS s) (0, 0) _ h Try.underlying41 rfl (by kernel_rfl)
theorem Row.load44 {d : C} {m : Value} (h : Row w b 44 (cellsC d m)) : (CredLaw.load44 (.pointer (some ⟨b, 0, none⟩))).run Try.prog w = .ok (.agg (cellsC d m)) w := by
  simp only [CredLaw.load44, Instr.loadAt, Instr.sureAddr, Sem.run_bind, Sem.run_pure, Result.andThen]
  exact run_loadVar_row w b 44 44 (cellsC d m) (0, 0) _ h Try.underlying44 rfl (by kernel_rfl)
theorem Row.store41 {s : S} (h : Row w b 41 (cellsS s)) (s' : S) : (CredLaw.store41 (.pointer (some ⟨b, 0, none⟩)) (.agg (cellsS s'))).run Try.prog w = .ok () (w.setRow b (cellsS s')) := by
  simp only [CredLaw.store41, Instr.storeAt, Instr.sureAddr, Sem.run_bind, Sem.run_pure, Result.andThen]
  exact run_storeVar_row w b 41 41 (cellsS s) (cellsS s') h (by kernel_rfl) rfl (by simp [cellsS, Value.oneCell'])
end
theorem store41_new (w : World) (s0 s : S) : (store41 (.pointer (some ⟨w.heap.size, 0, none⟩)) (.agg (cellsS s))).run Try.prog (w.alloc (.cells (cellsS s0) 41)) = .ok () (w.alloc (.cells (cellsS s) 41)) := by
  rw [(row_new w 41 (cellsS s0)).store41 s, World.setRow_alloc_new]
theorem load41_new (w : World) (s : S) : (load41 (.pointer (some ⟨w.heap.size, 0, none⟩))).run Try.prog (w.alloc (.cells (cellsS s) 41)) = .ok (.agg (cellsS s)) (w.alloc (.cells (cellsS s) 41)) := (row_new w 41 _).load41
theorem neq41 (w : World) (s : S) : (binOp .neq 41 (.agg (cellsS s)) (.agg (cellsS s))).run Try.prog w = .ok (.bool false) w := by
  unfold cellsS
  simp [go_sem]
theorem eql41 (w : World) (s : S) : (binOp .eql 41 (.agg (cellsS s)) (.agg (cellsS s))).run Try.prog w = .ok (.bool true) w := by
  unfold cellsS
  simp [go_sem]
end Go.Proofs.Ytddfgdodpjmjfaa.CredLaw
