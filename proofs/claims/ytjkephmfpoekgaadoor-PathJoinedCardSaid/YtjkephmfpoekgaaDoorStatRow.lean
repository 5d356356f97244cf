/- Whole rows of any struct type; here: the states of files. -/
import Derived.Test.YtjkephmfpoekgaaDoorPathSplit
import Derived.Deep.WholeRow
import Derived.Deep.Cut
import Derived.Deep.CutRange
import Derived.Deep.DeepCutAuto
import Derived.Deep.RegionWith
import Derived.BigQuiet
import Derived.Deep.QuietTactic
import Derived.Deep.RegionHeld3
namespace Go.Proofs.YtjkephmfpoekgaaDoor.PathLaw
open Go.RowKit Go.Proofs.YtjkephmfpoekgaaDoor.CredLaw
set_option linter.unusedVariables false
set_option linter.unusedSimpArgs false
def cellsS (s : S) : Array Value := #[.int .i64 s.kind, .int .i64 s.mode, .int .i64 s.user, .int .i64 s.group, .int .i64 s.size, .int .i64 s.links]
def load36 (v : Value) : Sem Value := Instr.loadAt 36 v
def store36 (p v : Value) : Sem Unit := Instr.storeAt 36 p v
theorem load36_eq (v : Value) : Instr.loadAt 36 v = load36 v := rfl
theorem store36_eq (p v : Value) : Instr.storeAt 36 p v = store36 p v := rfl
theorem zero36 (w : World) : (zeroValue 36).run Tryd.prog w = .ok (.agg (cellsS zeroS)) w := Tryd.zeroValue36 w
theorem cellsS_of (s : S) : Value.cells (.agg (cellsS s)) = cellsS s := rfl
/-- a whole row in block b -/
def Row (w : World) (b : Nat) (T : Nat) (c : Array Value) : Prop := w.heap[b]? = some (.cells c T (0, 0))
section
variable {w : World} {b T : Nat} {c : Array Value}
theorem Row.lt (h : Row w b T c) : b < w.heap.size := by
  rcases Nat.lt_or_ge b w.heap.size with q | q
  · exact q
  · unfold Row at h; rw [Array.getElem?_eq_none q] at h; cases h
theorem Row.keepB {w' : World} {B : Nat} (h : Row w b T c) (hb : Below B w w') (hB : b < B) : Row w' b T c := (hb.block b hB).trans h
theorem Row.keep {w' : World} (h : Row w b T c) (hb : Below w.heap.size w w') : Row w' b T c := h.keepB hb h.lt
theorem Row.alloc (h : Row w b T c) (o : Obj) : Row (w.alloc o) b T c := h.keep ((Below.refl _ _).alloc (Nat.le_refl _) o)
theorem Row.cell (h : Row w b T c) (i : Nat) : w.cell? ⟨b, i, none⟩ = c[i]? := cell_of_row w b i _ T (0, 0) h
theorem Row.fz (h : Row w b T c) (i : Nat) : w.frozen? ⟨b, i, none⟩ = false := by
  unfold Row at h
  simp [World.frozen?, h]
theorem row_new (w : World) (T : Nat) (c : Array Value) : Row (w.alloc (.cells c T)) w.heap.size T c := heap_alloc_new w _
theorem Row.setRow (h : Row w b T c) (c' : Array Value) : Row (w.setRow b c') b T c' := by
  unfold Row at *
  simp only [World.setRow, Array.getElem?_modify, if_true, h, Option.map_some]
theorem Row.setRowO (h : Row w b T c) {d : Nat} (hd : d ≠ b) (c' : Array Value) : Row (w.setRow d c') b T c := by
  unfold Row at *
  simp only [World.setRow, Array.getElem?_modify]
  rw [if_neg hd]
  exact h
theorem below_setRow {B d : Nat} {u : World} (h : Below B u w) (hc : B ≤ d) (c' : Array Value) : Below B u (w.setRow d c') :=
  h.trans ⟨rfl, rfl, rfl, by simp [World.setRow], fun k hk => by simp only [World.setRow, Array.getElem?_modify]; rw [if_neg (by omega)]⟩
theorem Row.load36 {s : S} (h : Row w b 36 (cellsS s)) : (PathLaw.load36 (.pointer (some ⟨b, 0, none⟩))).run Tryd.prog w = .ok (.agg (cellsS s)) w := by
  simp only [PathLaw.load36, Instr.loadAt, Instr.sureAddr, Sem.run_bind, Sem.run_pure, Result.andThen]
  exact run_loadVar_row w b 36 36 (cellsS s) (0, 0) _ h Tryd.underlying36 rfl (by kernel_rfl)
theorem Row.store36 {s : S} (h : Row w b 36 (cellsS s)) (s' : S) : (PathLaw.store36 (.pointer (some ⟨b, 0, none⟩)) (.agg (cellsS s'))).run Tryd.prog w = .ok () (w.setRow b (cellsS s')) := by
  simp only [PathLaw.store36, Instr.storeAt, Instr.sureAddr, Sem.run_bind, Sem.run_pure, Result.andThen]
  exact run_storeVar_row w b 36 36 (cellsS s) (cellsS s') h (by kernel_rfl) rfl (by simp [cellsS, Value.oneCell'])
end
theorem store36_new (w : World) (s0 s : S) : (store36 (.pointer (some ⟨w.heap.size, 0, none⟩)) (.agg (cellsS s))).run Tryd.prog (w.alloc (.cells (cellsS s0) 36)) = .ok () (w.alloc (.cells (cellsS s) 36)) := by
  rw [(row_new w 36 (cellsS s0)).store36 s, World.setRow_alloc_new]
theorem load36_new (w : World) (s : S) : (load36 (.pointer (some ⟨w.heap.size, 0, none⟩))).run Tryd.prog (w.alloc (.cells (cellsS s) 36)) = .ok (.agg (cellsS s)) (w.alloc (.cells (cellsS s) 36)) := (row_new w 36 _).load36
end Go.Proofs.YtjkephmfpoekgaaDoor.PathLaw
