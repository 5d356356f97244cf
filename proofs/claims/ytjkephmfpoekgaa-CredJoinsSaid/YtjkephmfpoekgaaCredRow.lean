/- Whole rows of any struct type; here: the states of files and credentials. -/
import Derived.Test.YtjkephmfpoekgaaCredIn
import Derived.Deep.WholeRow
import Derived.Deep.Cut
import Derived.Deep.CutRange
import Derived.Deep.DeepCutAuto
import Derived.Deep.RegionWith
namespace Go.Proofs.Ytjkephmfpoekgaa.CredLaw
open Go.RowKit
set_option linter.unusedVariables false
set_option linter.unusedSimpArgs false
def cellsC (c : C) (m : Value) : Array Value := #[.int .i64 c.user, .int .i64 c.group, m, .int .i64 c.caps, .int .i64 c.level, .int .i64 c.kind]
def load44 (v : Value) : Sem Value := Instr.loadAt 24 v
theorem load44_eq (v : Value) : Instr.loadAt 24 v = load44 v := rfl
theorem cellsC_of (c : C) (m : Value) : Value.cells (.agg (cellsC c m)) = cellsC c m := rfl
/-- a whole row in block b -/
def Row (w : World) (b : Nat) (T : Nat) (c : Array Value) : Prop := w.heap[b]? = some (.cells c T (0, 0))
section
variable {w : World} {b T : Nat} {c : Array Value}
theorem Row.lt (h : Row w b T c) : b < w.heap.size := by
  rcases Nat.lt_or_ge b w.heap.size with q | q
  · exact q
  · unfold Row at h; rw [Array.getElem?_eq_none q] at h; cases h
theorem Row.keepB {w' : World} {B : Nat} (h : Row w b T c) (hb : Below B w w') (hB : b < B) : Row w' b T c := (hb.block b hB).trans h
theorem Row.keep {w' : World} (h : Row w b T c) (hb : Below w.heap.size w w') : Row w' b T c := h.keepB hb h.lt
theorem Row.alloc (h : Row w b T c) (o : Obj) : Row (w.alloc o) b T c := h.keep ((Below.refl _ _).alloc (Nat.le_refl _) o)
theorem Row.cell (h : Row w b T c) (i : Nat) : w.cell? ⟨b, i, none⟩ = c[i]? := cell_of_row w b i _ T (0, 0) h
theorem Row.fz (h : Row w b T c) (i : Nat) : w.frozen? ⟨b, i, none⟩ = false := by
  unfold Row at h
  simp [World.frozen?, h]
theorem row_new (w : World) (T : Nat) (c : Array Value) : Row (w.alloc (.cells c T)) w.heap.size T c := heap_alloc_new w _
theorem Row.setRow (h : Row w b T c) (c' : Array Value) : Row (w.setRow b c') b T c' := by
  unfold Row at *
  simp only [World.setRow, Array.getElem?_modify, if_true, h, Option.map_some]
theorem Row.setRowO (h : Row w b T c) {d : Nat} (hd : d ≠ b) (c' : Array Value) : Row (w.setRow d c') b T c := by
  unfold Row at *
  simp only [World.setRow, Array.getElem?_modify]
  rw [if_neg hd]
  exact h
theorem below_setRow {B d : Nat} {u : World} (h : Below B u w) (hc : B ≤ d) (c' : Array Value) : Below B u (w.setRow d c') :=
  h.trans ⟨rfl, rfl, rfl, by simp [World.setRow], fun k hk => by simp only [World.setRow, Array.getElem?_modify]; rw [if_neg (by omega)]⟩
theorem Row.load44 {d : C} {m : Value} (h : Row w b 24 (cellsC d m)) : (CredLaw.load44 (.pointer (some ⟨b, 0, none⟩))).run Try.prog w = .ok (.agg (cellsC d m)) w := by
  simp only [CredLaw.load44, Instr.loadAt, Instr.sureAddr, Sem.run_bind, Sem.run_pure, Result.andThen]
  exact run_loadVar_row w b 24 24 (cellsC d m) (0, 0) _ h Try.underlying24 rfl (by kernel_rfl)
end
end Go.Proofs.Ytjkephmfpoekgaa.CredLaw
