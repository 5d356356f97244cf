/- The two maps of space.Memory, as functions: spaces (number -> a space's map) and a space (page number -> its entry). Whole rows, and parts of rows, by value: of any struct or array type. The walks of what a kernel begins with: pipe.New, wheel.New, space.New, space's Make. -/
import Derived.Test.YtnbhohaphmilmaaGreatDoorProg
import Derived.Test.YtnbhohaphmilmaaGreatDoorCodeRow
import Derived.Test.YtnbhohaphmilmaaGreatDoorBytes
import Derived.Maps.OwnSet
import Derived.Maps.Views
import Derived.Test.YtnbhohaphmilmaaGreatDoorTpA
import Derived.Deep.WholeRow
import Derived.Deep.MidRow
import Derived.Deep.Cut
import Derived.Deep.CutRange
import Derived.Deep.DeepCutAuto
import Derived.Deep.RegionWith
import Derived.ChangeKeysEq
namespace Go.Proofs.YtnbhohaphmilmaaGreatDoor
open Go.RowKit Go.Maps
set_option linter.unusedVariables false
set_option linter.unusedSimpArgs false
/-- An entry of a space: its page's block, and its rights. -/
def encE : Option (Nat × Int) → Value
  | none => .agg #[.pointer none, .int .i64 0]
  | some (g, r) => .agg #[.pointer (some ⟨g, 0, none⟩), .int .i64 r]
def encO : Option Nat → Value
  | none => .map none
  | some b => .map (some b)
def datE : Option (Nat × Int) → DataW Unit
  | none => .nil
  | some (g, r) => .agg [.lit (.int .i64 g), .lit (.int .i64 r)]
def datO : Option Nat → DataW Unit
  | none => .nil
  | some b => .lit (.int .i64 b)
open Classical in
noncomputable def redE (v : Value) : Option (DataW Unit × List MemPlace) := if h : ∃ x, v = encE x then some (datE h.choose, []) else none
open Classical in
noncomputable def redO (v : Value) : Option (DataW Unit × List MemPlace) := if h : ∃ x, v = encO x then some (datO h.choose, []) else none
theorem encE_inj {x y : Option (Nat × Int)} (h : encE x = encE y) : x = y := by
  cases x with
  | none => cases y with
    | none => rfl
    | some y => obtain ⟨g, r⟩ := y; simp [encE] at h
  | some x => obtain ⟨g, r⟩ := x; cases y with
    | none => simp [encE] at h
    | some y => obtain ⟨g', r'⟩ := y; simp [encE] at h; obtain ⟨h1, h2⟩ := h; rw [h1, h2]
theorem encO_inj {x y : Option Nat} (h : encO x = encO y) : x = y := by
  cases x <;> cases y <;> simp [encO] at h ⊢
  exact h
theorem datE_inj {x y : Option (Nat × Int)} (h : datE x = datE y) : x = y := by
  cases x with
  | none => cases y with
    | none => rfl
    | some y => obtain ⟨g, r⟩ := y; simp [datE] at h
  | some x => obtain ⟨g, r⟩ := x; cases y with
    | none => simp [datE] at h
    | some y => obtain ⟨g', r'⟩ := y; simp [datE] at h; obtain ⟨h1, h2⟩ := h; rw [h2]; congr; omega
theorem datO_inj {x y : Option Nat} (h : datO x = datO y) : x = y := by
  cases x <;> cases y <;> simp [datO] at h ⊢
  omega
theorem redE_enc (x : Option (Nat × Int)) : redE (encE x) = some (datE x, []) := by
  unfold redE
  have h : ∃ y, encE x = encE y := ⟨x, rfl⟩
  rw [dif_pos h, ← encE_inj h.choose_spec]
theorem redO_enc (x : Option Nat) : redO (encO x) = some (datO x, []) := by
  unfold redO
  have h : ∃ y, encO x = encO y := ⟨x, rfl⟩
  rw [dif_pos h, ← encO_inj h.choose_spec]
theorem redE_inv {v : Value} {x : Option (Nat × Int)} {ps : List MemPlace} (h : redE v = some (datE x, ps)) : v = encE x := by
  unfold redE at h
  split at h
  · rename_i h'
    simp only [Option.some.injEq, Prod.mk.injEq] at h
    rw [← datE_inj h.1]; exact h'.choose_spec
  · cases h
theorem redO_inv {v : Value} {x : Option Nat} {ps : List MemPlace} (h : redO v = some (datO x, ps)) : v = encO x := by
  unfold redO at h
  split at h
  · rename_i h'
    simp only [Option.some.injEq, Prod.mk.injEq] at h
    rw [← datO_inj h.1]; exact h'.choose_spec
  · cases h
theorem keyed3 : Keyed Tryz.prog 3 := int_keyed Tryz.underlying3
/-- Block b is a space's map: f says what lies at each key. -/
def IMap (w : World) (b n : Nat) (f : Int → Option (Nat × Int)) : Prop :=
  ∃ D : DataW Unit, w.ownsMap Tryz.prog 3 redE b n D ∧ IsMap D ∧ ∀ k, D.atKey (.int .i64 k) .nil = datE (f k) ∧ Maps.has D (.int .i64 k) = (f k).isSome
def OMap (w : World) (b n : Nat) (f : Int → Option Nat) : Prop :=
  ∃ D : DataW Unit, w.ownsMap Tryz.prog 3 redO b n D ∧ IsMap D ∧ ∀ k, D.atKey (.int .i64 k) .nil = datO (f k)
theorem zero46 (w : World) : (zeroValue 222).run Tryz.prog w = .ok (encE none) w := by kernel_rfl
theorem zero42 (w : World) : (zeroValue 210).run Tryz.prog w = .ok (encO none) w := by kernel_rfl
theorem IMap.look {w : World} {b n : Nat} {f : Int → Option (Nat × Int)} (h : IMap w b n f) {k : Int} (hk : (Lit.int .i64 k).wf = true) : (Instr.lookup 210 (.map (some b)) (.int .i64 k) false).run Tryz.prog w = .ok (encE (f k)) w := by
  obtain ⟨D, hD, hm, hf⟩ := h
  obtain ⟨v, ps, hr, hv⟩ := hD.lookup keyed3 Tryz.underlying210 (zero46 w) (redE_enc none) (keyOf_int_mk Tryz.underlying3 hk)
  rw [show datE none = .nil from rfl, (hf k).1] at hv
  rw [hr, redE_inv hv]
theorem IMap.look_ok {w : World} {b n : Nat} {f : Int → Option (Nat × Int)} (h : IMap w b n f) {k : Int} (hk : (Lit.int .i64 k).wf = true) : (Instr.lookup 210 (.map (some b)) (.int .i64 k) true).run Tryz.prog w = .ok (.tuple #[encE (f k), .bool (f k).isSome]) w := by
  obtain ⟨D, hD, hm, hf⟩ := h
  obtain ⟨v, ps, hr, hv⟩ := hD.look_ok keyed3 Tryz.underlying210 (zero46 w) (redE_enc none) (keyOf_int_mk Tryz.underlying3 hk)
  rw [show datE none = .nil from rfl, (hf k).1] at hv
  rw [hr, redE_inv hv, (hf k).2]
theorem OMap.look {w : World} {b n : Nat} {f : Int → Option Nat} (h : OMap w b n f) {k : Int} (hk : (Lit.int .i64 k).wf = true) : (Instr.lookup 131 (.map (some b)) (.int .i64 k) false).run Tryz.prog w = .ok (encO (f k)) w := by
  obtain ⟨D, hD, hm, hf⟩ := h
  obtain ⟨v, ps, hr, hv⟩ := hD.lookup keyed3 Tryz.underlying131 (zero42 w) (redO_enc none) (keyOf_int_mk Tryz.underlying3 hk)
  rw [show datO none = .nil from rfl, hf k] at hv
  rw [hr, redO_inv hv]
theorem ikey (k : Int) : WideAt.IsKeyLit (Lit.int .i64 k) := trivial
theorem lit_ne {k k' : Int} (h : k' ≠ k) : (Lit.int .i64 k' : Lit) ≠ Lit.int .i64 k := fun e => h (by injection e)
theorem IMap.put {w : World} {b n : Nat} {f : Int → Option (Nat × Int)} (h : IMap w b n f) {k : Int} (hk : (Lit.int .i64 k).wf = true) (hn : n < maxLen) (g : Nat) (r : Int) : ∃ w', (Instr.mapUpdate 210 (.map (some b)) (.int .i64 k) (encE (some (g, r)))).run Tryz.prog w = .ok () w' ∧ IMap w' b (n + 1) (fun j => if j = k then some (g, r) else f j) ∧ w.grownBy w' (some b) := by
  obtain ⟨D, hD, hm, hf⟩ := h
  obtain ⟨w', hr, ho, hg⟩ := hD.update keyed3 Tryz.underlying210 hn (keyOf_int_mk Tryz.underlying3 hk) (redE_enc (some (g, r)))
  refine ⟨w', hr, ⟨_, ho, hm.put _ _, fun j => ?_⟩, hg⟩
  by_cases hj : j = k
  · subst hj
    exact ⟨(atKey_put_same hm (ikey _) _ _).trans (by simp), (has_put_same hm (ikey _) _).trans (by simp)⟩
  · dsimp only
    rw [if_neg hj]
    exact ⟨(atKey_put_other (lit_ne hj) _ _).trans (hf j).1, (has_put_other (lit_ne hj) _).trans (hf j).2⟩
theorem OMap.put {w : World} {b n : Nat} {f : Int → Option Nat} (h : OMap w b n f) {k : Int} (hk : (Lit.int .i64 k).wf = true) (hn : n < maxLen) (g : Nat) : ∃ w', (Instr.mapUpdate 131 (.map (some b)) (.int .i64 k) (encO (some g))).run Tryz.prog w = .ok () w' ∧ OMap w' b (n + 1) (fun j => if j = k then some g else f j) ∧ w.grownBy w' (some b) := by
  obtain ⟨D, hD, hm, hf⟩ := h
  obtain ⟨w', hr, ho, hg⟩ := hD.update keyed3 Tryz.underlying131 hn (keyOf_int_mk Tryz.underlying3 hk) (redO_enc (some g))
  refine ⟨w', hr, ⟨_, ho, hm.put _ _, fun j => ?_⟩, hg⟩
  by_cases hj : j = k
  · subst hj
    exact (atKey_put_same hm (ikey _) _ _).trans (by simp)
  · dsimp only
    rw [if_neg hj]
    exact (atKey_put_other (lit_ne hj) _ _).trans (hf j)
theorem IMap.kept {w w' : World} {b n : Nat} {f : Int → Option (Nat × Int)} {row : Option Nat} (h : IMap w b n f) (hg : w.grownBy w' row) (hne : some b ≠ row) : IMap w' b n f := by
  obtain ⟨D, hD, hm, hf⟩ := h
  exact ⟨D, hD.kept hg hne, hm, hf⟩
theorem OMap.kept {w w' : World} {b n : Nat} {f : Int → Option Nat} {row : Option Nat} (h : OMap w b n f) (hg : w.grownBy w' row) (hne : some b ≠ row) : OMap w' b n f := by
  obtain ⟨D, hD, hm, hf⟩ := h
  exact ⟨D, hD.kept hg hne, hm, hf⟩
theorem IMap.made (w : World) : IMap (w.alloc (.map #[] 0)) w.heap.size 0 (fun _ => none) :=
  ⟨_, World.ownsMap_made w _ _ _, isMap_empty, fun k => ⟨rfl, rfl⟩⟩
theorem OMap.made (w : World) : OMap (w.alloc (.map #[] 0)) w.heap.size 0 (fun _ => none) :=
  ⟨_, World.ownsMap_made w _ _ _, isMap_empty, fun k => rfl⟩
end Go.Proofs.YtnbhohaphmilmaaGreatDoor
namespace Go.Proofs.YtnbhohaphmilmaaGreatDoor
open Go.RowKit
set_option linter.unusedVariables false
set_option linter.unusedSimpArgs false
/-- names for loads and stores of whole rows: the walk doesn't open them -/
def ldR (T : Nat) (v : Value) : Sem Value := Instr.loadAt T v
def stR (T : Nat) (p v : Value) : Sem Unit := Instr.storeAt T p v
def ixR (T : Nat) (v i : Value) : Sem Value := Instr.index T v i
def bdR (T : Nat) (ps : Array (Nat × Value)) : Sem Value := Instr.build T ps
/-- a whole row in block b -/
def Row (w : World) (b : Nat) (T : Nat) (c : Array Value) : Prop := w.heap[b]? = some (.cells c T (0, 0))
/-- c with cs from o on -/
def putA (c : Array Value) (o : Nat) (cs : List Value) : Array Value := (c.toList.take o ++ cs ++ c.toList.drop (o + cs.length)).toArray
theorem putA_size {c : Array Value} {o : Nat} {cs : List Value} (h : o + cs.length ≤ c.size) : (putA c o cs).size = c.size := by
  simp [putA]; omega
theorem putA_get {c : Array Value} {o : Nat} {cs : List Value} (h : o + cs.length ≤ c.size) (j : Nat) : (putA c o cs)[j]? = if o ≤ j ∧ j < o + cs.length then cs[j - o]? else c[j]? := by
  simp only [putA, List.getElem?_toArray]
  split
  · rename_i hj
    rw [List.append_assoc, List.getElem?_append_right (by simp; omega), List.getElem?_append_left (by simp; omega)]
    simp
    congr 1
    omega
  · rename_i hj
    by_cases h1 : j < o
    · rw [List.append_assoc, List.getElem?_append_left (by simp; omega)]
      simp [List.getElem?_take, h1]
    · rw [List.getElem?_append_right (by simp; omega)]
      simp [List.getElem?_drop]
      congr 1
      omega
theorem putA_set {c : Array Value} {o : Nat} {v : Value} {cs : List Value} (h : o + 1 + cs.length ≤ c.size) : putA (c.setIfInBounds o v) (o + 1) cs = putA c o (v :: cs) := by
  apply Array.ext_getElem?
  intro j
  rw [putA_get (by simp; omega), putA_get (by simp; omega)]
  simp only [List.length_cons, Array.getElem?_setIfInBounds]
  by_cases h0 : j = o
  · subst h0
    rw [if_neg (by omega), if_pos rfl, if_pos (by omega), if_pos (by omega)]
    simp
  · by_cases h1 : o + 1 ≤ j ∧ j < o + 1 + cs.length
    · rw [if_pos h1, if_pos (by omega), show j - o = (j - (o + 1)) + 1 by omega]
      simp
    · rw [if_neg h1, if_neg (fun e => h0 e.symm), if_neg (by omega)]
section
variable {w w' : World} {b T : Nat} {c : Array Value}
theorem Row.lt (h : Row w b T c) : b < w.heap.size := (Array.getElem?_eq_some_iff.1 h).1
theorem Row.keepB {B : Nat} (h : Row w b T c) (hb : Below B w w') (hB : b < B) : Row w' b T c := (hb.block b hB).trans h
theorem Row.keep (h : Row w b T c) (hb : Below w.heap.size w w') : Row w' b T c := h.keepB hb h.lt
theorem Row.upd {S : Nat → Prop} (h : Row w b T c) (hu : Upd S w w') (hn : ¬ S b) : Row w' b T c := (hu.block b h.lt hn).trans h
theorem Row.kept {row : Option Nat} (h : Row w b T c) (hg : w.grownBy w' row) (hne : some b ≠ row) : Row w' b T c := (hg.block b h.lt hne).trans h
theorem Row.alloc (h : Row w b T c) (o : Obj) : Row (w.alloc o) b T c := h.keep ((Below.refl _ _).alloc (Nat.le_refl _) o)
theorem Row.drew (h : Row w b T c) : Row w.drew b T c := h
theorem Row.drewN (h : Row w b T c) (n : Nat) : Row (w.drewN n) b T c := h
theorem Row.cell (h : Row w b T c) (i : Nat) : w.cell? ⟨b, i, none⟩ = c[i]? := cell_of_row w b i _ T (0, 0) h
theorem Row.fz (h : Row w b T c) (i : Nat) : w.frozen? ⟨b, i, none⟩ = false := by
  unfold Row at h
  simp [World.frozen?, h]
theorem row_new (w : World) (T : Nat) (c : Array Value) : Row (w.alloc (.cells c T)) w.heap.size T c := heap_alloc_new w _
theorem Row.setRow (h : Row w b T c) (c' : Array Value) : Row (w.setRow b c') b T c' := setRow_heap w b _ _ T _ h
theorem Row.setRowO (h : Row w b T c) {d : Nat} (hd : d ≠ b) (c' : Array Value) : Row (w.setRow d c') b T c := (setRow_other w d b c' (fun e => hd e.symm)).trans h
theorem Row.setCell (h : Row w b T c) (i : Nat) (v : Value) : w.setCell ⟨b, i, none⟩ v = w.setRow b (c.setIfInBounds i v) := setCell_eq_setRow w b i c T (0, 0) v h
theorem Row.setCells : ∀ (cs : List Value) {w : World} {c : Array Value} {o : Nat}, Row w b T c → o + cs.length ≤ c.size → w.setCells b o cs = w.setRow b (putA c o cs)
  | [], w, c, o, h, _ => by
    have e : putA c o [] = c := by simp [putA]
    rw [e]
    exact (setRow_self w b c T (0, 0) h).symm
  | v :: cs, w, c, o, h, hl => by
    rw [World.setCells, h.setCell o v, Row.setCells cs (h.setRow _) (by simp at hl ⊢; omega), setRow_setRow, putA_set (by simp at hl; omega)]
theorem Row.range (h : Row w b T c) (o n : Nat) : w.rangeAt b o (c.extract o (o + n)).toList := World.rangeAt_of_block h o n
theorem Row.there (h : Row w b T c) {o n : Nat} (hn : o + n ≤ c.size) : w.there b o n := fun j hj => ⟨by rw [h.cell]; simp; omega, h.fz _⟩
/-- a part of a row by value -/
theorem Row.ld (h : Row w b T c) {o n U : Nat} {d : TypeDesc} (hn : o + n ≤ c.size) (hu : Tryz.prog.underlying U = some d) (hd : d.isRow = true) (hi : (Tryz.prog.info? U).map (·.size) = some n) :
    (ldR U (.pointer (some ⟨b, o, none⟩))).run Tryz.prog w = .ok (.agg (c.extract o (o + n))) w := by
  have := run_loadAt_mid (P := Tryz.prog) w b o U _ d (h.range o n) hu hd (by rw [hi]; simp; omega)
  rw [Array.toArray_toList] at this
  exact this
/-- all of it -/
theorem Row.ld0 (h : Row w b T c) {d : TypeDesc} (hu : Tryz.prog.underlying T = some d) (hd : d.isRow = true) (hi : (Tryz.prog.info? T).map (·.size) = some c.size) :
    (ldR T (.pointer (some ⟨b, 0, none⟩))).run Tryz.prog w = .ok (.agg c) w := by
  have := h.ld (o := 0) (n := c.size) (by omega) hu hd hi
  simpa using this
theorem Row.ldV (h : Row w b T c) {d : TypeDesc} (hu : Tryz.prog.underlying T = some d) (hd : d.isRow = true) (hi : (Tryz.prog.info? T).map (·.size) = some c.size) : (loadVar T ⟨b, 0, none⟩).run Tryz.prog w = .ok (.agg c) w := by
  have := run_loadVar_mid (P := Tryz.prog) w b 0 T _ d (h.range 0 c.size) hu hd (by rw [hi]; simp)
  rw [Array.toArray_toList] at this
  simpa using this
theorem Row.st (h : Row w b T c) {o U : Nat} {cs : Array Value} (hn : o + cs.size ≤ c.size) (hi : (Tryz.prog.info? U).map (·.size) = some cs.size) (h1 : cs.all (·.oneCell') = true) :
    (stR U (.pointer (some ⟨b, o, none⟩)) (.agg cs)).run Tryz.prog w = .ok () (w.setRow b (putA c o cs.toList)) := by
  rw [← h.setCells cs.toList (by simpa using hn)]
  exact run_storeAt_mid w b o U cs (h.there hn) hi h1
theorem Row.st0 (h : Row w b T c) {cs : Array Value} (hn : cs.size = c.size) (hi : (Tryz.prog.info? T).map (·.size) = some cs.size) (h1 : cs.all (·.oneCell') = true) :
    (stR T (.pointer (some ⟨b, 0, none⟩)) (.agg cs)).run Tryz.prog w = .ok () (w.setRow b cs) := by
  have := h.st (o := 0) (U := T) (cs := cs) (by omega) hi h1
  rw [this]
  have e : putA c 0 cs.toList = cs := ?_
  · rw [e]
  apply Array.ext_getElem?
  intro j
  rw [putA_get (by simp; omega)]
  simp only [Nat.zero_le, true_and, Nat.zero_add, Nat.sub_zero, Array.length_toList, Array.getElem?_toList]
  split
  · rfl
  · rw [Array.getElem?_eq_none (by omega), Array.getElem?_eq_none (by omega)]
end
theorem results_cell1 {fn : Func} {p : Tmp} {ty : TypeId} (h : fn.results = #[.cell p ty]) (tmps : Array Value) (P : Program) (w : World) :
    (results fn tmps).run P w = ((asAddr (tmps.getD p undef)).run P w).andThen fun a w1 => (loadVar ty a).run P w1 := by
  unfold results
  rw [h]
  simp
theorem results_cell_tmp {fn : Func} {p u : Tmp} {ty : TypeId} (h : fn.results = #[.cell p ty, .tmp u]) (tmps : Array Value) (P : Program) (w : World) :
    (results fn tmps).run P w = ((asAddr (tmps.getD p undef)).run P w).andThen fun a w1 => ((loadVar ty a).run P w1).andThen fun v w2 => .ok (.tuple #[v, tmps.getD u undef]) w2 := by
  unfold results
  rw [h]
  simp
theorem results_tmp4 {fn : Func} {t u x y : Tmp} (h : fn.results = #[.tmp t, .tmp u, .tmp x, .tmp y]) (tmps : Array Value) (P : Program) (w : World) :
    (results fn tmps).run P w = .ok (.tuple #[tmps.getD t undef, tmps.getD u undef, tmps.getD x undef, tmps.getD y undef]) w := by
  unfold results
  rw [h]
  simp
theorem st0_new (w : World) {T : Nat} {c cs : Array Value} (hn : cs.size = c.size) (hi : (Tryz.prog.info? T).map (·.size) = some cs.size) (h1 : cs.all (·.oneCell') = true) :
    (stR T (.pointer (some ⟨w.heap.size, 0, none⟩)) (.agg cs)).run Tryz.prog (w.alloc (.cells c T)) = .ok () (w.alloc (.cells cs T)) := by
  rw [(row_new w T c).st0 hn hi h1, World.setRow_alloc_new]
end Go.Proofs.YtnbhohaphmilmaaGreatDoor
namespace Go.Proofs.YtnbhohaphmilmaaGreatDoor
open Go.RowKit Go.Maps
set_option linter.unusedVariables false
set_option linter.unusedSimpArgs false
def pipA : Array Value := Array.replicate 16 (.pointer none)
set_option maxRecDepth 100000 in
set_option maxHeartbeats 400000 in
theorem pnew_is (w : World) : Calls Tryz.prog 26 #[] w fun e w' => e = .returned (.pointer (some ⟨w.heap.size, 0, none⟩)) ∧ w' = w.alloc (.cells pipA 189) := by
  go_enter Tryz.func26, Tryz.ntmps26
  go_wp2_with fail
  go_ret
  exact ⟨rfl, rfl⟩
set_option maxRecDepth 100000 in
set_option maxHeartbeats 400000 in
theorem wnew_is (w : World) : Calls Tryz.prog 27 #[.int .u32 0] w fun e w' => e = .returned (.pointer (some ⟨w.heap.size, 0, none⟩)) ∧ w' = w.alloc (.cells #[.int .u32 0, .slice none 0 0] 192) := by
  go_enter Tryz.func27, Tryz.ntmps27
  go_wp2_with fail
  go_ret
  exact ⟨rfl, rfl⟩
set_option maxRecDepth 100000 in
set_option maxHeartbeats 400000 in
theorem spnew_is (w : World) : Calls Tryz.prog 31 #[.int .i64 48, .int .i64 8] w fun e w' => e = .returned (.tuple #[.pointer (some ⟨w.heap.size + 1, 0, none⟩), .int .i64 0]) ∧ w' = (w.alloc (.map #[] 0)).alloc (.cells #[.int .i64 48, .int .i64 8, .int .i64 0, .slice none 0 0, .map (some w.heap.size)] 133) := by
  have hmm := @run_makeMap Tryz.prog
  go_enter Tryz.func31, Tryz.ntmps31
  go_wp2_with fail
  go_ret2
  exact ⟨rfl, rfl⟩
theorem grown_trans {a b c : World} {row : Option Nat} (h : a.grownBy b row) (k : b.grownBy c row) : a.grownBy c row := ⟨k.os.trans h.os, k.tape.trans h.tape, k.output.trans h.output, Nat.le_trans h.size k.size, fun i hi hne => (k.block i (Nat.lt_of_lt_of_le hi h.size) hne).trans (h.block i hi hne)⟩
theorem map_is_nil (w : World) : (binOp .eql 210 (.map none) (.map none)).run Tryz.prog w = .ok (.bool true) w := by kernel_rfl
set_option maxRecDepth 100000 in
set_option maxHeartbeats 400000 in
theorem spmake_is {w : World} {M so : Nat} (m4 : w.cell? ⟨M, 4, none⟩ = some (.map (some so))) (om : OMap w so 0 (fun _ => none)) : Calls Tryz.prog 32 #[.pointer (some ⟨M, 0, none⟩)] w fun e w' => e = .returned (.tuple #[.int .i64 1, .int .i64 0]) ∧ OMap w' so 1 (fun k => if k = 1 then some w.heap.size else none) ∧ IMap w' w.heap.size 0 (fun _ => none) ∧ w.grownBy w' (some so) := by
  have hmm := @run_makeMap Tryz.prog
  have l1 : (Instr.lookup 131 (.map (some so)) (.int .i64 1) false).run Tryz.prog w = .ok (.map none) w := om.look (by decide)
  have l2 := map_is_nil w
  have hg0 := World.grownBy_alloc w (.map #[] 0) none
  have hso : so < w.heap.size := by
    obtain ⟨D, hD, _⟩ := om
    exact hD.lt
  obtain ⟨w2, hup, om2, hg2⟩ := (om.kept hg0 (by simp)).put (k := 1) (by decide) (by unfold maxLen; omega) w.heap.size
  have hup : (Instr.mapUpdate 131 (.map (some so)) (.int .i64 1) (.map (some w.heap.size))).run Tryz.prog (w.alloc (.map #[] 0)) = .ok () w2 := hup
  have HI := Lib.hid ((IMap.made w).kept hg2 (by intro e; injection e with e; omega))
  have HG := Lib.hid (show w.grownBy w2 (some so) from grown_trans (World.grownBy_alloc w (.map #[] 0) (some so)) hg2)
  have HO := Lib.hid om2
  clear om om2 hg2 hg0 hso
  go_enter Tryz.func32, Tryz.ntmps32
  go_wp2_with fail
  refine wp_loop_rounds 1 ?_
  rw [rounds_succ]
  go_wp2_with fail
  go_ret2
  exact ⟨rfl, HO.out, HI.out, HG.out⟩
end Go.Proofs.YtnbhohaphmilmaaGreatDoor
