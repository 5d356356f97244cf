/- The two maps of space.Memory, as functions: spaces (number -> a space's map) and a space (page number -> its entry). -/
import Derived.Test.YtopadiofanaaiaaDoorCommon
import Derived.Test.YtopadiofanaaiaaDoorOwn
import Derived.Maps.OwnSet
import Derived.Maps.Views
namespace Go.Proofs.YtopadiofanaaiaaDoor
open Go.RowKit Go.Maps
set_option linter.unusedVariables false
set_option linter.unusedSimpArgs false
/-- An entry of a space: its page's block, and its rights. -/
def encE : Option (Nat × Int) → Value
  | none => .agg #[.pointer none, .int .i64 0]
  | some (g, r) => .agg #[.pointer (some ⟨g, 0, none⟩), .int .i64 r]
def encO : Option Nat → Value
  | none => .map none
  | some b => .map (some b)
def datE : Option (Nat × Int) → DataW Unit
  | none => .nil
  | some (g, r) => .agg [.lit (.int .i64 g), .lit (.int .i64 r)]
def datO : Option Nat → DataW Unit
  | none => .nil
  | some b => .lit (.int .i64 b)
open Classical in
noncomputable def redE (v : Value) : Option (DataW Unit × List MemPlace) := if h : ∃ x, v = encE x then some (datE h.choose, []) else none
open Classical in
noncomputable def redO (v : Value) : Option (DataW Unit × List MemPlace) := if h : ∃ x, v = encO x then some (datO h.choose, []) else none
theorem encE_inj {x y : Option (Nat × Int)} (h : encE x = encE y) : x = y := by
  cases x with
  | none => cases y with
    | none => rfl
    | some y => obtain ⟨g, r⟩ := y; simp [encE] at h
  | some x => obtain ⟨g, r⟩ := x; cases y with
    | none => simp [encE] at h
    | some y => obtain ⟨g', r'⟩ := y; simp [encE] at h; obtain ⟨h1, h2⟩ := h; rw [h1, h2]
theorem encO_inj {x y : Option Nat} (h : encO x = encO y) : x = y := by
  cases x <;> cases y <;> simp [encO] at h ⊢
  exact h
theorem datE_inj {x y : Option (Nat × Int)} (h : datE x = datE y) : x = y := by
  cases x with
  | none => cases y with
    | none => rfl
    | some y => obtain ⟨g, r⟩ := y; simp [datE] at h
  | some x => obtain ⟨g, r⟩ := x; cases y with
    | none => simp [datE] at h
    | some y => obtain ⟨g', r'⟩ := y; simp [datE] at h; obtain ⟨h1, h2⟩ := h; rw [h2]; congr; omega
theorem datO_inj {x y : Option Nat} (h : datO x = datO y) : x = y := by
  cases x <;> cases y <;> simp [datO] at h ⊢
  omega
theorem redE_enc (x : Option (Nat × Int)) : redE (encE x) = some (datE x, []) := by
  unfold redE
  have h : ∃ y, encE x = encE y := ⟨x, rfl⟩
  rw [dif_pos h, ← encE_inj h.choose_spec]
theorem redO_enc (x : Option Nat) : redO (encO x) = some (datO x, []) := by
  unfold redO
  have h : ∃ y, encO x = encO y := ⟨x, rfl⟩
  rw [dif_pos h, ← encO_inj h.choose_spec]
theorem redE_inv {v : Value} {x : Option (Nat × Int)} {ps : List MemPlace} (h : redE v = some (datE x, ps)) : v = encE x := by
  unfold redE at h
  split at h
  · rename_i h'
    simp only [Option.some.injEq, Prod.mk.injEq] at h
    rw [← datE_inj h.1]; exact h'.choose_spec
  · cases h
theorem redO_inv {v : Value} {x : Option Nat} {ps : List MemPlace} (h : redO v = some (datO x, ps)) : v = encO x := by
  unfold redO at h
  split at h
  · rename_i h'
    simp only [Option.some.injEq, Prod.mk.injEq] at h
    rw [← datO_inj h.1]; exact h'.choose_spec
  · cases h
theorem keyed3 : Keyed Tryd.prog 3 := int_keyed Tryd.underlying3
/-- Block b is a space's map: f says what lies at each key. -/
def IMap (w : World) (b n : Nat) (f : Int → Option (Nat × Int)) : Prop :=
  ∃ D : DataW Unit, w.ownsMap Tryd.prog 3 redE b n D ∧ IsMap D ∧ ∀ k, D.atKey (.int .i64 k) .nil = datE (f k) ∧ Maps.has D (.int .i64 k) = (f k).isSome
def OMap (w : World) (b n : Nat) (f : Int → Option Nat) : Prop :=
  ∃ D : DataW Unit, w.ownsMap Tryd.prog 3 redO b n D ∧ IsMap D ∧ ∀ k, D.atKey (.int .i64 k) .nil = datO (f k)
theorem zero46 (w : World) : (zeroValue 46).run Tryd.prog w = .ok (encE none) w := by kernel_rfl
theorem zero42 (w : World) : (zeroValue 42).run Tryd.prog w = .ok (encO none) w := by kernel_rfl
theorem IMap.look {w : World} {b n : Nat} {f : Int → Option (Nat × Int)} (h : IMap w b n f) {k : Int} (hk : (Lit.int .i64 k).wf = true) : (Instr.lookup 42 (.map (some b)) (.int .i64 k) false).run Tryd.prog w = .ok (encE (f k)) w := by
  obtain ⟨D, hD, hm, hf⟩ := h
  obtain ⟨v, ps, hr, hv⟩ := hD.lookup keyed3 Tryd.underlying42 (zero46 w) (redE_enc none) (keyOf_int_mk Tryd.underlying3 hk)
  rw [show datE none = .nil from rfl, (hf k).1] at hv
  rw [hr, redE_inv hv]
theorem IMap.look_ok {w : World} {b n : Nat} {f : Int → Option (Nat × Int)} (h : IMap w b n f) {k : Int} (hk : (Lit.int .i64 k).wf = true) : (Instr.lookup 42 (.map (some b)) (.int .i64 k) true).run Tryd.prog w = .ok (.tuple #[encE (f k), .bool (f k).isSome]) w := by
  obtain ⟨D, hD, hm, hf⟩ := h
  obtain ⟨v, ps, hr, hv⟩ := hD.look_ok keyed3 Tryd.underlying42 (zero46 w) (redE_enc none) (keyOf_int_mk Tryd.underlying3 hk)
  rw [show datE none = .nil from rfl, (hf k).1] at hv
  rw [hr, redE_inv hv, (hf k).2]
theorem OMap.look {w : World} {b n : Nat} {f : Int → Option Nat} (h : OMap w b n f) {k : Int} (hk : (Lit.int .i64 k).wf = true) : (Instr.lookup 38 (.map (some b)) (.int .i64 k) false).run Tryd.prog w = .ok (encO (f k)) w := by
  obtain ⟨D, hD, hm, hf⟩ := h
  obtain ⟨v, ps, hr, hv⟩ := hD.lookup keyed3 Tryd.underlying38 (zero42 w) (redO_enc none) (keyOf_int_mk Tryd.underlying3 hk)
  rw [show datO none = .nil from rfl, hf k] at hv
  rw [hr, redO_inv hv]
theorem ikey (k : Int) : WideAt.IsKeyLit (Lit.int .i64 k) := trivial
theorem lit_ne {k k' : Int} (h : k' ≠ k) : (Lit.int .i64 k' : Lit) ≠ Lit.int .i64 k := fun e => h (by injection e)
theorem IMap.put {w : World} {b n : Nat} {f : Int → Option (Nat × Int)} (h : IMap w b n f) {k : Int} (hk : (Lit.int .i64 k).wf = true) (hn : n < maxLen) (g : Nat) (r : Int) : ∃ w', (Instr.mapUpdate 42 (.map (some b)) (.int .i64 k) (encE (some (g, r)))).run Tryd.prog w = .ok () w' ∧ IMap w' b (n + 1) (fun j => if j = k then some (g, r) else f j) ∧ w.grownBy w' (some b) := by
  obtain ⟨D, hD, hm, hf⟩ := h
  obtain ⟨w', hr, ho, hg⟩ := hD.update keyed3 Tryd.underlying42 hn (keyOf_int_mk Tryd.underlying3 hk) (redE_enc (some (g, r)))
  refine ⟨w', hr, ⟨_, ho, hm.put _ _, fun j => ?_⟩, hg⟩
  by_cases hj : j = k
  · subst hj
    exact ⟨(atKey_put_same hm (ikey _) _ _).trans (by simp), (has_put_same hm (ikey _) _).trans (by simp)⟩
  · dsimp only
    rw [if_neg hj]
    exact ⟨(atKey_put_other (lit_ne hj) _ _).trans (hf j).1, (has_put_other (lit_ne hj) _).trans (hf j).2⟩
theorem OMap.put {w : World} {b n : Nat} {f : Int → Option Nat} (h : OMap w b n f) {k : Int} (hk : (Lit.int .i64 k).wf = true) (hn : n < maxLen) (g : Nat) : ∃ w', (Instr.mapUpdate 38 (.map (some b)) (.int .i64 k) (encO (some g))).run Tryd.prog w = .ok () w' ∧ OMap w' b (n + 1) (fun j => if j = k then some g else f j) ∧ w.grownBy w' (some b) := by
  obtain ⟨D, hD, hm, hf⟩ := h
  obtain ⟨w', hr, ho, hg⟩ := hD.update keyed3 Tryd.underlying38 hn (keyOf_int_mk Tryd.underlying3 hk) (redO_enc (some g))
  refine ⟨w', hr, ⟨_, ho, hm.put _ _, fun j => ?_⟩, hg⟩
  by_cases hj : j = k
  · subst hj
    exact (atKey_put_same hm (ikey _) _ _).trans (by simp)
  · dsimp only
    rw [if_neg hj]
    exact (atKey_put_other (lit_ne hj) _ _).trans (hf j)
theorem IMap.kept {w w' : World} {b n : Nat} {f : Int → Option (Nat × Int)} {row : Option Nat} (h : IMap w b n f) (hg : w.grownBy w' row) (hne : some b ≠ row) : IMap w' b n f := by
  obtain ⟨D, hD, hm, hf⟩ := h
  exact ⟨D, hD.kept hg hne, hm, hf⟩
theorem OMap.kept {w w' : World} {b n : Nat} {f : Int → Option Nat} {row : Option Nat} (h : OMap w b n f) (hg : w.grownBy w' row) (hne : some b ≠ row) : OMap w' b n f := by
  obtain ⟨D, hD, hm, hf⟩ := h
  exact ⟨D, hD.kept hg hne, hm, hf⟩
theorem IMap.made (w : World) : IMap (w.alloc (.map #[] 0)) w.heap.size 0 (fun _ => none) :=
  ⟨_, World.ownsMap_made w _ _ _, isMap_empty, fun k => ⟨rfl, rfl⟩⟩
theorem OMap.made (w : World) : OMap (w.alloc (.map #[] 0)) w.heap.size 0 (fun _ => none) :=
  ⟨_, World.ownsMap_made w _ _ _, isMap_empty, fun k => rfl⟩
end Go.Proofs.YtopadiofanaaiaaDoor
