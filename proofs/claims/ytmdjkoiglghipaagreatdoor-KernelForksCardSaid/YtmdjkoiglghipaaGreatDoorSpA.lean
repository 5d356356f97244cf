/- The two maps of space.Memory, as functions: spaces (number -> a space's map) and a space (page number -> its entry). The walks of what a kernel begins with: pipe.New, wheel.New, space.New, space's Make. The memory of all spaces: what holds of it, and what keeps it. No walk here. -/
import Derived.Test.YtmdjkoiglghipaaGreatDoorTab
import Derived.Test.YtmdjkoiglghipaaGreatDoorOwn
import Derived.Maps.OwnSet
import Derived.Maps.Views
import Derived.Test.YtmdjkoiglghipaaGreatDoorRowW
namespace Go.Proofs.YtmdjkoiglghipaaGreatDoor
open Go.RowKit Go.Maps
set_option linter.unusedVariables false
set_option linter.unusedSimpArgs false
/-- An entry of a space: its page's block, and its rights. -/
def encE : Option (Nat × Int) → Value
  | none => .agg #[.pointer none, .int .i64 0]
  | some (g, r) => .agg #[.pointer (some ⟨g, 0, none⟩), .int .i64 r]
def encO : Option Nat → Value
  | none => .map none
  | some b => .map (some b)
def datE : Option (Nat × Int) → DataW Unit
  | none => .nil
  | some (g, r) => .agg [.lit (.int .i64 g), .lit (.int .i64 r)]
def datO : Option Nat → DataW Unit
  | none => .nil
  | some b => .lit (.int .i64 b)
open Classical in
noncomputable def redE (v : Value) : Option (DataW Unit × List MemPlace) := if h : ∃ x, v = encE x then some (datE h.choose, []) else none
open Classical in
noncomputable def redO (v : Value) : Option (DataW Unit × List MemPlace) := if h : ∃ x, v = encO x then some (datO h.choose, []) else none
theorem encE_inj {x y : Option (Nat × Int)} (h : encE x = encE y) : x = y := by
  cases x with
  | none => cases y with
    | none => rfl
    | some y => obtain ⟨g, r⟩ := y; simp [encE] at h
  | some x => obtain ⟨g, r⟩ := x; cases y with
    | none => simp [encE] at h
    | some y => obtain ⟨g', r'⟩ := y; simp [encE] at h; obtain ⟨h1, h2⟩ := h; rw [h1, h2]
theorem encO_inj {x y : Option Nat} (h : encO x = encO y) : x = y := by
  cases x <;> cases y <;> simp [encO] at h ⊢
  exact h
theorem datE_inj {x y : Option (Nat × Int)} (h : datE x = datE y) : x = y := by
  cases x with
  | none => cases y with
    | none => rfl
    | some y => obtain ⟨g, r⟩ := y; simp [datE] at h
  | some x => obtain ⟨g, r⟩ := x; cases y with
    | none => simp [datE] at h
    | some y => obtain ⟨g', r'⟩ := y; simp [datE] at h; obtain ⟨h1, h2⟩ := h; rw [h2]; congr; omega
theorem datO_inj {x y : Option Nat} (h : datO x = datO y) : x = y := by
  cases x <;> cases y <;> simp [datO] at h ⊢
  omega
theorem redE_enc (x : Option (Nat × Int)) : redE (encE x) = some (datE x, []) := by
  unfold redE
  have h : ∃ y, encE x = encE y := ⟨x, rfl⟩
  rw [dif_pos h, ← encE_inj h.choose_spec]
theorem redO_enc (x : Option Nat) : redO (encO x) = some (datO x, []) := by
  unfold redO
  have h : ∃ y, encO x = encO y := ⟨x, rfl⟩
  rw [dif_pos h, ← encO_inj h.choose_spec]
theorem redE_inv {v : Value} {x : Option (Nat × Int)} {ps : List MemPlace} (h : redE v = some (datE x, ps)) : v = encE x := by
  unfold redE at h
  split at h
  · rename_i h'
    simp only [Option.some.injEq, Prod.mk.injEq] at h
    rw [← datE_inj h.1]; exact h'.choose_spec
  · cases h
theorem redO_inv {v : Value} {x : Option Nat} {ps : List MemPlace} (h : redO v = some (datO x, ps)) : v = encO x := by
  unfold redO at h
  split at h
  · rename_i h'
    simp only [Option.some.injEq, Prod.mk.injEq] at h
    rw [← datO_inj h.1]; exact h'.choose_spec
  · cases h
theorem keyed3 : Keyed Tryz.prog 3 := int_keyed Tryz.underlying3
/-- Block b is a space's map: f says what lies at each key. -/
def IMap (w : World) (b n : Nat) (f : Int → Option (Nat × Int)) : Prop :=
  ∃ D : DataW Unit, w.ownsMap Tryz.prog 3 redE b n D ∧ IsMap D ∧ ∀ k, D.atKey (.int .i64 k) .nil = datE (f k) ∧ Maps.has D (.int .i64 k) = (f k).isSome
def OMap (w : World) (b n : Nat) (f : Int → Option Nat) : Prop :=
  ∃ D : DataW Unit, w.ownsMap Tryz.prog 3 redO b n D ∧ IsMap D ∧ ∀ k, D.atKey (.int .i64 k) .nil = datO (f k)
theorem zero46 (w : World) : (zeroValue 115).run Tryz.prog w = .ok (encE none) w := by kernel_rfl
theorem zero42 (w : World) : (zeroValue 80).run Tryz.prog w = .ok (encO none) w := by kernel_rfl
theorem IMap.look {w : World} {b n : Nat} {f : Int → Option (Nat × Int)} (h : IMap w b n f) {k : Int} (hk : (Lit.int .i64 k).wf = true) : (Instr.lookup 80 (.map (some b)) (.int .i64 k) false).run Tryz.prog w = .ok (encE (f k)) w := by
  obtain ⟨D, hD, hm, hf⟩ := h
  obtain ⟨v, ps, hr, hv⟩ := hD.lookup keyed3 Tryz.underlying80 (zero46 w) (redE_enc none) (keyOf_int_mk Tryz.underlying3 hk)
  rw [show datE none = .nil from rfl, (hf k).1] at hv
  rw [hr, redE_inv hv]
theorem IMap.look_ok {w : World} {b n : Nat} {f : Int → Option (Nat × Int)} (h : IMap w b n f) {k : Int} (hk : (Lit.int .i64 k).wf = true) : (Instr.lookup 80 (.map (some b)) (.int .i64 k) true).run Tryz.prog w = .ok (.tuple #[encE (f k), .bool (f k).isSome]) w := by
  obtain ⟨D, hD, hm, hf⟩ := h
  obtain ⟨v, ps, hr, hv⟩ := hD.look_ok keyed3 Tryz.underlying80 (zero46 w) (redE_enc none) (keyOf_int_mk Tryz.underlying3 hk)
  rw [show datE none = .nil from rfl, (hf k).1] at hv
  rw [hr, redE_inv hv, (hf k).2]
theorem OMap.look {w : World} {b n : Nat} {f : Int → Option Nat} (h : OMap w b n f) {k : Int} (hk : (Lit.int .i64 k).wf = true) : (Instr.lookup 82 (.map (some b)) (.int .i64 k) false).run Tryz.prog w = .ok (encO (f k)) w := by
  obtain ⟨D, hD, hm, hf⟩ := h
  obtain ⟨v, ps, hr, hv⟩ := hD.lookup keyed3 Tryz.underlying82 (zero42 w) (redO_enc none) (keyOf_int_mk Tryz.underlying3 hk)
  rw [show datO none = .nil from rfl, hf k] at hv
  rw [hr, redO_inv hv]
theorem ikey (k : Int) : WideAt.IsKeyLit (Lit.int .i64 k) := trivial
theorem lit_ne {k k' : Int} (h : k' ≠ k) : (Lit.int .i64 k' : Lit) ≠ Lit.int .i64 k := fun e => h (by injection e)
theorem IMap.put {w : World} {b n : Nat} {f : Int → Option (Nat × Int)} (h : IMap w b n f) {k : Int} (hk : (Lit.int .i64 k).wf = true) (hn : n < maxLen) (g : Nat) (r : Int) : ∃ w', (Instr.mapUpdate 80 (.map (some b)) (.int .i64 k) (encE (some (g, r)))).run Tryz.prog w = .ok () w' ∧ IMap w' b (n + 1) (fun j => if j = k then some (g, r) else f j) ∧ w.grownBy w' (some b) := by
  obtain ⟨D, hD, hm, hf⟩ := h
  obtain ⟨w', hr, ho, hg⟩ := hD.update keyed3 Tryz.underlying80 hn (keyOf_int_mk Tryz.underlying3 hk) (redE_enc (some (g, r)))
  refine ⟨w', hr, ⟨_, ho, hm.put _ _, fun j => ?_⟩, hg⟩
  by_cases hj : j = k
  · subst hj
    exact ⟨(atKey_put_same hm (ikey _) _ _).trans (by simp), (has_put_same hm (ikey _) _).trans (by simp)⟩
  · dsimp only
    rw [if_neg hj]
    exact ⟨(atKey_put_other (lit_ne hj) _ _).trans (hf j).1, (has_put_other (lit_ne hj) _).trans (hf j).2⟩
theorem OMap.put {w : World} {b n : Nat} {f : Int → Option Nat} (h : OMap w b n f) {k : Int} (hk : (Lit.int .i64 k).wf = true) (hn : n < maxLen) (g : Nat) : ∃ w', (Instr.mapUpdate 82 (.map (some b)) (.int .i64 k) (encO (some g))).run Tryz.prog w = .ok () w' ∧ OMap w' b (n + 1) (fun j => if j = k then some g else f j) ∧ w.grownBy w' (some b) := by
  obtain ⟨D, hD, hm, hf⟩ := h
  obtain ⟨w', hr, ho, hg⟩ := hD.update keyed3 Tryz.underlying82 hn (keyOf_int_mk Tryz.underlying3 hk) (redO_enc (some g))
  refine ⟨w', hr, ⟨_, ho, hm.put _ _, fun j => ?_⟩, hg⟩
  by_cases hj : j = k
  · subst hj
    exact (atKey_put_same hm (ikey _) _ _).trans (by simp)
  · dsimp only
    rw [if_neg hj]
    exact (atKey_put_other (lit_ne hj) _ _).trans (hf j)
theorem IMap.kept {w w' : World} {b n : Nat} {f : Int → Option (Nat × Int)} {row : Option Nat} (h : IMap w b n f) (hg : w.grownBy w' row) (hne : some b ≠ row) : IMap w' b n f := by
  obtain ⟨D, hD, hm, hf⟩ := h
  exact ⟨D, hD.kept hg hne, hm, hf⟩
theorem OMap.kept {w w' : World} {b n : Nat} {f : Int → Option Nat} {row : Option Nat} (h : OMap w b n f) (hg : w.grownBy w' row) (hne : some b ≠ row) : OMap w' b n f := by
  obtain ⟨D, hD, hm, hf⟩ := h
  exact ⟨D, hD.kept hg hne, hm, hf⟩
theorem IMap.made (w : World) : IMap (w.alloc (.map #[] 0)) w.heap.size 0 (fun _ => none) :=
  ⟨_, World.ownsMap_made w _ _ _, isMap_empty, fun k => ⟨rfl, rfl⟩⟩
theorem OMap.made (w : World) : OMap (w.alloc (.map #[] 0)) w.heap.size 0 (fun _ => none) :=
  ⟨_, World.ownsMap_made w _ _ _, isMap_empty, fun k => rfl⟩
end Go.Proofs.YtmdjkoiglghipaaGreatDoor
namespace Go.Proofs.YtmdjkoiglghipaaGreatDoor
open Go.RowKit Go.Maps
set_option linter.unusedVariables false
set_option linter.unusedSimpArgs false
def pipA : Array Value := Array.replicate 16 (.pointer none)
set_option maxRecDepth 100000 in
set_option maxHeartbeats 400000 in
theorem pnew_is (w : World) : Calls Tryz.prog 32 #[] w fun e w' => e = .returned (.pointer (some ⟨w.heap.size, 0, none⟩)) ∧ w' = w.alloc (.cells pipA 175) := by
  go_enter Tryz.func32, Tryz.ntmps32
  go_wp2_with fail
  go_ret
  exact ⟨rfl, rfl⟩
set_option maxRecDepth 100000 in
set_option maxHeartbeats 400000 in
theorem wnew_is (w : World) : Calls Tryz.prog 33 #[.int .u32 0] w fun e w' => e = .returned (.pointer (some ⟨w.heap.size, 0, none⟩)) ∧ w' = w.alloc (.cells #[.int .u32 0, .slice none 0 0] 178) := by
  go_enter Tryz.func33, Tryz.ntmps33
  go_wp2_with fail
  go_ret
  exact ⟨rfl, rfl⟩
set_option maxRecDepth 100000 in
set_option maxHeartbeats 400000 in
theorem spnew_is (w : World) : Calls Tryz.prog 37 #[.int .i64 64, .int .i64 64] w fun e w' => e = .returned (.tuple #[.pointer (some ⟨w.heap.size + 1, 0, none⟩), .int .i64 0]) ∧ w' = (w.alloc (.map #[] 0)).alloc (.cells #[.int .i64 64, .int .i64 64, .int .i64 0, .slice none 0 0, .map (some w.heap.size)] 84) := by
  have hmm := @run_makeMap Tryz.prog
  go_enter Tryz.func37, Tryz.ntmps37
  go_wp2_with fail
  go_ret2
  exact ⟨rfl, rfl⟩
theorem grown_trans {a b c : World} {row : Option Nat} (h : a.grownBy b row) (k : b.grownBy c row) : a.grownBy c row := ⟨k.os.trans h.os, k.tape.trans h.tape, k.output.trans h.output, Nat.le_trans h.size k.size, fun i hi hne => (k.block i (Nat.lt_of_lt_of_le hi h.size) hne).trans (h.block i hi hne)⟩
theorem map_is_nil (w : World) : (binOp .eql 80 (.map none) (.map none)).run Tryz.prog w = .ok (.bool true) w := by kernel_rfl
set_option maxRecDepth 100000 in
set_option maxHeartbeats 400000 in
theorem spmake_is {w : World} {M so : Nat} (m4 : w.cell? ⟨M, 4, none⟩ = some (.map (some so))) (om : OMap w so 0 (fun _ => none)) : Calls Tryz.prog 38 #[.pointer (some ⟨M, 0, none⟩)] w fun e w' => e = .returned (.tuple #[.int .i64 1, .int .i64 0]) ∧ OMap w' so 1 (fun k => if k = 1 then some w.heap.size else none) ∧ IMap w' w.heap.size 0 (fun _ => none) ∧ w.grownBy w' (some so) := by
  have hmm := @run_makeMap Tryz.prog
  have l1 : (Instr.lookup 82 (.map (some so)) (.int .i64 1) false).run Tryz.prog w = .ok (.map none) w := om.look (by decide)
  have l2 := map_is_nil w
  have hg0 := World.grownBy_alloc w (.map #[] 0) none
  have hso : so < w.heap.size := by
    obtain ⟨D, hD, _⟩ := om
    exact hD.lt
  obtain ⟨w2, hup, om2, hg2⟩ := (om.kept hg0 (by simp)).put (k := 1) (by decide) (by unfold maxLen; omega) w.heap.size
  have hup : (Instr.mapUpdate 82 (.map (some so)) (.int .i64 1) (.map (some w.heap.size))).run Tryz.prog (w.alloc (.map #[] 0)) = .ok () w2 := hup
  have HI := Lib.hid ((IMap.made w).kept hg2 (by intro e; injection e with e; omega))
  have HG := Lib.hid (show w.grownBy w2 (some so) from grown_trans (World.grownBy_alloc w (.map #[] 0) (some so)) hg2)
  have HO := Lib.hid om2
  clear om om2 hg2 hg0 hso
  go_enter Tryz.func38, Tryz.ntmps38
  go_wp2_with fail
  refine wp_loop_rounds 1 ?_
  rw [rounds_succ]
  go_wp2_with fail
  go_ret2
  exact ⟨rfl, HO.out, HI.out, HG.out⟩
end Go.Proofs.YtmdjkoiglghipaaGreatDoor
namespace Go.Proofs.YtmdjkoiglghipaaGreatDoor
open Go.RowKit Go.Maps
set_option linter.unusedVariables false
set_option linter.unusedSimpArgs false
/-- a page: its bytes, how many entries name it, whether it is in a frame -/
structure PgAt (w : World) (g : Nat) (d : Nat → Int) (u : Int) (h : Bool) : Prop where
  lt : g < w.heap.size
  dc : ∀ j, j < 16 → w.cell? ⟨g, j, none⟩ = some (.int .u8 (d j))
  us : w.cell? ⟨g, 16, none⟩ = some (.int .i64 u)
  hr : w.cell? ⟨g, 17, none⟩ = some (.bool h)
  ak : ∃ a, w.cell? ⟨g, 18, none⟩ = some (.int .i64 a)
  fz : ∀ j, w.frozen? ⟨g, j, none⟩ = false
  rw : ∃ C, Row w g 121 C
theorem row_set {w : World} {b T i : Nat} {v : Value} (h : ∃ C, Row w b T C) : ∃ C, Row (w.setCell ⟨b, i, none⟩ v) b T C := by
  obtain ⟨C, hC⟩ := h
  exact ⟨_, by rw [hC.setCell]; exact hC.setRow _⟩
section
variable {w w' : World} {g : Nat} {d : Nat → Int} {u : Int} {h : Bool}
theorem PgAt.upd {S : Nat → Prop} (p : PgAt w g d u h) (hu : Upd S w w') (hn : ¬ S g) : PgAt w' g d u h := by
  have k : ∀ {o v}, w.cell? ⟨g, o, none⟩ = some v → w'.cell? ⟨g, o, none⟩ = some v := fun hc => (hu.cell p.lt hn).trans hc
  obtain ⟨a, ha⟩ := p.ak
  exact ⟨Nat.lt_of_lt_of_le p.lt hu.size, fun j hj => k (p.dc j hj), k p.us, k p.hr, ⟨a, k ha⟩, fun j => (hu.frozen p.lt hn).trans (p.fz j), by obtain ⟨C, hC⟩ := p.rw; exact ⟨C, hC.upd hu hn⟩⟩
theorem PgAt.keep (p : PgAt w g d u h) (hb : Below w.heap.size w w') : PgAt w' g d u h := p.upd (S := fun _ => False) (Upd.below hb) (fun e => e)
theorem PgAt.asked (p : PgAt w g d u h) (x : Int) : PgAt (w.setCell ⟨g, 18, none⟩ (.int .i64 x)) g d u h := by
  obtain ⟨a, ha⟩ := p.ak
  exact ⟨by simpa [World.setCell] using p.lt, fun j hj => set_off (by omega) (p.dc j hj), set_off (by omega) p.us, set_off (by omega) p.hr, ⟨x, set_same ha⟩, fun j => by rw [World.frozen?_setCell]; exact p.fz j, row_set p.rw⟩
theorem PgAt.here (p : PgAt w g d u h) (x : Bool) : PgAt (w.setCell ⟨g, 17, none⟩ (.bool x)) g d u x := by
  obtain ⟨a, ha⟩ := p.ak
  exact ⟨by simpa [World.setCell] using p.lt, fun j hj => set_off (by omega) (p.dc j hj), set_off (by omega) p.us, set_same p.hr, ⟨a, set_off (by omega) ha⟩, fun j => by rw [World.frozen?_setCell]; exact p.fz j, row_set p.rw⟩
theorem PgAt.users (p : PgAt w g d u h) (x : Int) : PgAt (w.setCell ⟨g, 16, none⟩ (.int .i64 x)) g d x h := by
  obtain ⟨a, ha⟩ := p.ak
  exact ⟨by simpa [World.setCell] using p.lt, fun j hj => set_off (by omega) (p.dc j hj), set_same p.us, set_off (by omega) p.hr, ⟨a, set_off (by omega) ha⟩, fun j => by rw [World.frozen?_setCell]; exact p.fz j, row_set p.rw⟩
theorem PgAt.byte (p : PgAt w g d u h) {i : Nat} (hi : i < 16) (x : Int) : PgAt (w.setCell ⟨g, i, none⟩ (.int .u8 x)) g (fun j => if j = i then x else d j) u h := by
  obtain ⟨a, ha⟩ := p.ak
  refine ⟨by simpa [World.setCell] using p.lt, fun j hj => ?_, set_off (by omega) p.us, set_off (by omega) p.hr, ⟨a, set_off (by omega) ha⟩, fun j => by rw [World.frozen?_setCell]; exact p.fz j, row_set p.rw⟩
  by_cases hji : j = i
  · subst hji
    rw [set_same (p.dc j hj)]
    simp
  · rw [set_off hji (p.dc j hj)]
    simp [hji]
end
/-- what the memory is: its pages' slice, the pages, the spaces' maps, the entries -/
structure MS where
  pv : Value
  pl : List Nat
  nS : Nat
  S : Int → Option Nat
  nF : Nat → Nat
  F : Nat → Int → Option (Nat × Int)
  d : Nat → Nat → Int
  u : Nat → Int
  h : Nat → Bool
def fup {α : Type} (f : Nat → α) (g : Nat) (x : α) : Nat → α := fun k => if k = g then x else f k
theorem fup_same {α : Type} (f : Nat → α) (g : Nat) (x : α) : fup f g x g = x := if_pos rfl
theorem fup_off {α : Type} (f : Nat → α) {g k : Nat} (x : α) (h : k ≠ g) : fup f g x k = f k := if_neg h
theorem fup_id {α : Type} (f : Nat → α) (g : Nat) (x : α) (h : f g = x) : fup f g x = f := by
  funext k
  unfold fup
  split
  · rename_i e; rw [e, h]
  · rfl
/-- its blocks -/
def mB (M so : Nat) (m : MS) (k : Nat) : Prop := k = M ∨ k = so ∨ m.pv.ownBlock = some k ∨ (∃ s, m.S s = some k) ∨ k ∈ m.pl
def pp (l : List Nat) : List Value := l.map fun g => .pointer (some ⟨g, 0, none⟩)
structure MemG (w : World) (M so : Nat) (fr sl : Int) (m : MS) : Prop where
  m0 : w.cell? ⟨M, 0, none⟩ = some (.int .i64 fr)
  m1 : w.cell? ⟨M, 1, none⟩ = some (.int .i64 sl)
  m2 : ∃ ck, w.cell? ⟨M, 2, none⟩ = some (.int .i64 ck)
  m3 : w.cell? ⟨M, 3, none⟩ = some m.pv
  m4 : w.cell? ⟨M, 4, none⟩ = some (.map (some so))
  mz : ∀ j, w.frozen? ⟨M, j, none⟩ = false
  mlt : M < w.heap.size
  ps : w.ownsRow 0 113 1 m.pv m.pl.length (pp m.pl)
  om : OMap w so m.nS m.S
  im : ∀ s b, m.S s = some b → IMap w b (m.nF b) (m.F b)
  pg : ∀ g, g ∈ m.pl → PgAt w g (m.d g) (m.u g) (m.h g)
  n1 : so ≠ M
  n2 : ∀ b, m.pv.ownBlock = some b → b ≠ M ∧ b ≠ so
  n3 : ∀ s b, m.S s = some b → b ≠ M ∧ b ≠ so ∧ m.pv.ownBlock ≠ some b
  n4 : ∀ g, g ∈ m.pl → g ≠ M ∧ g ≠ so ∧ m.pv.ownBlock ≠ some g ∧ ∀ s, m.S s ≠ some g
  n5 : ∀ s s' b, m.S s = some b → m.S s' = some b → s = s'
  nd : m.pl.Nodup
section
variable {w w' : World} {M so g : Nat} {fr sl : Int} {m : MS}
theorem OMap.upd {S : Nat → Prop} {b n : Nat} {f : Int → Option Nat} (h : OMap w b n f) (hu : Upd S w w') (hn : ¬ S b) : OMap w' b n f := by
  obtain ⟨D, hD, hm, hf⟩ := h
  obtain ⟨es, ck, hb, hrest⟩ := hD
  exact ⟨D, ⟨es, ck, (hu.block b (Array.getElem?_eq_some_iff.1 hb).1 hn).trans hb, hrest⟩, hm, hf⟩
theorem IMap.upd {S : Nat → Prop} {b n : Nat} {f : Int → Option (Nat × Int)} (h : IMap w b n f) (hu : Upd S w w') (hn : ¬ S b) : IMap w' b n f := by
  obtain ⟨D, hD, hm, hf⟩ := h
  obtain ⟨es, ck, hb, hrest⟩ := hD
  exact ⟨D, ⟨es, ck, (hu.block b (Array.getElem?_eq_some_iff.1 hb).1 hn).trans hb, hrest⟩, hm, hf⟩
theorem ob_ne {v : Value} {g k : Nat} (h : v.ownBlock ≠ some k) (e : v.ownBlock = some g) : g ≠ k := fun q => h (by rw [e, q])
/-- the struct's cells, behind what leaves the struct alone -/
theorem MemG.upd {S : Nat → Prop} (h : MemG w M so fr sl m) (hu : Upd S w w') (hn : ∀ k, mB M so m k → ¬ S k) : MemG w' M so fr sl m := by
  have hM := hn M (.inl rfl)
  have k : ∀ {o v}, w.cell? ⟨M, o, none⟩ = some v → w'.cell? ⟨M, o, none⟩ = some v := fun hc => (hu.cell h.mlt hM).trans hc
  obtain ⟨ck, hck⟩ := h.m2
  exact ⟨k h.m0, k h.m1, ⟨ck, k hck⟩, k h.m3, k h.m4, fun j => (hu.frozen h.mlt hM).trans (h.mz j), Nat.lt_of_lt_of_le h.mlt hu.size, hu.owns h.ps (fun g hg => hn g (.inr (.inr (.inl hg)))), h.om.upd hu (hn so (.inr (.inl rfl))), fun s b hs => (h.im s b hs).upd hu (hn b (.inr (.inr (.inr (.inl ⟨s, hs⟩))))), fun g hg => (h.pg g hg).upd hu (hn g (.inr (.inr (.inr (.inr hg))))), h.n1, h.n2, h.n3, h.n4, h.n5, h.nd⟩
theorem MemG.keep (h : MemG w M so fr sl m) (hb : Below w.heap.size w w') : MemG w' M so fr sl m := h.upd (S := fun _ => False) (Upd.below hb) (fun _ _ e => e)
theorem MemG.drew (h : MemG w M so fr sl m) : MemG w.drew M so fr sl m := h.keep (Below.refl _ _).drew
theorem MemG.lt (h : MemG w M so fr sl m) {k : Nat} (hk : mB M so m k) : k < w.heap.size := by
  rcases hk with rfl | rfl | e | ⟨s, hs⟩ | hg
  · exact h.mlt
  · obtain ⟨D, ⟨es, ck, hb, _⟩, _⟩ := h.om; exact (Array.getElem?_eq_some_iff.1 hb).1
  · exact (h.ps.lt k e).2
  · obtain ⟨D, ⟨es, ck, hb, _⟩, _⟩ := h.im s k hs; exact (Array.getElem?_eq_some_iff.1 hb).1
  · exact (h.pg k hg).lt
/-- the clock -/
theorem MemG.clock (h : MemG w M so fr sl m) (x : Int) : MemG (w.setCell ⟨M, 2, none⟩ (.int .i64 x)) M so fr sl m := by
  have hu : Upd (fun k => k = M) w (w.setCell ⟨M, 2, none⟩ (.int .i64 x)) := Upd.set w _ rfl
  obtain ⟨ck, hck⟩ := h.m2
  exact ⟨set_off (by decide) h.m0, set_off (by decide) h.m1, ⟨x, set_same hck⟩, set_off (by decide) h.m3, set_off (by decide) h.m4, fun j => by rw [World.frozen?_setCell]; exact h.mz j, by simpa [World.setCell] using h.mlt, hu.owns h.ps (fun g hg => (h.n2 g hg).1), h.om.upd hu h.n1, fun s b hs => (h.im s b hs).upd hu (h.n3 s b hs).1, fun g hg => (h.pg g hg).upd hu (h.n4 g hg).1, h.n1, h.n2, h.n3, h.n4, h.n5, h.nd⟩
/-- a page is turned -/
theorem MemG.page (h : MemG w M so fr sl m) (hg : g ∈ m.pl) (hu : Upd (fun k => k = g) w w') {d : Nat → Int} {u : Int} {q : Bool} (hp : PgAt w' g d u q) : MemG w' M so fr sl { m with d := fup m.d g d, u := fup m.u g u, h := fup m.h g q } := by
  obtain ⟨e1, e2, e3, e4⟩ := h.n4 g hg
  have hM : ¬ M = g := fun e => e1 e.symm
  have k : ∀ {o v}, w.cell? ⟨M, o, none⟩ = some v → w'.cell? ⟨M, o, none⟩ = some v := fun hc => (hu.cell h.mlt hM).trans hc
  obtain ⟨ck, hck⟩ := h.m2
  refine ⟨k h.m0, k h.m1, ⟨ck, k hck⟩, k h.m3, k h.m4, fun j => (hu.frozen h.mlt hM).trans (h.mz j), Nat.lt_of_lt_of_le h.mlt hu.size, hu.owns h.ps (fun b hb e => ob_ne e3 hb e), h.om.upd hu (fun e => e2 e.symm), fun s b hs => (h.im s b hs).upd hu (fun e => e4 s (by rw [hs, e])), fun j hj => ?_, h.n1, h.n2, h.n3, h.n4, h.n5, h.nd⟩
  by_cases e : j = g
  · subst e
    simp only [fup_same]
    exact hp
  · simp only [fup_off _ _ e]
    exact (h.pg j hj).upd hu e
/-- a space's map is put anew -/
theorem MemG.space (h : MemG w M so fr sl m) {s : Int} {b n : Nat} {f : Int → Option (Nat × Int)} (hs : m.S s = some b) (hu : Upd (fun k => k = b) w w') (hi : IMap w' b n f) : MemG w' M so fr sl { m with nF := fup m.nF b n, F := fup m.F b f } := by
  obtain ⟨e1, e2, e3⟩ := h.n3 s b hs
  have hM : ¬ M = b := fun e => e1 e.symm
  have k : ∀ {o v}, w.cell? ⟨M, o, none⟩ = some v → w'.cell? ⟨M, o, none⟩ = some v := fun hc => (hu.cell h.mlt hM).trans hc
  obtain ⟨ck, hck⟩ := h.m2
  refine ⟨k h.m0, k h.m1, ⟨ck, k hck⟩, k h.m3, k h.m4, fun j => (hu.frozen h.mlt hM).trans (h.mz j), Nat.lt_of_lt_of_le h.mlt hu.size, hu.owns h.ps (fun g hg e => ob_ne e3 hg e), h.om.upd hu (fun e => e2 e.symm), fun s' b' hs' => ?_, fun j hj => (h.pg j hj).upd hu (fun e => (h.n4 j hj).2.2.2 s (by rw [hs, e])), h.n1, h.n2, h.n3, h.n4, h.n5, h.nd⟩
  by_cases e : b' = b
  · subst e
    simp only [fup_same]
    exact hi
  · simp only [fup_off _ _ e]
    exact (h.im s' b' hs').upd hu e
/-- the spaces' map is put anew: spaces go, or come with maps of their own -/
theorem MemG.outer (h : MemG w M so fr sl m) {n : Nat} {S' : Int → Option Nat} (hu : Upd (fun k => k = so) w w') (ho : OMap w' so n S') (hS : ∀ s b, S' s = some b → m.S s = some b) : MemG w' M so fr sl { m with nS := n, S := S' } := by
  have hM : ¬ M = so := fun e => h.n1 e.symm
  have k : ∀ {o v}, w.cell? ⟨M, o, none⟩ = some v → w'.cell? ⟨M, o, none⟩ = some v := fun hc => (hu.cell h.mlt hM).trans hc
  obtain ⟨ck, hck⟩ := h.m2
  exact ⟨k h.m0, k h.m1, ⟨ck, k hck⟩, k h.m3, k h.m4, fun j => (hu.frozen h.mlt hM).trans (h.mz j), Nat.lt_of_lt_of_le h.mlt hu.size, hu.owns h.ps (fun g hg => (h.n2 g hg).2), ho, fun s b hs => (h.im s b (hS s b hs)).upd hu (h.n3 s b (hS s b hs)).2.1, fun g hg => (h.pg g hg).upd hu (h.n4 g hg).2.1, h.n1, h.n2, fun s b hs => h.n3 s b (hS s b hs), fun g hg => ⟨(h.n4 g hg).1, (h.n4 g hg).2.1, (h.n4 g hg).2.2.1, fun s e => (h.n4 g hg).2.2.2 s (hS s g e)⟩, fun s s' b h1 h2 => h.n5 s s' b (hS s b h1) (hS s' b h2), h.nd⟩
/-- a space comes -/
theorem MemG.born (h : MemG w M so fr sl m) {s : Int} {b n c : Nat} {f : Int → Option (Nat × Int)} (h0 : m.S s = none) (hb : w.heap.size ≤ b) (hu : Upd (fun k => k = so) w w') (ho : OMap w' so n (fun k => if k = s then some b else m.S k)) (hi : IMap w' b c f) : MemG w' M so fr sl { m with nS := n, S := fun k => if k = s then some b else m.S k, nF := fup m.nF b c, F := fup m.F b f } := by
  have hM : ¬ M = so := fun e => h.n1 e.symm
  have k : ∀ {o v}, w.cell? ⟨M, o, none⟩ = some v → w'.cell? ⟨M, o, none⟩ = some v := fun hc => (hu.cell h.mlt hM).trans hc
  obtain ⟨ck, hck⟩ := h.m2
  have new : ∀ {j}, mB M so m j → j ≠ b := fun hj e => by have := h.lt hj; omega
  have at' : ∀ {s' b'}, (if s' = s then some b else m.S s') = some b' → (s' = s ∧ b' = b) ∨ (s' ≠ s ∧ m.S s' = some b' ∧ b' ≠ b) := fun {s' b'} e => by
    split at e
    · rename_i e'; injection e with e; exact .inl ⟨e', e.symm⟩
    · rename_i e'; exact .inr ⟨e', e, new (.inr (.inr (.inr (.inl ⟨s', e⟩))))⟩
  refine ⟨k h.m0, k h.m1, ⟨ck, k hck⟩, k h.m3, k h.m4, fun j => (hu.frozen h.mlt hM).trans (h.mz j), Nat.lt_of_lt_of_le h.mlt hu.size, hu.owns h.ps (fun g hg => (h.n2 g hg).2), ho, fun s' b' hs => ?_, fun g hg => (h.pg g hg).upd hu (h.n4 g hg).2.1, h.n1, h.n2, fun s' b' hs => ?_, fun g hg => ⟨(h.n4 g hg).1, (h.n4 g hg).2.1, (h.n4 g hg).2.2.1, fun s' e => ?_⟩, fun s1 s2 b' h1 h2 => ?_, h.nd⟩
  · rcases at' hs with ⟨-, rfl⟩ | ⟨-, q, e⟩
    · simp only [fup_same]; exact hi
    · simp only [fup_off _ _ e]; exact (h.im s' b' q).upd hu (h.n3 s' b' q).2.1
  · rcases at' hs with ⟨-, rfl⟩ | ⟨-, q, e⟩
    · exact ⟨fun e => new (.inl rfl) e.symm, fun e => new (.inr (.inl rfl)) e.symm, fun e => new (.inr (.inr (.inl e))) rfl⟩
    · exact h.n3 s' b' q
  · rcases at' e with ⟨-, q⟩ | ⟨-, q, _⟩
    · exact new (.inr (.inr (.inr (.inr hg)))) q
    · exact (h.n4 g hg).2.2.2 s' q
  · rcases at' h1 with ⟨q1, p1⟩ | ⟨q1, p1, r1⟩ <;> rcases at' h2 with ⟨q2, p2⟩ | ⟨q2, p2, r2⟩
    · rw [q1, q2]
    · exact absurd p1 r2
    · exact absurd p2 r1
    · exact h.n5 s1 s2 b' p1 p2
/-- the pages' slice is another one: the same pages, or one more, or fewer -/
theorem MemG.pages (h : MemG w M so fr sl m) {S : Nat → Prop} {w1 : World} {v : Value} {pl' : List Nat} (hu : Upd S w w1) (hS : ∀ k, S k → m.pv.ownBlock = some k) (ho : w1.ownsRow 0 113 1 v pl'.length (pp pl')) (hv : v.ownBlock = m.pv.ownBlock ∨ ∃ b, w.heap.size ≤ b ∧ v.ownBlock = some b) (hpl : ∀ g, g ∈ pl' → g ∈ m.pl ∨ (w.heap.size ≤ g ∧ v.ownBlock ≠ some g ∧ PgAt w1 g (m.d g) (m.u g) (m.h g))) (hnd : pl'.Nodup) :
    MemG (w1.setCell ⟨M, 3, none⟩ v) M so fr sl { m with pv := v, pl := pl' } := by
  have hSM : ¬ S M := fun q => (h.n2 M (hS M q)).1 rfl
  have hSo : ¬ S so := fun q => (h.n2 so (hS so q)).2 rfl
  have hSs : ∀ s b, m.S s = some b → ¬ S b := fun s b hs q => (h.n3 s b hs).2.2 (hS b q)
  have hSp : ∀ g, g ∈ m.pl → ¬ S g := fun g hg q => (h.n4 g hg).2.2.1 (hS g q)
  have k : ∀ {o v}, w.cell? ⟨M, o, none⟩ = some v → w1.cell? ⟨M, o, none⟩ = some v := fun hc => (hu.cell h.mlt hSM).trans hc
  have hu2 : Upd (fun k => k = M) w1 (w1.setCell ⟨M, 3, none⟩ v) := Upd.set w1 _ rfl
  have nv : ∀ {j}, mB M so m j → m.pv.ownBlock ≠ some j → v.ownBlock ≠ some j := fun {j} hj hne e => by
    rcases hv with q | ⟨b, q1, q2⟩
    · exact hne (q ▸ e)
    · rw [q2] at e; injection e with e; have := h.lt hj; omega
  have vM : v.ownBlock ≠ some M := nv (.inl rfl) (fun e => (h.n2 M e).1 rfl)
  have vso : v.ownBlock ≠ some so := nv (.inr (.inl rfl)) (fun e => (h.n2 so e).2 rfl)
  obtain ⟨ck, hck⟩ := h.m2
  have new : ∀ {g : Nat}, w.heap.size ≤ g → ∀ {j : Nat}, mB M so m j → g ≠ j := fun {g} hg {j} hj e => by have := h.lt hj; omega
  refine ⟨set_off (by decide) (k h.m0), set_off (by decide) (k h.m1), ⟨ck, set_off (by decide) (k hck)⟩, set_same (k h.m3), set_off (by decide) (k h.m4), fun j => by rw [World.frozen?_setCell]; exact (hu.frozen h.mlt hSM).trans (h.mz j), ?_, hu2.owns ho (fun g hg e => vM (by rw [hg, e])), (h.om.upd hu hSo).upd hu2 h.n1, fun s b hs => ((h.im s b hs).upd hu (hSs s b hs)).upd hu2 (h.n3 s b hs).1, fun g hg => ?_, h.n1, fun b hb => ⟨fun e => vM (by rw [hb, e]), fun e => vso (by rw [hb, e])⟩, fun s b hs => ⟨(h.n3 s b hs).1, (h.n3 s b hs).2.1, nv (.inr (.inr (.inr (.inl ⟨s, hs⟩)))) (h.n3 s b hs).2.2⟩, fun g hg => ?_, h.n5, hnd⟩
  · have := hu.size; have := h.mlt; simp [World.setCell]; omega
  · rcases hpl g hg with q | ⟨q1, q2, q3⟩
    · exact ((h.pg g q).upd hu (hSp g q)).upd hu2 (h.n4 g q).1
    · exact q3.upd hu2 (new q1 (.inl rfl))
  · rcases hpl g hg with q | ⟨q1, q2, q3⟩
    · exact ⟨(h.n4 g q).1, (h.n4 g q).2.1, nv (.inr (.inr (.inr (.inr q)))) (h.n4 g q).2.2.1, (h.n4 g q).2.2.2⟩
    · exact ⟨new q1 (.inl rfl), new q1 (.inr (.inl rfl)), q2, fun s e => new q1 (.inr (.inr (.inr (.inl ⟨s, e⟩)))) rfl⟩
end
end Go.Proofs.YtmdjkoiglghipaaGreatDoor
