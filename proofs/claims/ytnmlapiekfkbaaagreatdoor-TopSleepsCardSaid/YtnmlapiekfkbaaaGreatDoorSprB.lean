/- Runs of package spread with any tasks of fair shares: their cells, what becomes of them. The walks of package spread at any run: find, on, waits, better, best. -/
import Derived.Test.YtnmlapiekfkbaaaGreatDoorBegin
namespace Go.Proofs.YtnmlapiekfkbaaaGreatDoor
open Go.RowKit
set_option linter.unusedVariables false
set_option linter.unusedSimpArgs false
structure Tk where
  t : Int
  v : Int
  rd : Bool
  cpu : Int
/-- a task's cells from place o on -/
structure TkIn (C : Array Value) (o : Nat) (pin : Int) (x : Tk) : Prop where
  c0 : C[o]? = some (.int .i64 x.t)
  c1 : C[o + 1]? = some (.int .i64 1)
  c2 : C[o + 2]? = some (.int .i64 10)
  c3 : C[o + 3]? = some (.int .i64 0)
  c4 : C[o + 4]? = some (.int .i64 0)
  c5 : C[o + 5]? = some (.int .i64 0)
  c6 : C[o + 6]? = some (.int .i64 0)
  c7 : C[o + 7]? = some (.int .i64 0)
  c8 : C[o + 8]? = some (.int .i64 0)
  c9 : C[o + 9]? = some (.int .i64 x.v)
  c10 : ∃ s, C[o + 10]? = some (.int .i64 s)
  c11 : C[o + 11]? = some (.int .i64 pin)
  c12 : C[o + 12]? = some (.bool x.rd)
  c13 : C[o + 13]? = some (.bool false)
  c14 : C[o + 14]? = some (.int .i64 x.cpu)
theorem TkIn.lt {C : Array Value} {o : Nat} {pin : Int} {x : Tk} (h : TkIn C o pin x) : o + 14 < C.size := (Array.getElem?_eq_some_iff.1 h.c14).1
theorem TkIn.of {C C' : Array Value} {o o' : Nat} {pin : Int} {x : Tk} (h : TkIn C o pin x) (e : ∀ j, j < 15 → C'[o' + j]? = C[o + j]?) : TkIn C' o' pin x := by
  obtain ⟨s, hs⟩ := h.c10
  exact ⟨(e 0 (by decide)).trans h.c0, (e 1 (by decide)).trans h.c1, (e 2 (by decide)).trans h.c2, (e 3 (by decide)).trans h.c3, (e 4 (by decide)).trans h.c4, (e 5 (by decide)).trans h.c5, (e 6 (by decide)).trans h.c6, (e 7 (by decide)).trans h.c7, (e 8 (by decide)).trans h.c8, (e 9 (by decide)).trans h.c9, ⟨s, (e 10 (by decide)).trans hs⟩, (e 11 (by decide)).trans h.c11, (e 12 (by decide)).trans h.c12, (e 13 (by decide)).trans h.c13, (e 14 (by decide)).trans h.c14⟩
theorem set_ne {C : Array Value} {q j : Nat} (v : Value) (h : j ≠ q) : (C.setIfInBounds q v)[j]? = C[j]? := Array.getElem?_setIfInBounds_ne (by omega)
theorem set_eq {C : Array Value} {q : Nat} (v : Value) (h : q < C.size) : (C.setIfInBounds q v)[q]? = some v := by
  rw [Array.getElem?_setIfInBounds, if_pos rfl, if_pos h]
theorem TkIn.setCpu {C : Array Value} {o : Nat} {pin : Int} {x : Tk} (h : TkIn C o pin x) (c : Int) : TkIn (C.setIfInBounds (o + 14) (.int .i64 c)) o pin { x with cpu := c } := by
  obtain ⟨s, hs⟩ := h.c10
  have l := h.lt
  have n : ∀ j, j ≠ 14 → (C.setIfInBounds (o + 14) (.int .i64 c))[o + j]? = C[o + j]? := fun j hj => set_ne _ (by omega)
  exact ⟨(n 0 (by decide)).trans h.c0, (n 1 (by decide)).trans h.c1, (n 2 (by decide)).trans h.c2, (n 3 (by decide)).trans h.c3, (n 4 (by decide)).trans h.c4, (n 5 (by decide)).trans h.c5, (n 6 (by decide)).trans h.c6, (n 7 (by decide)).trans h.c7, (n 8 (by decide)).trans h.c8, (n 9 (by decide)).trans h.c9, ⟨s, (n 10 (by decide)).trans hs⟩, (n 11 (by decide)).trans h.c11, (n 12 (by decide)).trans h.c12, (n 13 (by decide)).trans h.c13, set_eq _ (by omega)⟩
theorem TkIn.setSince {C : Array Value} {o : Nat} {pin : Int} {x : Tk} (h : TkIn C o pin x) (c : Int) : TkIn (C.setIfInBounds (o + 10) (.int .i64 c)) o pin x := by
  have l := h.lt
  have n : ∀ j, j ≠ 10 → (C.setIfInBounds (o + 10) (.int .i64 c))[o + j]? = C[o + j]? := fun j hj => set_ne _ (by omega)
  exact ⟨(n 0 (by decide)).trans h.c0, (n 1 (by decide)).trans h.c1, (n 2 (by decide)).trans h.c2, (n 3 (by decide)).trans h.c3, (n 4 (by decide)).trans h.c4, (n 5 (by decide)).trans h.c5, (n 6 (by decide)).trans h.c6, (n 7 (by decide)).trans h.c7, (n 8 (by decide)).trans h.c8, (n 9 (by decide)).trans h.c9, ⟨c, set_eq _ (by omega)⟩, (n 11 (by decide)).trans h.c11, (n 12 (by decide)).trans h.c12, (n 13 (by decide)).trans h.c13, (n 14 (by decide)).trans h.c14⟩
theorem TkIn.setV {C : Array Value} {o : Nat} {pin : Int} {x : Tk} (h : TkIn C o pin x) (c : Int) : TkIn (C.setIfInBounds (o + 9) (.int .i64 c)) o pin { x with v := c } := by
  have l := h.lt
  obtain ⟨s, hs⟩ := h.c10
  have n : ∀ j, j ≠ 9 → (C.setIfInBounds (o + 9) (.int .i64 c))[o + j]? = C[o + j]? := fun j hj => set_ne _ (by omega)
  exact ⟨(n 0 (by decide)).trans h.c0, (n 1 (by decide)).trans h.c1, (n 2 (by decide)).trans h.c2, (n 3 (by decide)).trans h.c3, (n 4 (by decide)).trans h.c4, (n 5 (by decide)).trans h.c5, (n 6 (by decide)).trans h.c6, (n 7 (by decide)).trans h.c7, (n 8 (by decide)).trans h.c8, set_eq _ (by omega), ⟨s, (n 10 (by decide)).trans hs⟩, (n 11 (by decide)).trans h.c11, (n 12 (by decide)).trans h.c12, (n 13 (by decide)).trans h.c13, (n 14 (by decide)).trans h.c14⟩
theorem TkIn.setRd {C : Array Value} {o : Nat} {pin : Int} {x : Tk} (h : TkIn C o pin x) (c : Bool) : TkIn (C.setIfInBounds (o + 12) (.bool c)) o pin { x with rd := c } := by
  have l := h.lt
  obtain ⟨s, hs⟩ := h.c10
  have n : ∀ j, j ≠ 12 → (C.setIfInBounds (o + 12) (.bool c))[o + j]? = C[o + j]? := fun j hj => set_ne _ (by omega)
  exact ⟨(n 0 (by decide)).trans h.c0, (n 1 (by decide)).trans h.c1, (n 2 (by decide)).trans h.c2, (n 3 (by decide)).trans h.c3, (n 4 (by decide)).trans h.c4, (n 5 (by decide)).trans h.c5, (n 6 (by decide)).trans h.c6, (n 7 (by decide)).trans h.c7, (n 8 (by decide)).trans h.c8, (n 9 (by decide)).trans h.c9, ⟨s, (n 10 (by decide)).trans hs⟩, (n 11 (by decide)).trans h.c11, set_eq _ (by omega), (n 13 (by decide)).trans h.c13, (n 14 (by decide)).trans h.c14⟩
/-- the tasks' rows -/
def TksIn (C : Array Value) (pin : Int) (l : List Tk) : Prop := ∀ i x, l[i]? = some x → TkIn C (i * 15) pin x
theorem TksIn.upd {C : Array Value} {pin : Int} {l : List Tk} {i f : Nat} {x : Tk} {v : Value} (h : TksIn C pin l) (hi : i < l.length) (hf : f < 15) (hx : TkIn (C.setIfInBounds (i * 15 + f) v) (i * 15) pin x) : TksIn (C.setIfInBounds (i * 15 + f) v) pin (l.set i x) := by
  intro j y hj
  rw [List.getElem?_set] at hj
  split at hj
  · rename_i e
    subst e
    injection hj with hj
    subst hj
    exact hx
  · rename_i e
    exact (h j y hj).of fun k hk => set_ne _ (by omega)
theorem TksIn.same {C : Array Value} {pin : Int} {l : List Tk} {i f : Nat} {x : Tk} {v : Value} (h : TksIn C pin l) (hi : l[i]? = some x) (hf : f < 15) (hx : TkIn (C.setIfInBounds (i * 15 + f) v) (i * 15) pin x) : TksIn (C.setIfInBounds (i * 15 + f) v) pin l := by
  have hl : i < l.length := (List.getElem?_eq_some_iff.1 hi).1
  have := h.upd hl hf hx
  have e : l.set i x = l := by
    have : x = l[i] := (List.getElem?_eq_some_iff.1 hi).2.symm
    rw [this, List.set_getElem_self]
  rwa [e] at this
/-- the tasks' rows, where there are any -/
structure TkR (w : World) (R T cap : Nat) (pin : Int) (l : List Tk) (C : Array Value) : Prop where
  ne : T ≠ R
  row : Row w T 128 C
  sz : cap * 15 ≤ C.size
  mx : cap ≤ maxLen
  len : l.length ≤ cap
  ml : l.length ≤ 1000
  tks : TksIn C pin l
/-- a run: its struct in block R, its tasks' rows in block T -/
structure RunG (w : World) (R : Nat) (ad : Option Addr) (cap : Nat) (cpus ticks pin : Int) (l : List Tk) : Prop where
  lt : R < w.heap.size
  fz : ∀ j, w.frozen? ⟨R, j, none⟩ = false
  c0 : w.cell? ⟨R, 0, none⟩ = some (.int .i64 cpus)
  c1 : w.cell? ⟨R, 1, none⟩ = some (.int .i64 ticks)
  c2 : ∃ s, w.cell? ⟨R, 2, none⟩ = some (.int .i64 s)
  c3 : w.cell? ⟨R, 3, none⟩ = some (.slice ad l.length cap)
  row : (ad = none ∧ l = [] ∧ cap = 0) ∨ ∃ T C, ad = some ⟨T, 0, none⟩ ∧ TkR w R T cap pin l C
def blk (ad : Option Addr) : Nat := (ad.map (·.block)).getD 0
/-- what a call on a run may turn -/
def rS (R : Nat) (ad : Option Addr) (k : Nat) : Prop := k = R ∨ ∃ a, ad = some a ∧ k = a.block
section
variable {w w' : World} {R cap : Nat} {ad : Option Addr} {cpus ticks pin : Int} {l : List Tk}
theorem TkR.upd {S : Nat → Prop} {T : Nat} {C : Array Value} (h : TkR w R T cap pin l C) (hu : Upd S w w') (hn : ¬ S T) : TkR w' R T cap pin l C := ⟨h.ne, h.row.upd hu hn, h.sz, h.mx, h.len, h.ml, h.tks⟩
theorem TkR.keep {T : Nat} {C : Array Value} (h : TkR w R T cap pin l C) (hb : Below w.heap.size w w') : TkR w' R T cap pin l C := ⟨h.ne, h.row.keep hb, h.sz, h.mx, h.len, h.ml, h.tks⟩
theorem RunG.rows (h : RunG w R ad cap cpus ticks pin l) (hl : 0 < l.length) : ∃ T C, ad = some ⟨T, 0, none⟩ ∧ TkR w R T cap pin l C := by
  rcases h.row with ⟨_, h0, _⟩ | ⟨T, C, h1, h2⟩
  · subst h0; simp at hl
  · exact ⟨T, C, h1, h2⟩
theorem RunG.upd {S : Nat → Prop} (h : RunG w R ad cap cpus ticks pin l) (hu : Upd S w w') (h1 : ¬ S R) (h2 : ∀ a, ad = some a → ¬ S a.block) : RunG w' R ad cap cpus ticks pin l := by
  have k : ∀ {o v}, w.cell? ⟨R, o, none⟩ = some v → w'.cell? ⟨R, o, none⟩ = some v := fun hc => (hu.cell h.lt h1).trans hc
  obtain ⟨s, hs⟩ := h.c2
  refine ⟨Nat.lt_of_lt_of_le h.lt hu.size, fun j => (hu.frozen h.lt h1).trans (h.fz j), k h.c0, k h.c1, ⟨s, k hs⟩, k h.c3, ?_⟩
  rcases h.row with e | ⟨T, C, e1, e2⟩
  · exact .inl e
  · exact .inr ⟨T, C, e1, e2.upd hu (h2 _ e1)⟩
theorem RunG.keep (h : RunG w R ad cap cpus ticks pin l) (hb : Below w.heap.size w w') : RunG w' R ad cap cpus ticks pin l := h.upd (S := fun _ => False) (Upd.below hb) (fun e => e) (fun _ _ e => e)
theorem RunG.drew (h : RunG w R ad cap cpus ticks pin l) : RunG w.drew R ad cap cpus ticks pin l := h.keep (Below.refl _ _).drew
theorem RunG.ltT (h : RunG w R ad cap cpus ticks pin l) {a : Addr} (e : ad = some a) : a.block < w.heap.size ∧ a.block ≠ R := by
  rcases h.row with ⟨e', _⟩ | ⟨T, C, e1, e2⟩
  · rw [e] at e'; cases e'
  · rw [e] at e1; injection e1 with e1; subst e1; exact ⟨e2.row.lt, e2.ne⟩
theorem RunG.mx (h : RunG w R ad cap cpus ticks pin l) : (l.length : Int) ≤ 1000 := by
  rcases h.row with ⟨_, e, _⟩ | ⟨_, _, _, h⟩
  · subst e; simp
  · have := h.ml; omega
theorem RunG.setStamp (h : RunG w R ad cap cpus ticks pin l) (x : Int) : RunG (w.setCell ⟨R, 2, none⟩ (.int .i64 x)) R ad cap cpus ticks pin l := by
  have u : Upd (fun k => k = R) w (w.setCell ⟨R, 2, none⟩ (.int .i64 x)) := Upd.set w _ rfl
  obtain ⟨s, hs⟩ := h.c2
  refine ⟨Nat.lt_of_lt_of_le h.lt u.size, fun j => by rw [World.frozen?_setCell]; exact h.fz j, set_off (by decide) h.c0, set_off (by decide) h.c1, ⟨x, set_same hs⟩, set_off (by decide) h.c3, ?_⟩
  rcases h.row with e | ⟨T, C, e1, e2⟩
  · exact .inl e
  · exact .inr ⟨T, C, e1, e2.upd u e2.ne⟩
theorem RunG.setTicks (h : RunG w R ad cap cpus ticks pin l) (x : Int) : RunG (w.setCell ⟨R, 1, none⟩ (.int .i64 x)) R ad cap cpus x pin l := by
  have u : Upd (fun k => k = R) w (w.setCell ⟨R, 1, none⟩ (.int .i64 x)) := Upd.set w _ rfl
  obtain ⟨s, hs⟩ := h.c2
  refine ⟨Nat.lt_of_lt_of_le h.lt u.size, fun j => by rw [World.frozen?_setCell]; exact h.fz j, set_off (by decide) h.c0, set_same h.c1, ⟨s, set_off (by decide) hs⟩, set_off (by decide) h.c3, ?_⟩
  rcases h.row with e | ⟨T, C, e1, e2⟩
  · exact .inl e
  · exact .inr ⟨T, C, e1, e2.upd u e2.ne⟩
/-- a run's struct alone -/
structure RunR (w : World) (R : Nat) (cpus ticks : Int) : Prop where
  lt : R < w.heap.size
  fz : ∀ j, w.frozen? ⟨R, j, none⟩ = false
  c0 : w.cell? ⟨R, 0, none⟩ = some (.int .i64 cpus)
  c1 : w.cell? ⟨R, 1, none⟩ = some (.int .i64 ticks)
  c2 : ∃ s, w.cell? ⟨R, 2, none⟩ = some (.int .i64 s)
  c3 : ∃ v, w.cell? ⟨R, 3, none⟩ = some v
theorem RunG.r (h : RunG w R ad cap cpus ticks pin l) : RunR w R cpus ticks := ⟨h.lt, h.fz, h.c0, h.c1, h.c2, ⟨_, h.c3⟩⟩
theorem RunR.upd {S : Nat → Prop} (h : RunR w R cpus ticks) (hu : Upd S w w') (h1 : ¬ S R) : RunR w' R cpus ticks := by
  have k : ∀ {o v}, w.cell? ⟨R, o, none⟩ = some v → w'.cell? ⟨R, o, none⟩ = some v := fun hc => (hu.cell h.lt h1).trans hc
  obtain ⟨s, hs⟩ := h.c2
  obtain ⟨v, hv⟩ := h.c3
  exact ⟨Nat.lt_of_lt_of_le h.lt hu.size, fun j => (hu.frozen h.lt h1).trans (h.fz j), k h.c0, k h.c1, ⟨s, k hs⟩, ⟨v, k hv⟩⟩
/-- other tasks' rows, laid in the run -/
theorem RunR.lay {l' : List Tk} {T cap' n : Nat} {C : Array Value} (h : RunR w R cpus ticks) (ht : TkR w R T cap' pin l' C) (hn : n = l'.length) : RunG (w.setCell ⟨R, 3, none⟩ (.slice (some ⟨T, 0, none⟩) n cap')) R (some ⟨T, 0, none⟩) cap' cpus ticks pin l' := by
  have u : Upd (fun k => k = R) w (w.setCell ⟨R, 3, none⟩ (.slice (some ⟨T, 0, none⟩) n cap')) := Upd.set w _ rfl
  obtain ⟨s, hs⟩ := h.c2
  obtain ⟨v, hv⟩ := h.c3
  subst hn
  exact ⟨Nat.lt_of_lt_of_le h.lt u.size, fun j => by rw [World.frozen?_setCell]; exact h.fz j, set_off (by decide) h.c0, set_off (by decide) h.c1, ⟨s, set_off (by decide) hs⟩, set_same hv, .inr ⟨T, C, rfl, ht.upd u ht.ne⟩⟩
variable {T : Nat} {C : Array Value} {i : Nat} {x : Tk}
theorem RunG.setT (h : RunG w R (some ⟨T, 0, none⟩) cap cpus ticks pin l) {l' : List Tk} {q : Nat} {v : Value} (hl : l'.length = l.length) (ht : ∀ C, TksIn C pin l → TksIn (C.setIfInBounds q v) pin l') : RunG (w.setCell ⟨T, q, none⟩ v) R (some ⟨T, 0, none⟩) cap cpus ticks pin l' := by
  rcases h.row with ⟨e, _⟩ | ⟨T', C, e1, e2⟩
  · cases e
  injection e1 with e1
  injection e1 with e1
  subst e1
  have u : Upd (fun k => k = T) w (w.setCell ⟨T, q, none⟩ v) := Upd.set w _ rfl
  have ne : R ≠ T := fun e => e2.ne e.symm
  obtain ⟨s, hs⟩ := h.c2
  refine ⟨Nat.lt_of_lt_of_le h.lt u.size, fun j => by rw [World.frozen?_setCell]; exact h.fz j, set_blk ne h.c0, set_blk ne h.c1, ⟨s, set_blk ne hs⟩, ?_, .inr ⟨T, _, rfl, e2.ne, ?_, ?_, e2.mx, by rw [hl]; exact e2.len, by rw [hl]; exact e2.ml, ht C e2.tks⟩⟩
  · rw [hl]; exact set_blk ne h.c3
  · rw [e2.row.setCell]; exact e2.row.setRow _
  · simpa using e2.sz
theorem RunG.setCpu (h : RunG w R (some ⟨T, 0, none⟩) cap cpus ticks pin l) (hx : l[i]? = some x) (c : Int) : RunG (w.setCell ⟨T, i * 15 + 14, none⟩ (.int .i64 c)) R (some ⟨T, 0, none⟩) cap cpus ticks pin (l.set i { x with cpu := c }) :=
  h.setT (by simp) fun C hC => hC.upd (List.getElem?_eq_some_iff.1 hx).1 (by decide) ((hC i x hx).setCpu c)
theorem RunG.setV (h : RunG w R (some ⟨T, 0, none⟩) cap cpus ticks pin l) (hx : l[i]? = some x) (c : Int) : RunG (w.setCell ⟨T, i * 15 + 9, none⟩ (.int .i64 c)) R (some ⟨T, 0, none⟩) cap cpus ticks pin (l.set i { x with v := c }) :=
  h.setT (by simp) fun C hC => hC.upd (List.getElem?_eq_some_iff.1 hx).1 (by decide) ((hC i x hx).setV c)
theorem RunG.setRd (h : RunG w R (some ⟨T, 0, none⟩) cap cpus ticks pin l) (hx : l[i]? = some x) (c : Bool) : RunG (w.setCell ⟨T, i * 15 + 12, none⟩ (.bool c)) R (some ⟨T, 0, none⟩) cap cpus ticks pin (l.set i { x with rd := c }) :=
  h.setT (by simp) fun C hC => hC.upd (List.getElem?_eq_some_iff.1 hx).1 (by decide) ((hC i x hx).setRd c)
theorem RunG.setSince (h : RunG w R (some ⟨T, 0, none⟩) cap cpus ticks pin l) (hx : l[i]? = some x) (c : Int) : RunG (w.setCell ⟨T, i * 15 + 10, none⟩ (.int .i64 c)) R (some ⟨T, 0, none⟩) cap cpus ticks pin l :=
  h.setT rfl fun C hC => hC.same hx (by decide) ((hC i x hx).setSince c)
/-- a task's cells, as they lie -/
theorem TkR.at (h : TkR w R T cap pin l C) (hx : l[i]? = some x) : TkIn C (i * 15) pin x := h.tks i x hx
theorem TkR.cell (h : TkR w R T cap pin l C) (q : Nat) : w.cell? ⟨T, q, none⟩ = C[q]? := h.row.cell q
end
/-- what goes ahead -/
def tbet (x y : Tk) : Bool := if x.v = y.v then decide (x.t < y.t) else decide (x.v < y.v)
def twait (x : Tk) : Bool := x.rd && decide (x.cpu < 0)
def bestOf (l : List Tk) (k : Nat) (x : Tk) : Option Nat → Option Nat
  | none => some k
  | some b => match l[b]? with
    | none => some k
    | some y => if tbet x y then some k else some b
def bestStep (l : List Tk) (k : Nat) (x : Tk) (p : Option Nat) : Option Nat := if twait x then bestOf l k x p else p
/-- the best of the first k tasks that wait -/
def bestG (l : List Tk) : Nat → Option Nat
  | 0 => none
  | k + 1 => match l[k]? with
    | none => bestG l k
    | some x => bestStep l k x (bestG l k)
theorem bestG_next {l : List Tk} {k : Nat} {x : Tk} (hx : l[k]? = some x) : bestG l (k + 1) = bestStep l k x (bestG l k) := by
  rw [bestG, hx]
theorem bestStep_no {l : List Tk} {k : Nat} {x : Tk} {p : Option Nat} (h : twait x = false) : bestStep l k x p = p := by
  unfold bestStep; rw [h]; rfl
theorem bestStep_yes {l : List Tk} {k : Nat} {x : Tk} {p : Option Nat} (h : twait x = true) : bestStep l k x p = bestOf l k x p := by
  unfold bestStep; rw [h]; rfl
theorem bestOf_some {l : List Tk} {k b : Nat} {x y : Tk} (h : l[b]? = some y) : bestOf l k x (some b) = if tbet x y then some k else some b := by
  show (match l[b]? with | none => some k | some y => if tbet x y then some k else some b) = _
  rw [h]
def onG (l : List Tk) (c : Int) : Option Nat := l.findIdx? (fun x => x.cpu == c)
def idG (l : List Tk) (t : Int) : Option Nat := l.findIdx? (fun x => x.t == t)
def fill1 (l : List Tk) (c : Int) : List Tk := match onG l c with
  | some _ => l
  | none => match bestG l l.length with
    | none => l
    | some b => match l[b]? with
      | none => l
      | some x => l.set b { x with cpu := c }
def fillG (l : List Tk) : Nat → List Tk
  | 0 => l
  | c + 1 => fill1 (fillG l c) c
/-- the least virtual time of the first k tasks that are ready -/
def lowG (l : List Tk) : Nat → Option Int
  | 0 => none
  | k + 1 => match l[k]? with
    | none => lowG l k
    | some x => if x.rd then (match lowG l k with
      | none => some x.v
      | some n => if x.v < n then some x.v else some n) else lowG l k
theorem bestG_lt (l : List Tk) : ∀ k b, bestG l k = some b → b < k ∧ b < l.length
  | 0, b, h => by simp [bestG] at h
  | k + 1, b, h => by
    have ih := bestG_lt l k
    cases hk : l[k]? with
    | none =>
      rw [bestG, hk] at h
      have := ih b h
      omega
    | some x =>
      have hkl : k < l.length := (List.getElem?_eq_some_iff.1 hk).1
      rw [bestG_next hk] at h
      cases hw : twait x
      · rw [bestStep_no hw] at h
        have := ih b h
        omega
      · rw [bestStep_yes hw] at h
        cases hb : bestG l k with
        | none => rw [hb] at h; injection h with h; omega
        | some y =>
          have := ih y hb
          rw [hb, bestOf_some (List.getElem?_eq_getElem this.2)] at h
          split at h <;> injection h with h <;> omega
theorem fill1_len (l : List Tk) (c : Int) : (fill1 l c).length = l.length := by
  unfold fill1
  repeat' split
  all_goals simp
theorem fillG_len (l : List Tk) (n : Nat) : (fillG l n).length = l.length := by
  induction n with
  | zero => rfl
  | succ n ih => simp only [fillG]; rw [fill1_len, ih]
end Go.Proofs.YtnmlapiekfkbaaaGreatDoor
namespace Go.Proofs.YtnmlapiekfkbaaaGreatDoor
open Go.RowKit
set_option linter.unusedVariables false
set_option linter.unusedSimpArgs false
def ptrG (ad : Option Addr) (o : Option Nat) : Value := .pointer (o.map fun i => ⟨blk ad, i * 15, none⟩)
theorem ptrG_none (ad : Option Addr) : ptrG ad none = .pointer none := rfl
theorem ptrG_some (T i : Nat) : ptrG (some ⟨T, 0, none⟩) (some i) = .pointer (some ⟨T, i * 15, none⟩) := rfl
theorem find_at {l : List Tk} {p : Tk → Bool} {k : Nat} {x : Tk} (hx : l[k]? = some x) (hp : p x = true) (h : ∀ (j : Nat) (y : Tk), j < k → l[j]? = some y → p y = false) : l.findIdx? p = some k := by
  obtain ⟨hk, e⟩ := List.getElem?_eq_some_iff.1 hx
  rw [List.findIdx?_eq_some_iff_getElem]
  refine ⟨hk, by rw [e]; exact hp, fun j hj => ?_⟩
  have := h j l[j] hj (List.getElem?_eq_getElem (by omega))
  simp [this]
theorem find_no {l : List Tk} {p : Tk → Bool} (h : ∀ (j : Nat) (y : Tk), l[j]? = some y → p y = false) : l.findIdx? p = none := by
  rw [List.findIdx?_eq_none_iff]
  intro x hx
  obtain ⟨j, hj, e⟩ := List.getElem_of_mem hx
  exact h j x (by rw [List.getElem?_eq_getElem hj, e])
section
variable {w : World} {R cap : Nat} {ad : Option Addr} {cpus ticks pin : Int} {l : List Tk}
set_option maxRecDepth 100000 in
set_option maxHeartbeats 400000 in
theorem find_is (h : RunG w R ad cap cpus ticks pin l) (t : Int) : Calls Tryz.prog 98 #[.pointer (some ⟨R, 0, none⟩), .int .i64 t] w fun e w' => e = .returned (ptrG ad (idG l t)) ∧ w = w' := by
  have c3 := h.c3
  have HH := Lib.hid h
  have hmx := h.mx
  obtain ⟨n, hn⟩ : ∃ n, n = l.length := ⟨_, rfl⟩
  rw [← hn] at c3 hmx
  have HN := Lib.hid hn
  clear h hn
  go_enter Tryz.func98, Tryz.ntmps98
  go_wp2_with fail
  go_loop [11] (fun i => ∃ k : Nat, k ≤ n ∧ i = .int .i64 k ∧ Hid (∀ (j : Nat) (y : Tk), j < k → l[j]? = some y → (y.t == t) = false)) (fun i => n - (intOf i).toNat)
  case atStart => exact ⟨0, Nat.zero_le _, rfl, fun j y hj => absurd hj (Nat.not_lt_zero _)⟩
  case round =>
    obtain ⟨k, hk0, rfl, HM⟩ := hrel
    by_cases hk : k < n
    · have j1 : (k : Int) < n := by omega
      obtain ⟨T, C, rfl, hr⟩ := HH.out.rows (by have := HN.out; omega)
      obtain ⟨x, hx⟩ : ∃ x, l[k]? = some x := ⟨l[k]'(by have := HN.out; omega), List.getElem?_eq_getElem _⟩
      have t0 := (hr.cell (k * 15)).trans (hr.at hx).c0
      have HX := Lib.hid hx
      clear hr hx
      by_cases ht : x.t = t
      · have HT := Lib.hid ht
        rw [ht] at t0
        clear ht
        go_wp2_with fail
        go_ret
        exact ⟨by rw [idG, find_at HX.out (by simp [HT.out]) HM.out]; rfl, rfl⟩
      · have ht' : (x.t == t) = false := by simp [ht]
        have HT := Lib.hid ht'
        clear ht
        go_wp2_with fail
        go_round
        case rel => exact ⟨k + 1, by omega, by go_num, fun j y hj hy => by
          rcases Nat.lt_succ_iff_lt_or_eq.1 hj with q | rfl
          · exact HM.out j y q hy
          · rw [HX.out] at hy; injection hy with hy; subst hy; exact HT.out⟩
        case measure => simp [intOf]; omega
    · obtain rfl : k = n := by omega
      go_wp2_with fail
      go_ret
      exact ⟨by rw [idG, find_no (fun j y hy => HM.out j y (by have := (List.getElem?_eq_some_iff.1 hy).1; have := HN.out; omega) hy)]; rfl, rfl⟩
set_option maxRecDepth 100000 in
set_option maxHeartbeats 400000 in
theorem onG_is (h : RunG w R ad cap cpus ticks pin l) (t : Int) : Calls Tryz.prog 53 #[.pointer (some ⟨R, 0, none⟩), .int .i64 t] w fun e w' => e = .returned (ptrG ad (onG l t)) ∧ w = w' := by
  have c3 := h.c3
  have HH := Lib.hid h
  have hmx := h.mx
  obtain ⟨n, hn⟩ : ∃ n, n = l.length := ⟨_, rfl⟩
  rw [← hn] at c3 hmx
  have HN := Lib.hid hn
  clear h hn
  go_enter Tryz.func53, Tryz.ntmps53
  go_wp2_with fail
  go_loop [11] (fun i => ∃ k : Nat, k ≤ n ∧ i = .int .i64 k ∧ Hid (∀ (j : Nat) (y : Tk), j < k → l[j]? = some y → (y.cpu == t) = false)) (fun i => n - (intOf i).toNat)
  case atStart => exact ⟨0, Nat.zero_le _, rfl, fun j y hj => absurd hj (Nat.not_lt_zero _)⟩
  case round =>
    obtain ⟨k, hk0, rfl, HM⟩ := hrel
    by_cases hk : k < n
    · have j1 : (k : Int) < n := by omega
      obtain ⟨T, C, rfl, hr⟩ := HH.out.rows (by have := HN.out; omega)
      obtain ⟨x, hx⟩ : ∃ x, l[k]? = some x := ⟨l[k]'(by have := HN.out; omega), List.getElem?_eq_getElem _⟩
      have t0 := (hr.cell (k * 15 + 14)).trans (hr.at hx).c14
      have HX := Lib.hid hx
      clear hr hx
      by_cases ht : x.cpu = t
      · have HT := Lib.hid ht
        rw [ht] at t0
        clear ht
        go_wp2_with fail
        go_ret
        exact ⟨by rw [onG, find_at HX.out (by simp [HT.out]) HM.out]; rfl, rfl⟩
      · have ht' : (x.cpu == t) = false := by simp [ht]
        have HT := Lib.hid ht'
        clear ht
        go_wp2_with fail
        go_round
        case rel => exact ⟨k + 1, by omega, by go_num, fun j y hj hy => by
          rcases Nat.lt_succ_iff_lt_or_eq.1 hj with q | rfl
          · exact HM.out j y q hy
          · rw [HX.out] at hy; injection hy with hy; subst hy; exact HT.out⟩
        case measure => simp [intOf]; omega
    · obtain rfl : k = n := by omega
      go_wp2_with fail
      go_ret
      exact ⟨by rw [onG, find_no (fun j y hy => HM.out j y (by have := (List.getElem?_eq_some_iff.1 hy).1; have := HN.out; omega) hy)]; rfl, rfl⟩
variable {T : Nat} {C : Array Value} {i j : Nat} {x y : Tk}
set_option maxRecDepth 100000 in
set_option maxHeartbeats 400000 in
theorem as_is (h : TkR w R T cap pin l C) (hx : l[i]? = some x) : Calls Tryz.prog 294 #[.pointer (some ⟨T, i * 15, none⟩)] w fun e w' => e = .returned (.tuple #[.int .i64 1, .int .i64 10]) ∧ Below w.heap.size w w' := by
  have t1 := (h.cell (i * 15 + 1)).trans (h.at hx).c1
  have t2 := (h.cell (i * 15 + 2)).trans (h.at hx).c2
  have t3 := (h.cell (i * 15 + 3)).trans (h.at hx).c3
  clear h hx
  go_enter Tryz.func294, Tryz.ntmps294
  go_wp2_with fail
  go_region
  go_wp2_with fail
  go_ret2
  exact ⟨rfl, (Below.refl _ _).drew⟩
set_option maxRecDepth 100000 in
set_option maxHeartbeats 400000 in
theorem waits_any (h : TkR w R T cap pin l C) (hx : l[i]? = some x) : Calls Tryz.prog 230 #[.pointer (some ⟨T, i * 15, none⟩)] w fun e w' => e = .returned (.bool (twait x)) ∧ w = w' := by
  have t12 := (h.cell (i * 15 + 12)).trans (h.at hx).c12
  have t13 := (h.cell (i * 15 + 13)).trans (h.at hx).c13
  have t14 := (h.cell (i * 15 + 14)).trans (h.at hx).c14
  obtain ⟨q, hq⟩ : ∃ q, q = twait x := ⟨_, rfl⟩
  unfold twait at hq
  rw [show twait x = (x.rd && decide (x.cpu < 0)) from rfl, ← hq]
  generalize x.rd = r at *
  generalize x.cpu = u at *
  clear h hx
  by_cases hu : u < 0
  · cases r
    all_goals
      simp only [hu, decide_true, Bool.and_true, Bool.false_and] at hq
      subst hq
      go_enter Tryz.func230, Tryz.ntmps230
      go_wp2_with fail
      go_ret
      exact ⟨rfl, rfl⟩
  · cases r
    all_goals
      simp only [hu, decide_false, Bool.and_false, Bool.false_and] at hq
      subst hq
      go_enter Tryz.func230, Tryz.ntmps230
      go_wp2_with fail
      go_ret
      exact ⟨rfl, rfl⟩
set_option maxRecDepth 100000 in
set_option maxHeartbeats 400000 in
theorem better_is (h : TkR w R T cap pin l C) (hx : l[i]? = some x) (hy : l[j]? = some y) : Calls Tryz.prog 231 #[.pointer (some ⟨T, i * 15, none⟩), .pointer (some ⟨T, j * 15, none⟩)] w fun e w' => e = .returned (.bool (tbet x y)) ∧ Below w.heap.size w w' := by
  have HX := Lib.hid hx
  have HY := Lib.hid hy
  have HH := Lib.hid h
  have HA := Lib.hid (as_is h hx)
  have hb := show tbet x y = if x.v = y.v then decide (x.t < y.t) else decide (x.v < y.v) from rfl
  obtain ⟨q, hq⟩ : ∃ q, q = tbet x y := ⟨_, rfl⟩
  rw [← hq] at hb ⊢
  clear h hx hy hq
  go_enter Tryz.func231, Tryz.ntmps231
  go_upto_region 2 with (go_at_call 294; refine HA.out.mono ?_; rintro e1 w1 ⟨rfl, hb1⟩)
  have HB := Lib.hid (as_is (HH.out.keep hb1) HY.out)
  have HB1 := Lib.hid hb1
  clear hb1 HA
  go_upto_region 3 with (go_at_call 294; refine HB.out.mono ?_; rintro e2 w2 ⟨rfl, hb2⟩)
  have HB2 := Lib.hid (HB1.out.trans (hb2.mono HB1.out.size))
  have hr := HH.out.keep HB2.out
  have a0 := (hr.cell (i * 15)).trans (hr.at HX.out).c0
  have a9 := (hr.cell (i * 15 + 9)).trans (hr.at HX.out).c9
  have b0 := (hr.cell (j * 15)).trans (hr.at HY.out).c0
  have b9 := (hr.cell (j * 15 + 9)).trans (hr.at HY.out).c9
  clear hr hb2 HB HB1 HH HX HY
  generalize x.v = xv at *
  generalize y.v = yv at *
  generalize x.t = xt at *
  generalize y.t = yt at *
  by_cases hv : xv = yv
  · rw [if_pos hv] at hb
    subst hv
    subst hb
    go_wp2_with fail
    go_region
    go_wp2_with fail
    go_region
    go_wp2_with fail
    go_ret
    exact ⟨rfl, HB2.out.drew.drew⟩
  · rw [if_neg hv] at hb
    subst hb
    have hv' : (xv != yv) = true := by simp [hv]
    clear hv
    go_wp2_with fail
    go_region
    go_wp2_with fail
    go_region
    go_wp2_with fail
    go_ret
    exact ⟨rfl, HB2.out.drew.drew⟩
end
end Go.Proofs.YtnmlapiekfkbaaaGreatDoor
