/- The walks of package open: owner, free, find, New, Get, Seek. The walks of package open: New, free, Get, Seek, Close. -/
import Derived.Test.YtafflkemnniegaaGreatDoorSpaceMap
import Derived.Test.YtafflkemnniegaaGreatDoorProg
import Derived.Test.YtafflkemnniegaaGreatDoorProcWalk
import Derived.WalkSmall
import Derived.BigQuiet
import Derived.BigRegion
import Derived.Laws.ResultCell
namespace Go.Proofs.YtafflkemnniegaaGreatDoor.OpenLaw
set_option linter.unusedSimpArgs false
open Go.RowKit
set_option linter.unusedVariables false

structure F where
  kind : Int
  id : Int
  may : Int
  more : Bool
  pos : Int
  n : Int
abbrev f0 : F := ⟨0, 0, 0, false, 0, 0⟩
def thing (f : F) : Value := .agg #[.int .i64 f.kind, .int .i64 f.id, .int .i64 f.may, .bool f.more, .int .i64 f.pos]
def updF (t : Nat → F) (k : Nat) (f : F) : Nat → F := fun j => if j = k then f else t j
theorem updF_same (t : Nat → F) (k : Nat) (e : F) : updF t k e k = e := by simp [updF]
theorem updF_other (t : Nat → F) {k j : Nat} (e : F) (h : j ≠ k) : updF t k e j = t j := by simp [updF, h]
theorem updF_twice (t : Nat → F) (k : Nat) (e e' : F) : updF (updF t k e) k e' = updF t k e' := by
  funext j; by_cases h : j = k <;> simp [updF, h]
def updN (t : Nat → Nat) (k : Nat) (x : Nat) : Nat → Nat := fun j => if j = k then x else t j
theorem updN_same (t : Nat → Nat) (k x : Nat) : updN t k x k = x := by simp [updN]
theorem updN_other (t : Nat → Nat) {k j : Nat} (x : Nat) (h : j ≠ k) : updN t k x j = t j := by simp [updN, h]

/-- the table in block b: 32 files of six cells; 17 rows of eight descriptors -/
structure OTab (w : World) (b : Nat) (fs : Nat → F) (fd : Nat → Nat) : Prop where
  lt : b < w.heap.size
  fz : ∀ i, w.frozen? ⟨b, i, none⟩ = false
  le : ∀ i, fd i ≤ 32
  c0 : ∀ k, k < 32 → w.cell? ⟨b, k * 6, none⟩ = some (.int .i64 (fs k).kind)
  c1 : ∀ k, k < 32 → w.cell? ⟨b, k * 6 + 1, none⟩ = some (.int .i64 (fs k).id)
  c2 : ∀ k, k < 32 → w.cell? ⟨b, k * 6 + 2, none⟩ = some (.int .i64 (fs k).may)
  c3 : ∀ k, k < 32 → w.cell? ⟨b, k * 6 + 3, none⟩ = some (.bool (fs k).more)
  c4 : ∀ k, k < 32 → w.cell? ⟨b, k * 6 + 4, none⟩ = some (.int .i64 (fs k).pos)
  c5 : ∀ k, k < 32 → w.cell? ⟨b, k * 6 + 5, none⟩ = some (.int .i64 (fs k).n)
  d : ∀ p j, p < 17 → j < 8 → w.cell? ⟨b, 192 + p * 8 + j, none⟩ = some (.int .i64 (fd (p * 8 + j) : Nat))
theorem OTab.keep {w w' : World} {b : Nat} {fs : Nat → F} {fd : Nat → Nat} (h : OTab w b fs fd) (hb : Below w.heap.size w w') : OTab w' b fs fd := by
  refine ⟨Nat.lt_of_lt_of_le h.lt hb.size, fun i => (hb.frozen (p := ⟨b, i, none⟩) h.lt).trans (h.fz i), h.le, ?_, ?_, ?_, ?_, ?_, ?_, ?_⟩
  · exact fun k hk => (hb.cell (p := ⟨b, _, none⟩) h.lt).trans (h.c0 k hk)
  · exact fun k hk => (hb.cell (p := ⟨b, _, none⟩) h.lt).trans (h.c1 k hk)
  · exact fun k hk => (hb.cell (p := ⟨b, _, none⟩) h.lt).trans (h.c2 k hk)
  · exact fun k hk => (hb.cell (p := ⟨b, _, none⟩) h.lt).trans (h.c3 k hk)
  · exact fun k hk => (hb.cell (p := ⟨b, _, none⟩) h.lt).trans (h.c4 k hk)
  · exact fun k hk => (hb.cell (p := ⟨b, _, none⟩) h.lt).trans (h.c5 k hk)
  · exact fun p j hp hj => (hb.cell (p := ⟨b, _, none⟩) h.lt).trans (h.d p j hp hj)
section
variable {w : World} {b : Nat} {fs : Nat → F} {fd : Nat → Nat}
theorem OTab.drew (h : OTab w b fs fd) : OTab w.drew b fs fd := h.keep (Below.refl _ _).drew
theorem OTab.drewN (h : OTab w b fs fd) (n : Nat) : OTab (w.drewN n) b fs fd := h.keep (below_drewN (Below.refl _ _) n)
theorem OTab.alloc (h : OTab w b fs fd) (o : Obj) : OTab (w.alloc o) b fs fd := h.keep ((Below.refl _ _).alloc (Nat.le_refl _) o)
theorem set_other {i j : Nat} {v u : Value} (hij : i ≠ j) (h : w.cell? ⟨b, j, none⟩ = some u) : (w.setCell ⟨b, i, none⟩ v).cell? ⟨b, j, none⟩ = some u := by
  rw [World.cell?_setCell_other]
  · exact h
  · intro e; exact hij (by simpa using congrArg Addr.off e)
theorem set_same {i : Nat} {v u : Value} (h : w.cell? ⟨b, i, none⟩ = some u) : (w.setCell ⟨b, i, none⟩ v).cell? ⟨b, i, none⟩ = some v := by
  simp [go_sem, h]
/-- a store into field f of file k -/
theorem OTab.setF (h : OTab w b fs fd) {k f : Nat} (hk : k < 32) (hf : f < 6) {v : Value} {e : F}
    (e0 : some (if f = 0 then v else .int .i64 (fs k).kind) = some (.int .i64 e.kind)) (e1 : some (if f = 1 then v else .int .i64 (fs k).id) = some (.int .i64 e.id)) (e2 : some (if f = 2 then v else .int .i64 (fs k).may) = some (.int .i64 e.may))
    (e3 : some (if f = 3 then v else .bool (fs k).more) = some (.bool e.more)) (e4 : some (if f = 4 then v else .int .i64 (fs k).pos) = some (.int .i64 e.pos)) (e5 : some (if f = 5 then v else .int .i64 (fs k).n) = some (.int .i64 e.n)) :
    OTab (w.setCell ⟨b, k * 6 + f, none⟩ v) b (updF fs k e) fd := by
  refine ⟨by simpa using h.lt, fun i => by rw [World.frozen?_setCell]; exact h.fz i, h.le, ?_, ?_, ?_, ?_, ?_, ?_, ?_⟩
  · intro j hj
    by_cases ej : j = k
    · subst ej; rw [updF_same, ← e0]
      by_cases ef : f = 0
      · subst ef; rw [if_pos rfl]; exact set_same (h.c0 _ hk)
      · rw [if_neg ef]; exact set_other (by omega) (h.c0 _ hk)
    · rw [updF_other _ _ ej]; exact set_other (by omega) (h.c0 j hj)
  · intro j hj
    by_cases ej : j = k
    · subst ej; rw [updF_same, ← e1]
      by_cases ef : f = 1
      · subst ef; rw [if_pos rfl]; exact set_same (h.c1 _ hk)
      · rw [if_neg ef]; exact set_other (by omega) (h.c1 _ hk)
    · rw [updF_other _ _ ej]; exact set_other (by omega) (h.c1 j hj)
  · intro j hj
    by_cases ej : j = k
    · subst ej; rw [updF_same, ← e2]
      by_cases ef : f = 2
      · subst ef; rw [if_pos rfl]; exact set_same (h.c2 _ hk)
      · rw [if_neg ef]; exact set_other (by omega) (h.c2 _ hk)
    · rw [updF_other _ _ ej]; exact set_other (by omega) (h.c2 j hj)
  · intro j hj
    by_cases ej : j = k
    · subst ej; rw [updF_same, ← e3]
      by_cases ef : f = 3
      · subst ef; rw [if_pos rfl]; exact set_same (h.c3 _ hk)
      · rw [if_neg ef]; exact set_other (by omega) (h.c3 _ hk)
    · rw [updF_other _ _ ej]; exact set_other (by omega) (h.c3 j hj)
  · intro j hj
    by_cases ej : j = k
    · subst ej; rw [updF_same, ← e4]
      by_cases ef : f = 4
      · subst ef; rw [if_pos rfl]; exact set_same (h.c4 _ hk)
      · rw [if_neg ef]; exact set_other (by omega) (h.c4 _ hk)
    · rw [updF_other _ _ ej]; exact set_other (by omega) (h.c4 j hj)
  · intro j hj
    by_cases ej : j = k
    · subst ej; rw [updF_same, ← e5]
      by_cases ef : f = 5
      · subst ef; rw [if_pos rfl]; exact set_same (h.c5 _ hk)
      · rw [if_neg ef]; exact set_other (by omega) (h.c5 _ hk)
    · rw [updF_other _ _ ej]; exact set_other (by omega) (h.c5 j hj)
  · intro p j hp hj
    exact set_other (by omega) (h.d p j hp hj)
theorem OTab.setN (h : OTab w b fs fd) {k : Nat} (hk : k < 32) (x : Int) : OTab (w.setCell ⟨b, k * 6 + 5, none⟩ (.int .i64 x)) b (updF fs k { fs k with n := x }) fd := h.setF hk (by decide) rfl rfl rfl rfl rfl rfl
theorem OTab.setPos (h : OTab w b fs fd) {k : Nat} (hk : k < 32) (x : Int) : OTab (w.setCell ⟨b, k * 6 + 4, none⟩ (.int .i64 x)) b (updF fs k { fs k with pos := x }) fd := h.setF hk (by decide) rfl rfl rfl rfl rfl rfl
theorem OTab.setD (h : OTab w b fs fd) {p j : Nat} (hp : p < 17) (hj : j < 8) {x : Nat} (hx : x ≤ 32) : OTab (w.setCell ⟨b, 192 + p * 8 + j, none⟩ (.int .i64 x)) b fs (updN fd (p * 8 + j) x) := by
  refine ⟨by simpa using h.lt, fun i => by rw [World.frozen?_setCell]; exact h.fz i, ?_, ?_, ?_, ?_, ?_, ?_, ?_, ?_⟩
  · intro i
    unfold updN
    split
    · exact hx
    · exact h.le i
  · exact fun k hk => set_other (by omega) (h.c0 k hk)
  · exact fun k hk => set_other (by omega) (h.c1 k hk)
  · exact fun k hk => set_other (by omega) (h.c2 k hk)
  · exact fun k hk => set_other (by omega) (h.c3 k hk)
  · exact fun k hk => set_other (by omega) (h.c4 k hk)
  · exact fun k hk => set_other (by omega) (h.c5 k hk)
  · intro p' j' hp' hj'
    by_cases e : p' * 8 + j' = p * 8 + j
    · have h1 : p' = p := by omega
      have h2 : j' = j := by omega
      subst h1; subst h2
      rw [updN_same]; exact set_same (h.d _ _ hp hj)
    · rw [updN_other _ _ e]; exact set_other (by omega) (h.d p' j' hp' hj')
end

theorem owner_any (n : Int) (w : World) : Calls Tryz.prog 187 #[.int .i64 n] w fun e w' => e = .returned (.bool (decide (1 ≤ n) && decide (n ≤ 16))) ∧ w = w' := by
  by_cases h1 : 1 ≤ n
  · by_cases h2 : n ≤ 16
    · go_enter Tryz.func187, Tryz.ntmps187
      go_wp2
      go_ret
      exact ⟨by simp [h1, h2], rfl⟩
    · go_enter Tryz.func187, Tryz.ntmps187
      go_wp2
      go_ret
      exact ⟨by simp [h1, h2], rfl⟩
  · go_enter Tryz.func187, Tryz.ntmps187
    go_wp2
    go_ret
    exact ⟨by rw [show decide (1 ≤ n) = false from by simp; omega]; rfl, rfl⟩
theorem owner_is {p : Nat} (h1 : 1 ≤ p) (h2 : p ≤ 16) (w : World) : Calls Tryz.prog 187 #[.int .i64 p] w fun e w' => e = .returned (.bool true) ∧ w = w' := by
  have := owner_any p w
  rw [show (decide ((1 : Int) ≤ p) && decide ((p : Int) ≤ 16)) = true from by simp; omega] at this
  exact this
def FindPost (b : Nat) (x : Nat) (w : World) (e : Ending) (w' : World) : Prop :=
  e = .returned (.tuple #[if x = 0 then .pointer none else .pointer (some ⟨b, (x - 1) * 6, none⟩), .int .i64 (if x = 0 then 4 else 0)]) ∧ Below w.heap.size w w'
set_option maxHeartbeats 400000 in
theorem find_is {w : World} {b p j : Nat} {fs : Nat → F} {fd : Nat → Nat} (h : OTab w b fs fd) (h1 : 1 ≤ p) (h2 : p ≤ 16) (hj : j < 8) : Calls Tryz.prog 194 #[.pointer (some ⟨b, 0, none⟩), .int .i64 p, .int .i64 j] w (FindPost b (fd (p * 8 + j)) w) := by
  have hc := h.d p j (by omega) hj
  have hle := h.le (p * 8 + j)
  have HO := Lib.hid (owner_is h1 h2 w)
  have hpi : (p : Int) < 17 := by omega
  have hji : (j : Int) < 8 := by omega
  have g2 : decide ((8 : Int) ≤ j) = false := by simp; omega
  have g5 : ¬ (8 ≤ j) := by omega
  unfold FindPost
  generalize fd (p * 8 + j) = x at *
  clear h h1 h2
  by_cases hx : x = 0
  · subst hx
    go_enter Tryz.func194, Tryz.ntmps194
    go_wp2_with fail
    refine HO.out.mono ?_
    rintro e w1 ⟨rfl, rfl⟩
    go_wp2
    go_ret2
    exact ⟨rfl, Below.refl _ _⟩
  · obtain ⟨k, rfl⟩ : ∃ k, x = k + 1 := ⟨x - 1, by omega⟩
    have hki : (k : Int) < 32 := by omega
    rw [show ((k + 1 : Nat) : Int) = (k : Int) + 1 from rfl] at hc
    have hne : ((k : Int) + 1 == 0) = false := by simp; omega
    clear hx hle
    go_enter Tryz.func194, Tryz.ntmps194
    go_wp2_with fail
    refine HO.out.mono ?_
    rintro e w1 ⟨rfl, rfl⟩
    go_wp2_with fail
    go_region
    go_wp2
    go_ret2
    exact ⟨rfl, (Below.refl _ _).drew⟩
end Go.Proofs.YtafflkemnniegaaGreatDoor.OpenLaw
namespace Go.Proofs.YtafflkemnniegaaGreatDoor.OpenLaw
set_option linter.unusedSimpArgs false
open Go.RowKit
set_option linter.unusedVariables false

/-- all blocks but b are as they were -/
abbrev KB (b : Nat) (w w' : World) : Prop := w.grownBy w' (some b)
theorem KB.rfl' (b : Nat) (w : World) : KB b w w := World.grownBy.refl _ _
theorem KB.trans {b : Nat} {u w w' : World} (h : KB b u w) (k : KB b w w') : KB b u w' :=
  ⟨k.os.trans h.os, k.tape.trans h.tape, k.output.trans h.output, Nat.le_trans h.size k.size, fun i hi hn => (k.block i (Nat.lt_of_lt_of_le hi h.size) hn).trans (h.block i hi hn)⟩
theorem KB.of {b : Nat} {w w' : World} (h : Below w.heap.size w w') : KB b w w' := ⟨h.os, h.tape, h.output, h.size, fun i hi _ => h.block i hi⟩
theorem KB.alloc {b : Nat} {u w : World} (h : KB b u w) (o : Obj) : KB b u (w.alloc o) := h.trans (World.grownBy_alloc w o _)
theorem KB.drew {b : Nat} {u w : World} (h : KB b u w) : KB b u w.drew := ⟨h.os, h.tape, h.output, h.size, h.block⟩
theorem KB.set {b i : Nat} {u w : World} (h : KB b u w) (v : Value) : KB b u (w.setCell ⟨b, i, none⟩ v) :=
  h.trans ⟨rfl, rfl, rfl, by simp [World.setCell], fun k hk hn => Below.heap_setCell _ _ _ _ (by intro e; exact hn (by rw [e]))⟩
theorem KB.below {b B : Nat} {u w : World} (h : KB b u w) (hB : B ≤ b) (hs : B ≤ u.heap.size) : Below B u w :=
  ⟨h.os, h.tape, h.output, h.size, fun k hk => h.block k (by omega) (by intro e; have := Option.some.inj e; omega)⟩
theorem KB.cell {b : Nat} {u w : World} (h : KB b u w) {a : Addr} {v : Value} (hc : u.cell? a = some v) (hn : a.block ≠ b) : w.cell? a = some v := World.grownBy.cell h hc (by intro e; exact hn (Option.some.inj e))

theorem results_cell3 {fn : Func} {p u x : Tmp} {ty : TypeId} (h : fn.results = #[.cell p ty, .tmp u, .tmp x]) (tmps : Array Value) (P : Program) (w : World) :
    (results fn tmps).run P w = ((asAddr (tmps.getD p undef)).run P w).andThen fun a w1 => ((loadVar ty a).run P w1).andThen fun v w2 => .ok (.tuple #[v, tmps.getD u undef, tmps.getD x undef]) w2 := by
  unfold results
  rw [h]
  simp
theorem find_none {w : World} {b p j : Nat} {fs : Nat → F} {fd : Nat → Nat} (h : OTab w b fs fd) (h1 : 1 ≤ p) (h2 : p ≤ 16) (hj : j < 8) (hx : fd (p * 8 + j) = 0) : Calls Tryz.prog 194 #[.pointer (some ⟨b, 0, none⟩), .int .i64 p, .int .i64 j] w fun e w' => e = .returned (.tuple #[.pointer none, .int .i64 4]) ∧ Below w.heap.size w w' := by
  have := find_is h h1 h2 hj
  rw [hx] at this
  exact this
theorem find_some {w : World} {b p j k : Nat} {fs : Nat → F} {fd : Nat → Nat} (h : OTab w b fs fd) (h1 : 1 ≤ p) (h2 : p ≤ 16) (hj : j < 8) (hx : fd (p * 8 + j) = k + 1) : Calls Tryz.prog 194 #[.pointer (some ⟨b, 0, none⟩), .int .i64 p, .int .i64 j] w fun e w' => e = .returned (.tuple #[.pointer (some ⟨b, k * 6, none⟩), .int .i64 0]) ∧ Below w.heap.size w w' := by
  have := find_is h h1 h2 hj
  rw [hx] at this
  exact this
def zAt (i : Nat) : Value := if i < 192 then (if i % 6 = 3 then .bool false else .int .i64 0) else .int .i64 0
set_option maxRecDepth 100000 in
theorem zeros_eq : Tryz.zeroCells215.toList = (List.range 328).map zAt := by kernel_rfl
theorem zeros_cell (w : World) (i : Nat) (h : i < 328) : (w.alloc (.cells Tryz.zeroCells215 215)).cell? ⟨w.heap.size, i, none⟩ = some (zAt i) := by
  have := cells_new w Tryz.zeroCells215.toList 215 i (zAt i) (by rw [zeros_eq, List.getElem?_map, List.getElem?_range h]; rfl)
  rw [Array.toArray_toList] at this
  rw [← this]
  congr 1
  unfold Addr.add
  split <;> simp_all
theorem frozen_new (w : World) (c : Array Value) (T : TypeId) (i : Nat) : (w.alloc (.cells c T)).frozen? ⟨w.heap.size, i, none⟩ = false := by
  simp
theorem new_tab (w : World) : OTab (w.alloc (.cells Tryz.zeroCells215 215)) w.heap.size (fun _ => f0) (fun _ => 0) := by
  refine ⟨by simp, fun i => frozen_new w _ _ i, fun i => by omega, ?_, ?_, ?_, ?_, ?_, ?_, ?_⟩
  · intro k hk; rw [zeros_cell w _ (by omega), zAt, if_pos (by omega), if_neg (by omega)]
  · intro k hk; rw [zeros_cell w _ (by omega), zAt, if_pos (by omega), if_neg (by omega)]
  · intro k hk; rw [zeros_cell w _ (by omega), zAt, if_pos (by omega), if_neg (by omega)]
  · intro k hk; rw [zeros_cell w _ (by omega), zAt, if_pos (by omega), if_pos (by omega)]
  · intro k hk; rw [zeros_cell w _ (by omega), zAt, if_pos (by omega), if_neg (by omega)]
  · intro k hk; rw [zeros_cell w _ (by omega), zAt, if_pos (by omega), if_neg (by omega)]
  · intro p j hp hj; rw [zeros_cell w _ (by omega), zAt, if_neg (by omega)]; rfl
theorem new_is (w : World) : Calls Tryz.prog 34 #[] w fun e w' => e = .returned (.pointer (some ⟨w.heap.size, 0, none⟩)) ∧ Below w.heap.size w w' ∧ w'.heap.size = w.heap.size + 1 ∧ OTab w' w.heap.size (fun _ => f0) (fun _ => 0) := by
  go_enter Tryz.func34, Tryz.ntmps34
  go_wp2
  go_ret
  exact ⟨rfl, Go.Joins.below_alloc1 w _, by simp, new_tab w⟩
set_option maxRecDepth 100000 in
set_option maxHeartbeats 400000 in
theorem get_is {w : World} {b p j k : Nat} {fs : Nat → F} {fd : Nat → Nat} (h : OTab w b fs fd) (h1 : 1 ≤ p) (h2 : p ≤ 16) (hj : j < 8) (hx : fd (p * 8 + j) = k + 1) : Calls Tryz.prog 114 #[.pointer (some ⟨b, 0, none⟩), .int .i64 p, .int .i64 j] w fun e w' => e = .returned (.tuple #[thing (fs k), .int .i64 0]) ∧ Below w.heap.size w w' := by
  have hk : k < 32 := by have := h.le (p * 8 + j); omega
  have hF := find_some (h.alloc (.cells #[.int .i64 0, .int .i64 0, .int .i64 0, .bool false, .int .i64 0] 208)) h1 h2 hj hx
  have HF := Lib.hid hF
  have HH := Lib.hid (h.alloc (.cells #[.int .i64 0, .int .i64 0, .int .i64 0, .bool false, .int .i64 0] 208))
  have HB := Lib.hid (Go.Joins.below_alloc1 w (.cells #[.int .i64 0, .int .i64 0, .int .i64 0, .bool false, .int .i64 0] 208))
  have HR := Lib.hid (has_new w [.int .i64 0, .int .i64 0, .int .i64 0, .bool false, .int .i64 0] 208)
  have HZ := Lib.hid (fun i => frozen_new w #[.int .i64 0, .int .i64 0, .int .i64 0, .bool false, .int .i64 0] 208 i)
  clear hF hx h h1 h2 hj
  go_enter Tryz.func114, Tryz.ntmps114
  go_wp2_with fail
  refine HF.out.mono ?_
  rintro e w1 ⟨rfl, hb1⟩
  have H1 := Lib.hid (HH.out.keep hb1)
  have c0 := H1.out.c0 k hk
  have c1 := H1.out.c1 k hk
  have c2 := H1.out.c2 k hk
  have c3 := H1.out.c3 k hk
  have c4 := H1.out.c4 k hk
  have R := HR.out.keep hb1
  have r0 := R.2 0 _ rfl
  have r1 := R.2 1 _ rfl
  have r2 := R.2 2 _ rfl
  have r3 := R.2 3 _ rfl
  have r4 := R.2 4 _ rfl
  have z : ∀ i, w1.frozen? ⟨w.heap.size, i, none⟩ = false := fun i => (hb1.frozen (p := ⟨w.heap.size, i, none⟩) (by simp)).trans (HZ.out i)
  have HK := Lib.hid (Below.trans HB.out (hb1.mono (by simp)))
  clear R hb1 hk
  go_wp2
  refine bodyPost_ret (v := .tuple #[thing (fs k), .int .i64 0]) (by rw [results_cell_tmp rfl]; go_simp; rfl) rfl ⟨rfl, ?_⟩
  exact ((((HK.out.setCell (p := ⟨_, _, none⟩) (Nat.le_refl _) _).setCell (p := ⟨_, _, none⟩) (Nat.le_refl _) _).setCell (p := ⟨_, _, none⟩) (Nat.le_refl _) _).setCell (p := ⟨_, _, none⟩) (Nat.le_refl _) _).setCell (p := ⟨_, _, none⟩) (Nat.le_refl _) _
theorem has_other {w : World} {g b i : Nat} {cs : List Value} (h : Has w g cs) (hg : g ≠ b) (v : Value) : Has (w.setCell ⟨b, i, none⟩ v) g cs :=
  ⟨by simpa using h.1, fun j u hu => (World.cell?_setCell_other _ _ _ _ (by intro e; exact hg (by simpa using (congrArg Addr.block e).symm))).trans (h.2 j u hu)⟩
theorem KB.setc {b : Nat} {u w : World} (h : KB b u w) (i : Nat) (v : Value) : KB b u (w.setCell ⟨b, i, none⟩ v) := h.set v
theorem OTab.other {w : World} {b g i : Nat} {fs : Nat → F} {fd : Nat → Nat} (h : OTab w b fs fd) (hg : g ≠ b) (v : Value) : OTab (w.setCell ⟨g, i, none⟩ v) b fs fd := by
  have e : ∀ x, (w.setCell ⟨g, i, none⟩ v).cell? ⟨b, x, none⟩ = w.cell? ⟨b, x, none⟩ := fun x => World.cell?_setCell_other _ _ _ _ (by intro e; exact hg (by simpa using congrArg Addr.block e))
  exact ⟨by simpa using h.lt, fun i => by rw [World.frozen?_setCell]; exact h.fz i, h.le, fun k hk => by rw [e]; exact h.c0 k hk, fun k hk => by rw [e]; exact h.c1 k hk, fun k hk => by rw [e]; exact h.c2 k hk, fun k hk => by rw [e]; exact h.c3 k hk, fun k hk => by rw [e]; exact h.c4 k hk, fun k hk => by rw [e]; exact h.c5 k hk, fun p j hp hj => by rw [e]; exact h.d p j hp hj⟩
theorem KB.other {b g i : Nat} {u w : World} (h : KB b u w) (hs : u.heap.size ≤ g) (v : Value) : KB b u (w.setCell ⟨g, i, none⟩ v) :=
  ⟨h.os, h.tape, h.output, by simpa [World.setCell] using h.size, fun k hk hn => (Below.heap_setCell _ _ _ _ (by show k ≠ g; omega)).trans (h.block k hk hn)⟩
set_option maxRecDepth 100000 in
set_option maxHeartbeats 400000 in
theorem seek_is {w : World} {b p j k : Nat} {at' : Int} {fs : Nat → F} {fd : Nat → Nat} (h : OTab w b fs fd) (h1 : 1 ≤ p) (h2 : p ≤ 16) (hj : j < 8) (hx : fd (p * 8 + j) = k + 1) (ha : 0 ≤ at') (hb : at' ≤ 512) : Calls Tryz.prog 117 #[.pointer (some ⟨b, 0, none⟩), .int .i64 p, .int .i64 j, .int .i64 at'] w fun e w' => e = .returned (.int .i64 0) ∧ KB b w w' ∧ OTab w' b (updF fs k { fs k with pos := at' }) fd := by
  have hk : k < 32 := by have := h.le (p * 8 + j); omega
  have HF := Lib.hid (find_some h h1 h2 hj hx)
  have HH := Lib.hid h
  have HB := Lib.hid (KB.rfl' b w)
  clear hx h h1 h2 hj
  go_enter Tryz.func117, Tryz.ntmps117
  go_wp2_with fail
  refine HF.out.mono ?_
  rintro e w1 ⟨rfl, hb1⟩
  have H1 := Lib.hid (HH.out.keep hb1)
  have c4 := H1.out.c4 k hk
  have z : ∀ i, w1.frozen? ⟨b, i, none⟩ = false := H1.out.fz
  have HK := Lib.hid (KB.of hb1 (b := b))
  have HN := Lib.hid (H1.out.setPos hk at')
  clear hb1 hk
  go_wp2
  go_ret
  exact ⟨rfl, HK.out.setc _ _, HN.out⟩
set_option maxRecDepth 100000 in
set_option maxHeartbeats 400000 in
theorem close_is {w : World} {b p j k : Nat} {fs : Nat → F} {fd : Nat → Nat} (h : OTab w b fs fd) (h1 : 1 ≤ p) (h2 : p ≤ 16) (hj : j < 8) (hx : fd (p * 8 + j) = k + 1) (hn0 : 0 < (fs k).n) (hn1 : (fs k).n ≤ 200) : Calls Tryz.prog 112 #[.pointer (some ⟨b, 0, none⟩), .int .i64 p, .int .i64 j] w fun e w' => e = .returned (.tuple #[thing (fs k), .bool (decide ((fs k).n = 1)), .int .i64 0]) ∧ KB b w w' ∧ OTab w' b (updF fs k { fs k with n := (fs k).n - 1 }) (updN fd (p * 8 + j) 0) := by
  have hk : k < 32 := by have := h.le (p * 8 + j); omega
  have hF := find_some (h.alloc (.cells #[.int .i64 0, .int .i64 0, .int .i64 0, .bool false, .int .i64 0] 208)) h1 h2 hj hx
  have HF := Lib.hid hF
  have HH := Lib.hid (h.alloc (.cells #[.int .i64 0, .int .i64 0, .int .i64 0, .bool false, .int .i64 0] 208))
  have HB := Lib.hid (Go.Joins.below_alloc1 w (.cells #[.int .i64 0, .int .i64 0, .int .i64 0, .bool false, .int .i64 0] 208))
  have HR := Lib.hid (has_new w [.int .i64 0, .int .i64 0, .int .i64 0, .bool false, .int .i64 0] 208)
  have HZ := Lib.hid (fun i => frozen_new w #[.int .i64 0, .int .i64 0, .int .i64 0, .bool false, .int .i64 0] 208 i)
  have hne : w.heap.size ≠ b := by have := h.lt; omega
  have hps : (p : Int) < 17 := by omega
  have hjs : (j : Int) < 8 := by omega
  have HP := Lib.hid (show p < 17 by omega)
  have HJ := Lib.hid hj
  clear hF hx h h1 h2 hj
  go_enter Tryz.func112, Tryz.ntmps112
  go_wp2_with fail
  refine HF.out.mono ?_
  rintro e w1 ⟨rfl, hb1⟩
  have H1 := Lib.hid (HH.out.keep hb1)
  have c0 := H1.out.c0 k hk
  have c1 := H1.out.c1 k hk
  have c2 := H1.out.c2 k hk
  have c3 := H1.out.c3 k hk
  have c4 := H1.out.c4 k hk
  have c5 := H1.out.c5 k hk
  have d := H1.out.d p j HP.out HJ.out
  have R := HR.out.keep hb1
  have r0 := R.2 0 _ rfl
  have r1 := R.2 1 _ rfl
  have r2 := R.2 2 _ rfl
  have r3 := R.2 3 _ rfl
  have r4 := R.2 4 _ rfl
  have z : ∀ i, w1.frozen? ⟨w.heap.size, i, none⟩ = false := fun i => (hb1.frozen (p := ⟨w.heap.size, i, none⟩) (by simp)).trans (HZ.out i)
  have zb : ∀ i, w1.frozen? ⟨b, i, none⟩ = false := H1.out.fz
  have HK := Lib.hid (KB.of (b := b) (Below.trans HB.out (hb1.mono (by simp))))
  have HN : Hid (OTab ((w1.setCell ⟨b, 192 + p * 8 + j, none⟩ (.int .i64 0)).setCell ⟨b, k * 6 + 5, none⟩ (.int .i64 ((fs k).n - 1))) b (updF fs k { fs k with n := (fs k).n - 1 }) (updN fd (p * 8 + j) 0)) := Lib.hid ((H1.out.setD HP.out HJ.out (x := 0) (by omega)).setN hk ((fs k).n - 1))
  have HS := Lib.hid (has_other (i := k * 6 + 5) (has_other (i := 192 + p * 8 + j) R hne (.int .i64 0)) hne (.int .i64 ((fs k).n - 1)))
  have HKN := Lib.hid ((HK.out.setc (192 + p * 8 + j) (.int .i64 0)).setc (k * 6 + 5) (.int .i64 ((fs k).n - 1)))
  have HZN : Hid (∀ i, ((w1.setCell ⟨b, 192 + p * 8 + j, none⟩ (.int .i64 0)).setCell ⟨b, k * 6 + 5, none⟩ (.int .i64 ((fs k).n - 1))).frozen? ⟨w.heap.size, i, none⟩ = false) := Lib.hid (fun i => by rw [World.frozen?_setCell, World.frozen?_setCell]; exact z i)
  have HQ := Lib.hid hk
  have n1 : k * 6 + 5 ≠ 192 + p * 8 + j := by omega
  have n2 : k * 6 + 4 ≠ 192 + p * 8 + j := by omega
  have n3 : k * 6 + 3 ≠ 192 + p * 8 + j := by omega
  have n4 : k * 6 + 2 ≠ 192 + p * 8 + j := by omega
  have n5 : k * 6 + 1 ≠ 192 + p * 8 + j := by omega
  have n6 : k * 6 ≠ 192 + p * 8 + j := by omega
  clear R hb1 hk
  go_wp2_with fail
  clear c0 c1 c2 c3 c4 c5 d r0 r1 r2 r3 r4 z zb HF HH HB HR HZ H1 HK
  generalize ((w1.setCell ⟨b, 192 + p * 8 + j, none⟩ (.int .i64 0)).setCell ⟨b, k * 6 + 5, none⟩ (.int .i64 ((fs k).n - 1))) = w2 at *
  have c0 := HN.out.c0 k HQ.out
  have c1 := HN.out.c1 k HQ.out
  have c2 := HN.out.c2 k HQ.out
  have c3 := HN.out.c3 k HQ.out
  have c4 := HN.out.c4 k HQ.out
  have c5 := HN.out.c5 k HQ.out
  rw [updF_same] at c0 c1 c2 c3 c4 c5
  have r0 := HS.out.2 0 _ rfl
  have r1 := HS.out.2 1 _ rfl
  have r2 := HS.out.2 2 _ rfl
  have r3 := HS.out.2 3 _ rfl
  have r4 := HS.out.2 4 _ rfl
  have z := HZN.out
  have hone : ((fs k).n - 1 == 0) = decide ((fs k).n = 1) := by
    by_cases q : (fs k).n = 1
    · rw [q]; rfl
    · rw [decide_eq_false q]; simp; omega
  obtain ⟨one, hO⟩ : ∃ one, decide ((fs k).n = 1) = one := ⟨_, rfl⟩
  rw [hO] at hone
  have HO := Lib.hid hO
  clear hO n1 n2 n3 n4 n5 n6
  go_region
  go_wp2
  refine bodyPost_ret (v := .tuple #[thing (fs k), .bool one, .int .i64 0]) (by rw [results_cell3 rfl]; go_simp; rfl) rfl ⟨by rw [HO.out], ?_, ?_⟩
  · exact ((((((HKN.out.other (Nat.le_refl _) _).other (Nat.le_refl _) _).other (Nat.le_refl _) _).other (Nat.le_refl _) _).other (Nat.le_refl _) _)).drew
  · exact ((((((HN.out.other hne _).other hne _).other hne _).other hne _).other hne _)).drew
end Go.Proofs.YtafflkemnniegaaGreatDoor.OpenLaw
