/- The memory of space.Memory with pages of one space: what holds of it, and what keeps it. -/
import Derived.Test.YtopadiofanaaiaaDoorSpaceMap
namespace Go.Proofs.YtopadiofanaaiaaDoor
open Go.RowKit Go.Maps
set_option linter.unusedVariables false
set_option linter.unusedSimpArgs false
theorem grown_cell {w w' : World} {row : Option Nat} (h : w.grownBy w' row) {b o : Nat} (hlt : b < w.heap.size) (hne : some b ≠ row) : w'.cell? ⟨b, o, none⟩ = w.cell? ⟨b, o, none⟩ := by
  have := h.block b hlt hne
  simp only [World.cell?, this]
theorem grown_frozen {w w' : World} {row : Option Nat} (h : w.grownBy w' row) {b o : Nat} (hlt : b < w.heap.size) (hne : some b ≠ row) : w'.frozen? ⟨b, o, none⟩ = w.frozen? ⟨b, o, none⟩ := by
  have := h.block b hlt hne
  simp only [World.frozen?, this]
theorem grown_set (w : World) (b i : Nat) (x : Value) : w.grownBy (w.setCell ⟨b, i, none⟩ x) (some b) :=
  ⟨rfl, rfl, rfl, by simp [World.setCell], fun k hk hne => Below.heap_setCell _ _ _ _ (by intro e; exact hne (by rw [e]))⟩
theorem set_same {w : World} {b i : Nat} {x y : Value} (h : w.cell? ⟨b, i, none⟩ = some y) : (w.setCell ⟨b, i, none⟩ x).cell? ⟨b, i, none⟩ = some x := by
  simp [go_sem, h]
theorem set_other {w : World} {b i j : Nat} {x v : Value} (hj : j ≠ i) (h : w.cell? ⟨b, j, none⟩ = some v) : (w.setCell ⟨b, i, none⟩ x).cell? ⟨b, j, none⟩ = some v := by
  rw [World.cell?_setCell_other _ _ _ _ (by intro e; exact hj (by simpa using (congrArg Addr.off e).symm))]; exact h
/-- A page in a frame, that one entry names. -/
structure Page (w : World) (g : Nat) (d : Nat → Int) : Prop where
  lt : g < w.heap.size
  dc : ∀ j, j < 16 → w.cell? ⟨g, j, none⟩ = some (.int .u8 (d j))
  us : w.cell? ⟨g, 16, none⟩ = some (.int .i64 1)
  hr : w.cell? ⟨g, 17, none⟩ = some (.bool true)
  ak : ∃ a, w.cell? ⟨g, 18, none⟩ = some (.int .i64 a)
  fz : ∀ j, w.frozen? ⟨g, j, none⟩ = false
theorem Page.kept {w w' : World} {g : Nat} {d : Nat → Int} {row : Option Nat} (h : Page w g d) (hg : w.grownBy w' row) (hne : some g ≠ row) : Page w' g d := by
  have k : ∀ {o v}, w.cell? ⟨g, o, none⟩ = some v → w'.cell? ⟨g, o, none⟩ = some v := fun hc => (grown_cell hg h.lt hne).trans hc
  obtain ⟨a, ha⟩ := h.ak
  exact ⟨Nat.lt_of_lt_of_le h.lt hg.size, fun j hj => k (h.dc j hj), k h.us, k h.hr, ⟨a, k ha⟩, fun j => (grown_frozen hg h.lt hne).trans (h.fz j)⟩
theorem Page.asked {w : World} {g : Nat} {d : Nat → Int} (h : Page w g d) (x : Int) : Page (w.setCell ⟨g, 18, none⟩ (.int .i64 x)) g d := by
  obtain ⟨a, ha⟩ := h.ak
  exact ⟨by simpa [World.setCell] using h.lt, fun j hj => set_other (by omega) (h.dc j hj), set_other (by omega) h.us, set_other (by omega) h.hr, ⟨x, set_same ha⟩, fun j => by rw [World.frozen?_setCell]; exact h.fz j⟩
theorem Page.byte {w : World} {g : Nat} {d : Nat → Int} (h : Page w g d) {i : Nat} (hi : i < 16) (x : Int) : Page (w.setCell ⟨g, i, none⟩ (.int .u8 x)) g (fun j => if j = i then x else d j) := by
  obtain ⟨a, ha⟩ := h.ak
  refine ⟨by simpa [World.setCell] using h.lt, fun j hj => ?_, set_other (by omega) h.us, set_other (by omega) h.hr, ⟨a, set_other (by omega) ha⟩, fun j => by rw [World.frozen?_setCell]; exact h.fz j⟩
  by_cases hji : j = i
  · subst hji
    rw [set_same (h.dc j hj)]
    simp
  · rw [set_other hji (h.dc j hj)]
    simp [hji]
/-- The memory: its struct in block M, spaces in so, the one space in im, np pages from page number 'first' on. 'tag' tells the blocks apart. -/
structure Mem (Z : Nat) (tag : Nat → Nat) (w : World) (M so im : Nat) (pv : Value) (pg : Nat → Nat) (np : Nat) (first : Int) (dt : Nat → Nat → Int) : Prop where
  m0 : w.cell? ⟨M, 0, none⟩ = some (.int .i64 8)
  m1 : w.cell? ⟨M, 1, none⟩ = some (.int .i64 0)
  m2 : ∃ ck, w.cell? ⟨M, 2, none⟩ = some (.int .i64 ck)
  m3 : w.cell? ⟨M, 3, none⟩ = some pv
  m4 : w.cell? ⟨M, 4, none⟩ = some (.map (some so))
  mz : ∀ j, w.frozen? ⟨M, j, none⟩ = false
  mlt : M < w.heap.size
  ps : w.ownsRow 0 44 1 pv np ((List.range np).map fun i => Value.pointer (some ⟨pg i, 0, none⟩))
  om : OMap w so 1 (fun k => if k = 1 then some im else none)
  sm : IMap w im np (fun k => if first ≤ k ∧ k < first + np then some (pg (k - first).toNat, 3) else none)
  pgs : ∀ i, i < np → Page w (pg i) (dt i)
  tM : tag M = 1
  tso : tag so = 2
  tim : tag im = 3
  tpv : ∀ b, pv.ownBlock = some b → tag b = 4
  tpg : ∀ i, i < np → tag (pg i) = 5 + i
  tz : ∀ k, Z ≤ k → tag k = 0
  zle : Z ≤ w.heap.size
/-- From w on only blocks with a tag were turned. -/
structure Turn (tag : Nat → Nat) (w w' : World) : Prop where
  os : w'.os = w.os
  tape : w'.tape = w.tape
  output : w'.output = w.output
  size : w.heap.size ≤ w'.heap.size
  block : ∀ k, k < w.heap.size → tag k = 0 → w'.heap[k]? = w.heap[k]?
theorem Turn.refl (tag : Nat → Nat) (w : World) : Turn tag w w := ⟨rfl, rfl, rfl, Nat.le_refl _, fun _ _ _ => rfl⟩
theorem Turn.trans {tag : Nat → Nat} {a b c : World} (h : Turn tag a b) (k : Turn tag b c) : Turn tag a c :=
  ⟨k.os.trans h.os, k.tape.trans h.tape, k.output.trans h.output, Nat.le_trans h.size k.size, fun i hi ht => (k.block i (Nat.lt_of_lt_of_le hi h.size) ht).trans (h.block i hi ht)⟩
theorem Turn.of_grown {tag : Nat → Nat} {w w' : World} {b : Nat} (h : w.grownBy w' (some b)) (ht : tag b ≠ 0) : Turn tag w w' :=
  ⟨h.os, h.tape, h.output, h.size, fun k hk h0 => h.block k hk (by intro e; injection e with e; subst e; exact ht h0)⟩
theorem Turn.of_below {tag : Nat → Nat} {w w' : World} (h : Below w.heap.size w w') : Turn tag w w' :=
  ⟨h.os, h.tape, h.output, h.size, fun k hk _ => h.block k hk⟩
theorem Turn.below {tag : Nat → Nat} {w w' : World} {B : Nat} (h : Turn tag w w') (hB : B ≤ w.heap.size) (ht : ∀ k, k < B → tag k = 0) : Below B w w' :=
  ⟨h.os, h.tape, h.output, h.size, fun k hk => h.block k (by omega) (ht k hk)⟩
section
variable {Z : Nat} {tag : Nat → Nat} {w w' : World} {M so im : Nat} {pv : Value} {pg : Nat → Nat} {np : Nat} {first : Int} {dt : Nat → Nat → Int}
theorem Mem.keep (h : Mem Z tag w M so im pv pg np first dt) (hb : Below w.heap.size w w') : Mem Z tag w' M so im pv pg np first dt := by
  have hg : w.grownBy w' none := gb hb
  have k : ∀ {o v}, w.cell? ⟨M, o, none⟩ = some v → w'.cell? ⟨M, o, none⟩ = some v := fun hc => (grown_cell hg h.mlt (by simp)).trans hc
  obtain ⟨ck, hck⟩ := h.m2
  exact ⟨k h.m0, k h.m1, ⟨ck, k hck⟩, k h.m3, k h.m4, fun j => (grown_frozen hg h.mlt (by simp)).trans (h.mz j), Nat.lt_of_lt_of_le h.mlt hb.size, owns_keep h.ps hb, h.om.kept hg (by simp), h.sm.kept hg (by simp), fun i hi => (h.pgs i hi).kept hg (by simp), h.tM, h.tso, h.tim, h.tpv, h.tpg, h.tz, Nat.le_trans h.zle hb.size⟩
theorem Mem.clock (h : Mem Z tag w M so im pv pg np first dt) (x : Int) : Mem Z tag (w.setCell ⟨M, 2, none⟩ (.int .i64 x)) M so im pv pg np first dt := by
  have hg := grown_set w M 2 (.int .i64 x)
  have ne : ∀ {b t}, tag b = t → t ≠ 1 → some b ≠ some M := fun hb ht e => by injection e with e; subst e; exact ht (hb.symm.trans h.tM)
  obtain ⟨ck, hck⟩ := h.m2
  exact ⟨set_other (by decide) h.m0, set_other (by decide) h.m1, ⟨x, set_same hck⟩, set_other (by decide) h.m3, set_other (by decide) h.m4, fun j => by rw [World.frozen?_setCell]; exact h.mz j, by simpa [World.setCell] using h.mlt, h.ps.kept hg (.inr (by intro e; exact ne (h.tpv _ e) (by decide) rfl)), h.om.kept hg (ne h.tso (by decide)), h.sm.kept hg (ne h.tim (by decide)), fun i hi => (h.pgs i hi).kept hg (ne (h.tpg i hi) (by omega)), h.tM, h.tso, h.tim, h.tpv, h.tpg, h.tz, by simpa [World.setCell] using h.zle⟩
theorem Mem.page (h : Mem Z tag w M so im pv pg np first dt) {i : Nat} (hi : i < np) (hg : w.grownBy w' (some (pg i))) {d : Nat → Int} (hp : Page w' (pg i) d) : Mem Z tag w' M so im pv pg np first (fun k => if k = i then d else dt k) := by
  have ne : ∀ {b t}, tag b = t → t ≠ 5 + i → some b ≠ some (pg i) := fun hb ht e => by injection e with e; subst e; exact ht (hb.symm.trans (h.tpg i hi))
  have neM := ne h.tM (by omega)
  have k : ∀ {o v}, w.cell? ⟨M, o, none⟩ = some v → w'.cell? ⟨M, o, none⟩ = some v := fun hc => (grown_cell hg h.mlt neM).trans hc
  obtain ⟨ck, hck⟩ := h.m2
  refine ⟨k h.m0, k h.m1, ⟨ck, k hck⟩, k h.m3, k h.m4, fun j => (grown_frozen hg h.mlt neM).trans (h.mz j), Nat.lt_of_lt_of_le h.mlt hg.size, h.ps.kept hg (.inr (by intro e; exact ne (h.tpv _ e) (by omega) rfl)), h.om.kept hg (ne h.tso (by omega)), h.sm.kept hg (ne h.tim (by omega)), fun j hj => ?_, h.tM, h.tso, h.tim, h.tpv, h.tpg, h.tz, Nat.le_trans h.zle hg.size⟩
  by_cases e : j = i
  · subst e
    simpa using hp
  · simp only [if_neg e]
    exact (h.pgs j hj).kept hg (ne (h.tpg j hj) (by omega))
end
end Go.Proofs.YtopadiofanaaiaaDoor
