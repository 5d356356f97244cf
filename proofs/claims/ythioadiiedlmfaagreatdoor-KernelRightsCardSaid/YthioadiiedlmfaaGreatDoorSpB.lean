/- The memory of all spaces: what holds of it, and what keeps it. No walk here. The walks of space: here, ask, room, Make, at any memory. -/
import Derived.Test.YthioadiiedlmfaaGreatDoorBegin
import Derived.BigQuiet
import Derived.Deep.RegionHeld3
namespace Go.Proofs.YthioadiiedlmfaaGreatDoor
open Go.RowKit Go.Maps
set_option linter.unusedVariables false
set_option linter.unusedSimpArgs false
/-- a page: its bytes, how many entries name it, whether it is in a frame -/
structure PgAt (w : World) (g : Nat) (d : Nat → Int) (u : Int) (h : Bool) : Prop where
  lt : g < w.heap.size
  dc : ∀ j, j < 16 → w.cell? ⟨g, j, none⟩ = some (.int .u8 (d j))
  us : w.cell? ⟨g, 16, none⟩ = some (.int .i64 u)
  hr : w.cell? ⟨g, 17, none⟩ = some (.bool h)
  ak : ∃ a, w.cell? ⟨g, 18, none⟩ = some (.int .i64 a)
  fz : ∀ j, w.frozen? ⟨g, j, none⟩ = false
  rw : ∃ C, Row w g 341 C
theorem row_set {w : World} {b T i : Nat} {v : Value} (h : ∃ C, Row w b T C) : ∃ C, Row (w.setCell ⟨b, i, none⟩ v) b T C := by
  obtain ⟨C, hC⟩ := h
  exact ⟨_, by rw [hC.setCell]; exact hC.setRow _⟩
section
variable {w w' : World} {g : Nat} {d : Nat → Int} {u : Int} {h : Bool}
theorem PgAt.upd {S : Nat → Prop} (p : PgAt w g d u h) (hu : Upd S w w') (hn : ¬ S g) : PgAt w' g d u h := by
  have k : ∀ {o v}, w.cell? ⟨g, o, none⟩ = some v → w'.cell? ⟨g, o, none⟩ = some v := fun hc => (hu.cell p.lt hn).trans hc
  obtain ⟨a, ha⟩ := p.ak
  exact ⟨Nat.lt_of_lt_of_le p.lt hu.size, fun j hj => k (p.dc j hj), k p.us, k p.hr, ⟨a, k ha⟩, fun j => (hu.frozen p.lt hn).trans (p.fz j), by obtain ⟨C, hC⟩ := p.rw; exact ⟨C, hC.upd hu hn⟩⟩
theorem PgAt.keep (p : PgAt w g d u h) (hb : Below w.heap.size w w') : PgAt w' g d u h := p.upd (S := fun _ => False) (Upd.below hb) (fun e => e)
theorem PgAt.asked (p : PgAt w g d u h) (x : Int) : PgAt (w.setCell ⟨g, 18, none⟩ (.int .i64 x)) g d u h := by
  obtain ⟨a, ha⟩ := p.ak
  exact ⟨by simpa [World.setCell] using p.lt, fun j hj => set_off (by omega) (p.dc j hj), set_off (by omega) p.us, set_off (by omega) p.hr, ⟨x, set_same ha⟩, fun j => by rw [World.frozen?_setCell]; exact p.fz j, row_set p.rw⟩
theorem PgAt.here (p : PgAt w g d u h) (x : Bool) : PgAt (w.setCell ⟨g, 17, none⟩ (.bool x)) g d u x := by
  obtain ⟨a, ha⟩ := p.ak
  exact ⟨by simpa [World.setCell] using p.lt, fun j hj => set_off (by omega) (p.dc j hj), set_off (by omega) p.us, set_same p.hr, ⟨a, set_off (by omega) ha⟩, fun j => by rw [World.frozen?_setCell]; exact p.fz j, row_set p.rw⟩
theorem PgAt.users (p : PgAt w g d u h) (x : Int) : PgAt (w.setCell ⟨g, 16, none⟩ (.int .i64 x)) g d x h := by
  obtain ⟨a, ha⟩ := p.ak
  exact ⟨by simpa [World.setCell] using p.lt, fun j hj => set_off (by omega) (p.dc j hj), set_same p.us, set_off (by omega) p.hr, ⟨a, set_off (by omega) ha⟩, fun j => by rw [World.frozen?_setCell]; exact p.fz j, row_set p.rw⟩
theorem PgAt.byte (p : PgAt w g d u h) {i : Nat} (hi : i < 16) (x : Int) : PgAt (w.setCell ⟨g, i, none⟩ (.int .u8 x)) g (fun j => if j = i then x else d j) u h := by
  obtain ⟨a, ha⟩ := p.ak
  refine ⟨by simpa [World.setCell] using p.lt, fun j hj => ?_, set_off (by omega) p.us, set_off (by omega) p.hr, ⟨a, set_off (by omega) ha⟩, fun j => by rw [World.frozen?_setCell]; exact p.fz j, row_set p.rw⟩
  by_cases hji : j = i
  · subst hji
    rw [set_same (p.dc j hj)]
    simp
  · rw [set_off hji (p.dc j hj)]
    simp [hji]
end
/-- what the memory is: its pages' slice, the pages, the spaces' maps, the entries -/
structure MS where
  pv : Value
  pl : List Nat
  nS : Nat
  S : Int → Option Nat
  nF : Nat → Nat
  F : Nat → Int → Option (Nat × Int)
  d : Nat → Nat → Int
  u : Nat → Int
  h : Nat → Bool
def fup {α : Type} (f : Nat → α) (g : Nat) (x : α) : Nat → α := fun k => if k = g then x else f k
theorem fup_same {α : Type} (f : Nat → α) (g : Nat) (x : α) : fup f g x g = x := if_pos rfl
theorem fup_off {α : Type} (f : Nat → α) {g k : Nat} (x : α) (h : k ≠ g) : fup f g x k = f k := if_neg h
theorem fup_id {α : Type} (f : Nat → α) (g : Nat) (x : α) (h : f g = x) : fup f g x = f := by
  funext k
  unfold fup
  split
  · rename_i e; rw [e, h]
  · rfl
/-- its blocks -/
def mB (M so : Nat) (m : MS) (k : Nat) : Prop := k = M ∨ k = so ∨ m.pv.ownBlock = some k ∨ (∃ s, m.S s = some k) ∨ k ∈ m.pl
def pp (l : List Nat) : List Value := l.map fun g => .pointer (some ⟨g, 0, none⟩)
structure MemG (w : World) (M so : Nat) (fr sl : Int) (m : MS) : Prop where
  m0 : w.cell? ⟨M, 0, none⟩ = some (.int .i64 fr)
  m1 : w.cell? ⟨M, 1, none⟩ = some (.int .i64 sl)
  m2 : ∃ ck, w.cell? ⟨M, 2, none⟩ = some (.int .i64 ck)
  m3 : w.cell? ⟨M, 3, none⟩ = some m.pv
  m4 : w.cell? ⟨M, 4, none⟩ = some (.map (some so))
  mz : ∀ j, w.frozen? ⟨M, j, none⟩ = false
  mlt : M < w.heap.size
  ps : w.ownsRow 0 265 1 m.pv m.pl.length (pp m.pl)
  om : OMap w so m.nS m.S
  im : ∀ s b, m.S s = some b → IMap w b (m.nF b) (m.F b)
  pg : ∀ g, g ∈ m.pl → PgAt w g (m.d g) (m.u g) (m.h g)
  n1 : so ≠ M
  n2 : ∀ b, m.pv.ownBlock = some b → b ≠ M ∧ b ≠ so
  n3 : ∀ s b, m.S s = some b → b ≠ M ∧ b ≠ so ∧ m.pv.ownBlock ≠ some b
  n4 : ∀ g, g ∈ m.pl → g ≠ M ∧ g ≠ so ∧ m.pv.ownBlock ≠ some g ∧ ∀ s, m.S s ≠ some g
  n5 : ∀ s s' b, m.S s = some b → m.S s' = some b → s = s'
  nd : m.pl.Nodup
section
variable {w w' : World} {M so g : Nat} {fr sl : Int} {m : MS}
theorem OMap.upd {S : Nat → Prop} {b n : Nat} {f : Int → Option Nat} (h : OMap w b n f) (hu : Upd S w w') (hn : ¬ S b) : OMap w' b n f := by
  obtain ⟨D, hD, hm, hf⟩ := h
  obtain ⟨es, ck, hb, hrest⟩ := hD
  exact ⟨D, ⟨es, ck, (hu.block b (Array.getElem?_eq_some_iff.1 hb).1 hn).trans hb, hrest⟩, hm, hf⟩
theorem IMap.upd {S : Nat → Prop} {b n : Nat} {f : Int → Option (Nat × Int)} (h : IMap w b n f) (hu : Upd S w w') (hn : ¬ S b) : IMap w' b n f := by
  obtain ⟨D, hD, hm, hf⟩ := h
  obtain ⟨es, ck, hb, hrest⟩ := hD
  exact ⟨D, ⟨es, ck, (hu.block b (Array.getElem?_eq_some_iff.1 hb).1 hn).trans hb, hrest⟩, hm, hf⟩
theorem ob_ne {v : Value} {g k : Nat} (h : v.ownBlock ≠ some k) (e : v.ownBlock = some g) : g ≠ k := fun q => h (by rw [e, q])
/-- the struct's cells, behind what leaves the struct alone -/
theorem MemG.upd {S : Nat → Prop} (h : MemG w M so fr sl m) (hu : Upd S w w') (hn : ∀ k, mB M so m k → ¬ S k) : MemG w' M so fr sl m := by
  have hM := hn M (.inl rfl)
  have k : ∀ {o v}, w.cell? ⟨M, o, none⟩ = some v → w'.cell? ⟨M, o, none⟩ = some v := fun hc => (hu.cell h.mlt hM).trans hc
  obtain ⟨ck, hck⟩ := h.m2
  exact ⟨k h.m0, k h.m1, ⟨ck, k hck⟩, k h.m3, k h.m4, fun j => (hu.frozen h.mlt hM).trans (h.mz j), Nat.lt_of_lt_of_le h.mlt hu.size, hu.owns h.ps (fun g hg => hn g (.inr (.inr (.inl hg)))), h.om.upd hu (hn so (.inr (.inl rfl))), fun s b hs => (h.im s b hs).upd hu (hn b (.inr (.inr (.inr (.inl ⟨s, hs⟩))))), fun g hg => (h.pg g hg).upd hu (hn g (.inr (.inr (.inr (.inr hg))))), h.n1, h.n2, h.n3, h.n4, h.n5, h.nd⟩
theorem MemG.keep (h : MemG w M so fr sl m) (hb : Below w.heap.size w w') : MemG w' M so fr sl m := h.upd (S := fun _ => False) (Upd.below hb) (fun _ _ e => e)
theorem MemG.drew (h : MemG w M so fr sl m) : MemG w.drew M so fr sl m := h.keep (Below.refl _ _).drew
theorem MemG.lt (h : MemG w M so fr sl m) {k : Nat} (hk : mB M so m k) : k < w.heap.size := by
  rcases hk with rfl | rfl | e | ⟨s, hs⟩ | hg
  · exact h.mlt
  · obtain ⟨D, ⟨es, ck, hb, _⟩, _⟩ := h.om; exact (Array.getElem?_eq_some_iff.1 hb).1
  · exact (h.ps.lt k e).2
  · obtain ⟨D, ⟨es, ck, hb, _⟩, _⟩ := h.im s k hs; exact (Array.getElem?_eq_some_iff.1 hb).1
  · exact (h.pg k hg).lt
/-- the clock -/
theorem MemG.clock (h : MemG w M so fr sl m) (x : Int) : MemG (w.setCell ⟨M, 2, none⟩ (.int .i64 x)) M so fr sl m := by
  have hu : Upd (fun k => k = M) w (w.setCell ⟨M, 2, none⟩ (.int .i64 x)) := Upd.set w _ rfl
  obtain ⟨ck, hck⟩ := h.m2
  exact ⟨set_off (by decide) h.m0, set_off (by decide) h.m1, ⟨x, set_same hck⟩, set_off (by decide) h.m3, set_off (by decide) h.m4, fun j => by rw [World.frozen?_setCell]; exact h.mz j, by simpa [World.setCell] using h.mlt, hu.owns h.ps (fun g hg => (h.n2 g hg).1), h.om.upd hu h.n1, fun s b hs => (h.im s b hs).upd hu (h.n3 s b hs).1, fun g hg => (h.pg g hg).upd hu (h.n4 g hg).1, h.n1, h.n2, h.n3, h.n4, h.n5, h.nd⟩
/-- a page is turned -/
theorem MemG.page (h : MemG w M so fr sl m) (hg : g ∈ m.pl) (hu : Upd (fun k => k = g) w w') {d : Nat → Int} {u : Int} {q : Bool} (hp : PgAt w' g d u q) : MemG w' M so fr sl { m with d := fup m.d g d, u := fup m.u g u, h := fup m.h g q } := by
  obtain ⟨e1, e2, e3, e4⟩ := h.n4 g hg
  have hM : ¬ M = g := fun e => e1 e.symm
  have k : ∀ {o v}, w.cell? ⟨M, o, none⟩ = some v → w'.cell? ⟨M, o, none⟩ = some v := fun hc => (hu.cell h.mlt hM).trans hc
  obtain ⟨ck, hck⟩ := h.m2
  refine ⟨k h.m0, k h.m1, ⟨ck, k hck⟩, k h.m3, k h.m4, fun j => (hu.frozen h.mlt hM).trans (h.mz j), Nat.lt_of_lt_of_le h.mlt hu.size, hu.owns h.ps (fun b hb e => ob_ne e3 hb e), h.om.upd hu (fun e => e2 e.symm), fun s b hs => (h.im s b hs).upd hu (fun e => e4 s (by rw [hs, e])), fun j hj => ?_, h.n1, h.n2, h.n3, h.n4, h.n5, h.nd⟩
  by_cases e : j = g
  · subst e
    simp only [fup_same]
    exact hp
  · simp only [fup_off _ _ e]
    exact (h.pg j hj).upd hu e
/-- a space's map is put anew -/
theorem MemG.space (h : MemG w M so fr sl m) {s : Int} {b n : Nat} {f : Int → Option (Nat × Int)} (hs : m.S s = some b) (hu : Upd (fun k => k = b) w w') (hi : IMap w' b n f) : MemG w' M so fr sl { m with nF := fup m.nF b n, F := fup m.F b f } := by
  obtain ⟨e1, e2, e3⟩ := h.n3 s b hs
  have hM : ¬ M = b := fun e => e1 e.symm
  have k : ∀ {o v}, w.cell? ⟨M, o, none⟩ = some v → w'.cell? ⟨M, o, none⟩ = some v := fun hc => (hu.cell h.mlt hM).trans hc
  obtain ⟨ck, hck⟩ := h.m2
  refine ⟨k h.m0, k h.m1, ⟨ck, k hck⟩, k h.m3, k h.m4, fun j => (hu.frozen h.mlt hM).trans (h.mz j), Nat.lt_of_lt_of_le h.mlt hu.size, hu.owns h.ps (fun g hg e => ob_ne e3 hg e), h.om.upd hu (fun e => e2 e.symm), fun s' b' hs' => ?_, fun j hj => (h.pg j hj).upd hu (fun e => (h.n4 j hj).2.2.2 s (by rw [hs, e])), h.n1, h.n2, h.n3, h.n4, h.n5, h.nd⟩
  by_cases e : b' = b
  · subst e
    simp only [fup_same]
    exact hi
  · simp only [fup_off _ _ e]
    exact (h.im s' b' hs').upd hu e
/-- the spaces' map is put anew: spaces go, or come with maps of their own -/
theorem MemG.outer (h : MemG w M so fr sl m) {n : Nat} {S' : Int → Option Nat} (hu : Upd (fun k => k = so) w w') (ho : OMap w' so n S') (hS : ∀ s b, S' s = some b → m.S s = some b) : MemG w' M so fr sl { m with nS := n, S := S' } := by
  have hM : ¬ M = so := fun e => h.n1 e.symm
  have k : ∀ {o v}, w.cell? ⟨M, o, none⟩ = some v → w'.cell? ⟨M, o, none⟩ = some v := fun hc => (hu.cell h.mlt hM).trans hc
  obtain ⟨ck, hck⟩ := h.m2
  exact ⟨k h.m0, k h.m1, ⟨ck, k hck⟩, k h.m3, k h.m4, fun j => (hu.frozen h.mlt hM).trans (h.mz j), Nat.lt_of_lt_of_le h.mlt hu.size, hu.owns h.ps (fun g hg => (h.n2 g hg).2), ho, fun s b hs => (h.im s b (hS s b hs)).upd hu (h.n3 s b (hS s b hs)).2.1, fun g hg => (h.pg g hg).upd hu (h.n4 g hg).2.1, h.n1, h.n2, fun s b hs => h.n3 s b (hS s b hs), fun g hg => ⟨(h.n4 g hg).1, (h.n4 g hg).2.1, (h.n4 g hg).2.2.1, fun s e => (h.n4 g hg).2.2.2 s (hS s g e)⟩, fun s s' b h1 h2 => h.n5 s s' b (hS s b h1) (hS s' b h2), h.nd⟩
/-- a space comes -/
theorem MemG.born (h : MemG w M so fr sl m) {s : Int} {b n c : Nat} {f : Int → Option (Nat × Int)} (h0 : m.S s = none) (hb : w.heap.size ≤ b) (hu : Upd (fun k => k = so) w w') (ho : OMap w' so n (fun k => if k = s then some b else m.S k)) (hi : IMap w' b c f) : MemG w' M so fr sl { m with nS := n, S := fun k => if k = s then some b else m.S k, nF := fup m.nF b c, F := fup m.F b f } := by
  have hM : ¬ M = so := fun e => h.n1 e.symm
  have k : ∀ {o v}, w.cell? ⟨M, o, none⟩ = some v → w'.cell? ⟨M, o, none⟩ = some v := fun hc => (hu.cell h.mlt hM).trans hc
  obtain ⟨ck, hck⟩ := h.m2
  have new : ∀ {j}, mB M so m j → j ≠ b := fun hj e => by have := h.lt hj; omega
  have at' : ∀ {s' b'}, (if s' = s then some b else m.S s') = some b' → (s' = s ∧ b' = b) ∨ (s' ≠ s ∧ m.S s' = some b' ∧ b' ≠ b) := fun {s' b'} e => by
    split at e
    · rename_i e'; injection e with e; exact .inl ⟨e', e.symm⟩
    · rename_i e'; exact .inr ⟨e', e, new (.inr (.inr (.inr (.inl ⟨s', e⟩))))⟩
  refine ⟨k h.m0, k h.m1, ⟨ck, k hck⟩, k h.m3, k h.m4, fun j => (hu.frozen h.mlt hM).trans (h.mz j), Nat.lt_of_lt_of_le h.mlt hu.size, hu.owns h.ps (fun g hg => (h.n2 g hg).2), ho, fun s' b' hs => ?_, fun g hg => (h.pg g hg).upd hu (h.n4 g hg).2.1, h.n1, h.n2, fun s' b' hs => ?_, fun g hg => ⟨(h.n4 g hg).1, (h.n4 g hg).2.1, (h.n4 g hg).2.2.1, fun s' e => ?_⟩, fun s1 s2 b' h1 h2 => ?_, h.nd⟩
  · rcases at' hs with ⟨-, rfl⟩ | ⟨-, q, e⟩
    · simp only [fup_same]; exact hi
    · simp only [fup_off _ _ e]; exact (h.im s' b' q).upd hu (h.n3 s' b' q).2.1
  · rcases at' hs with ⟨-, rfl⟩ | ⟨-, q, e⟩
    · exact ⟨fun e => new (.inl rfl) e.symm, fun e => new (.inr (.inl rfl)) e.symm, fun e => new (.inr (.inr (.inl e))) rfl⟩
    · exact h.n3 s' b' q
  · rcases at' e with ⟨-, q⟩ | ⟨-, q, _⟩
    · exact new (.inr (.inr (.inr (.inr hg)))) q
    · exact (h.n4 g hg).2.2.2 s' q
  · rcases at' h1 with ⟨q1, p1⟩ | ⟨q1, p1, r1⟩ <;> rcases at' h2 with ⟨q2, p2⟩ | ⟨q2, p2, r2⟩
    · rw [q1, q2]
    · exact absurd p1 r2
    · exact absurd p2 r1
    · exact h.n5 s1 s2 b' p1 p2
/-- the pages' slice is another one: the same pages, or one more, or fewer -/
theorem MemG.pages (h : MemG w M so fr sl m) {S : Nat → Prop} {w1 : World} {v : Value} {pl' : List Nat} (hu : Upd S w w1) (hS : ∀ k, S k → m.pv.ownBlock = some k) (ho : w1.ownsRow 0 265 1 v pl'.length (pp pl')) (hv : v.ownBlock = m.pv.ownBlock ∨ ∃ b, w.heap.size ≤ b ∧ v.ownBlock = some b) (hpl : ∀ g, g ∈ pl' → g ∈ m.pl ∨ (w.heap.size ≤ g ∧ v.ownBlock ≠ some g ∧ PgAt w1 g (m.d g) (m.u g) (m.h g))) (hnd : pl'.Nodup) :
    MemG (w1.setCell ⟨M, 3, none⟩ v) M so fr sl { m with pv := v, pl := pl' } := by
  have hSM : ¬ S M := fun q => (h.n2 M (hS M q)).1 rfl
  have hSo : ¬ S so := fun q => (h.n2 so (hS so q)).2 rfl
  have hSs : ∀ s b, m.S s = some b → ¬ S b := fun s b hs q => (h.n3 s b hs).2.2 (hS b q)
  have hSp : ∀ g, g ∈ m.pl → ¬ S g := fun g hg q => (h.n4 g hg).2.2.1 (hS g q)
  have k : ∀ {o v}, w.cell? ⟨M, o, none⟩ = some v → w1.cell? ⟨M, o, none⟩ = some v := fun hc => (hu.cell h.mlt hSM).trans hc
  have hu2 : Upd (fun k => k = M) w1 (w1.setCell ⟨M, 3, none⟩ v) := Upd.set w1 _ rfl
  have nv : ∀ {j}, mB M so m j → m.pv.ownBlock ≠ some j → v.ownBlock ≠ some j := fun {j} hj hne e => by
    rcases hv with q | ⟨b, q1, q2⟩
    · exact hne (q ▸ e)
    · rw [q2] at e; injection e with e; have := h.lt hj; omega
  have vM : v.ownBlock ≠ some M := nv (.inl rfl) (fun e => (h.n2 M e).1 rfl)
  have vso : v.ownBlock ≠ some so := nv (.inr (.inl rfl)) (fun e => (h.n2 so e).2 rfl)
  obtain ⟨ck, hck⟩ := h.m2
  have new : ∀ {g : Nat}, w.heap.size ≤ g → ∀ {j : Nat}, mB M so m j → g ≠ j := fun {g} hg {j} hj e => by have := h.lt hj; omega
  refine ⟨set_off (by decide) (k h.m0), set_off (by decide) (k h.m1), ⟨ck, set_off (by decide) (k hck)⟩, set_same (k h.m3), set_off (by decide) (k h.m4), fun j => by rw [World.frozen?_setCell]; exact (hu.frozen h.mlt hSM).trans (h.mz j), ?_, hu2.owns ho (fun g hg e => vM (by rw [hg, e])), (h.om.upd hu hSo).upd hu2 h.n1, fun s b hs => ((h.im s b hs).upd hu (hSs s b hs)).upd hu2 (h.n3 s b hs).1, fun g hg => ?_, h.n1, fun b hb => ⟨fun e => vM (by rw [hb, e]), fun e => vso (by rw [hb, e])⟩, fun s b hs => ⟨(h.n3 s b hs).1, (h.n3 s b hs).2.1, nv (.inr (.inr (.inr (.inl ⟨s, hs⟩)))) (h.n3 s b hs).2.2⟩, fun g hg => ?_, h.n5, hnd⟩
  · have := hu.size; have := h.mlt; simp [World.setCell]; omega
  · rcases hpl g hg with q | ⟨q1, q2, q3⟩
    · exact ((h.pg g q).upd hu (hSp g q)).upd hu2 (h.n4 g q).1
    · exact q3.upd hu2 (new q1 (.inl rfl))
  · rcases hpl g hg with q | ⟨q1, q2, q3⟩
    · exact ⟨(h.n4 g q).1, (h.n4 g q).2.1, nv (.inr (.inr (.inr (.inr q)))) (h.n4 g q).2.2.1, (h.n4 g q).2.2.2⟩
    · exact ⟨new q1 (.inl rfl), new q1 (.inr (.inl rfl)), q2, fun s e => new q1 (.inr (.inr (.inr (.inl ⟨s, e⟩)))) rfl⟩
end
end Go.Proofs.YthioadiiedlmfaaGreatDoor
namespace Go.Proofs.YthioadiiedlmfaaGreatDoor
open Go.RowKit Go.Maps
set_option linter.unusedVariables false
set_option linter.unusedSimpArgs false
theorem pp_get {l : List Nat} {i g : Nat} (h : l[i]? = some g) : (pp l)[i]? = some (.pointer (some ⟨g, 0, none⟩)) := by simp [pp, h]
theorem own_form1 {w : World} {B e n : Nat} {v : Value} {l : List Value} (h : w.ownsRow B e 1 v n l) : ∃ p cap, v = .slice p n cap ∧ n ≤ cap ∧ cap ≤ maxLen := by
  rcases h.2 with ⟨rfl, hn⟩ | ⟨g, cap', cur, rfl, _, _, h1, h2, _⟩
  · exact ⟨none, 0, by rw [hn], by omega, by unfold maxLen; omega⟩
  · exact ⟨_, cap', rfl, h1, h2⟩
theorem countP_take (l : List Nat) (h : Nat → Bool) {k g : Nat} (hg : l[k]? = some g) : (l.take (k + 1)).countP h = (l.take k).countP h + (if h g then 1 else 0) := by
  have hk := (List.getElem?_eq_some_iff.1 hg).1
  rw [List.take_add_one, hg]
  simp
section
variable {w w' : World} {M so g : Nat} {fr sl : Int} {m : MS}
theorem MemG.cells (h : MemG w M so fr sl m) : ∃ p cap, m.pv = .slice p m.pl.length cap ∧ m.pl.length ≤ cap ∧ cap ≤ maxLen ∧ ∀ i g, m.pl[i]? = some g → ∃ b, p = some ⟨b, 0, none⟩ ∧ w.cell? ⟨b, i, none⟩ = some (.pointer (some ⟨g, 0, none⟩)) := by
  obtain ⟨p, cap, e, h1, h2⟩ := own_form1 h.ps
  refine ⟨p, cap, e, h1, h2, fun i g hi => ?_⟩
  have hps := h.ps
  rw [e] at hps
  obtain ⟨b, rfl, -, -, -, -⟩ := own_block hps (by have := (List.getElem?_eq_some_iff.1 hi).1; omega)
  refine ⟨b, rfl, ?_⟩
  have := hps.cells (g := b) rfl i _ (pp_get hi)
  rw [Addr.add_lit, Nat.zero_add] at this
  exact this
set_option maxRecDepth 100000 in
set_option maxHeartbeats 400000 in
theorem hereG_is (h : MemG w M so fr sl m) : Calls Tryz.prog 305 #[.pointer (some ⟨M, 0, none⟩)] w fun e w' => e = .returned (.int .i64 (m.pl.countP m.h : Nat)) ∧ w = w' := by
  obtain ⟨p, cap, hpv, hlc, hcm, hcell⟩ := h.cells
  have m3 := h.m3
  rw [hpv] at m3
  have HC := Lib.hid hcell
  have HP := Lib.hid h.pg
  have hmx : (m.pl.length : Int) ≤ 9223372036854775807 := by unfold maxLen at hcm; omega
  obtain ⟨n, hn⟩ : ∃ n, n = m.pl.length := ⟨_, rfl⟩
  rw [← hn] at m3 hmx
  have HN := Lib.hid hn
  clear h hpv hlc hcm hcell hn
  go_enter Tryz.func305, Tryz.ntmps305
  go_wp2_with fail
  go_loop [3, 11] (fun nv kv => ∃ k : Nat, k ≤ n ∧ kv = .int .i64 k ∧ nv = .int .i64 ((m.pl.take k).countP m.h : Nat)) (fun _ kv => n - (intOf kv).toNat)
  case atStart => exact ⟨0, Nat.zero_le _, rfl, by simp⟩
  case round =>
    obtain ⟨k, hk0, rfl, rfl⟩ := hrel
    by_cases hk : k < n
    · have i1 : (k : Int) < n := by omega
      obtain ⟨g, hg⟩ : ∃ g, m.pl[k]? = some g := ⟨m.pl[k]'(by have := HN.out; omega), List.getElem?_eq_getElem _⟩
      obtain ⟨b, rfl, e0⟩ := HC.out k g hg
      have e1 := (HP.out g (List.mem_of_getElem? hg)).hr
      have HCT := Lib.hid (countP_take m.pl m.h hg)
      obtain ⟨q, hq⟩ : ∃ q, q = (m.pl.take k).countP m.h := ⟨_, rfl⟩
      have hqk : q ≤ k := by rw [hq]; exact Nat.le_trans List.countP_le_length (by rw [List.length_take]; omega)
      rw [← hq] at HCT ⊢
      have y5 : IntKind.i64.wrap ((q : Int) + 1) = q + 1 := IntWalk.i64_in _ (by omega)
      clear hg hq
      cases hh : m.h g
      · rw [hh] at e1 HCT
        go_wp2_with fail
        go_round
        case rel => exact ⟨k + 1, by omega, by go_num, by rw [HCT.out]; simp⟩
        case measure => simp [intOf]; omega
      · rw [hh] at e1 HCT
        go_wp2_with fail
        go_round
        case rel => exact ⟨k + 1, by omega, by go_num, by rw [HCT.out]; go_num⟩
        case measure => simp [intOf]; omega
    · obtain rfl : k = n := by omega
      go_wp2_with fail
      go_ret
      exact ⟨ret_int (by rw [List.take_of_length_le (by rw [← HN.out]; omega)]), rfl⟩
set_option maxRecDepth 100000 in
set_option maxHeartbeats 400000 in
theorem roomG_is (h : MemG w M so fr sl m) (n : Int) (h0 : -1000 ≤ n) (hf : 0 ≤ fr ∧ fr ≤ 1000) (hs : 0 ≤ sl ∧ sl ≤ 1000) (hl : m.pl.length ≤ 100000) : Calls Tryz.prog 182 #[.pointer (some ⟨M, 0, none⟩), .int .i64 n] w fun e w' => e = .returned (.bool (decide (n ≤ fr + sl - m.pl.length))) ∧ Below w.heap.size w w' := by
  obtain ⟨p, cap, hpv, hlc, hcm, -⟩ := h.cells
  have m0 := h.m0
  have m1 := h.m1
  have m3 := h.m3
  rw [hpv] at m3
  have y0 : IntKind.i64.wrap (fr + sl) = fr + sl := IntWalk.i64_in _ (by omega)
  have y1 : IntKind.i64.wrap (fr + sl - (m.pl.length : Int)) = fr + sl - m.pl.length := IntWalk.i64_in _ (by omega)
  generalize m.pl.length = k at *
  clear h hpv hlc hcm
  go_enter Tryz.func182, Tryz.ntmps182
  go_wp2_with fail
  go_quiet (fail)
  go_wp2_with fail
  go_ret
  exact ⟨rfl, below_drewN (Below.refl _ _) _⟩
theorem MS.askd (m : MS) (g : Nat) : { m with d := fup m.d g (m.d g), u := fup m.u g (m.u g), h := fup m.h g (m.h g) } = m := by
  cases m
  simp only [fup_id _ _ _ rfl]
theorem MS.askd2 (m : MS) (g : Nat) : { m with d := fup m.d g (m.d g), u := fup m.u g (m.u g), h := fup m.h g true } = { m with h := fup m.h g true } := by
  cases m
  simp only [fup_id _ _ _ rfl]
set_option maxRecDepth 100000 in
set_option maxHeartbeats 400000 in
theorem askG_is (h : MemG w M so fr sl m) (hg : g ∈ m.pl) (hh : m.h g = true ∨ (m.pl.countP m.h : Int) < fr) : Calls Tryz.prog 252 #[.pointer (some ⟨M, 0, none⟩), .pointer (some ⟨g, 0, none⟩)] w fun e w' => e = .returned (.tuple #[]) ∧ MemG w' M so fr sl { m with h := fup m.h g true } ∧ Upd (fun k => k = M ∨ k = g) w w' := by
  obtain ⟨ck, c2⟩ := h.m2
  have hz := h.mz
  have hp := h.pg g hg
  obtain ⟨ak, q18⟩ := hp.ak
  have q17 := hp.hr
  have hpz := hp.fz
  have hne : M ≠ g := fun e => (h.n4 g hg).1 e.symm
  have hne' : g ≠ M := (h.n4 g hg).1
  have r17 : ∀ x, (w.setCell ⟨M, 2, none⟩ x).cell? ⟨g, 17, none⟩ = some (.bool (m.h g)) := fun x => set_blk hne' q17
  have r18 : ∀ x, (w.setCell ⟨M, 2, none⟩ x).cell? ⟨g, 18, none⟩ = some (.int .i64 ak) := fun x => set_blk hne' q18
  have rz : ∀ x j, (w.setCell ⟨M, 2, none⟩ x).frozen? ⟨g, j, none⟩ = false := fun x j => by rw [World.frozen?_setCell]; exact hpz j
  have HR := Lib.hid (fun x y => (h.clock x).page (w' := (w.setCell ⟨M, 2, none⟩ (.int .i64 x)).setCell ⟨g, 18, none⟩ (.int .i64 y)) hg (Upd.set _ _ rfl) (((h.clock x).pg g hg).asked y))
  have HT := Lib.hid (fun x y => (Upd.set w (b := M) (i := 2) (.int .i64 x) (S := fun k => k = M ∨ k = g) (.inl rfl)).trans (Upd.set (w.setCell ⟨M, 2, none⟩ (.int .i64 x)) (b := g) (i := 18) (.int .i64 y) (S := fun k => k = M ∨ k = g) (.inr rfl)))
  have HG := Lib.hid hg
  have HHH := Lib.hid hh
  clear h hp hg hh
  cases hb : m.h g
  · have hlt : (m.pl.countP m.h : Int) < fr := by rcases HHH.out with q | q; rw [hb] at q; cases q; exact q
    rw [hb] at q17 r17
    go_enter Tryz.func252, Tryz.ntmps252
    go_upto_region 3 with fail
    have hm := HR.out (wrap64 (ck + 1)) (wrap64 (ck + 1))
    rw [MS.askd] at hm
    have HU := Lib.hid (HT.out (wrap64 (ck + 1)) (wrap64 (ck + 1)))
    generalize (w.setCell ⟨M, 2, none⟩ (.int .i64 (wrap64 (ck + 1)))).setCell ⟨g, 18, none⟩ (.int .i64 (wrap64 (ck + 1))) = w2 at *
    have c0 := hm.m0
    have HHE : Hid (∀ k, Calls Tryz.prog 305 #[.pointer (some ⟨M, 0, none⟩)] (w2.drewN k) fun e w' => e = .returned (.int .i64 (m.pl.countP m.h : Nat)) ∧ w' = w2.drewN k) := Lib.hid (fun k => (hereG_is (hm.keep (below_drewN (Below.refl _ _) k))).mono (fun e w' ⟨h1, h2⟩ => ⟨h1, h2.symm⟩))
    have HM := Lib.hid hm
    have hp2 := hm.pg g HG.out
    have c17 := hp2.hr
    rw [hb] at c17
    have f17 := hp2.fz 17
    have HF : Hid (∀ nq, MemG ((w2.drewN nq).setCell ⟨g, 17, none⟩ (.bool true)) M so fr sl { m with h := fup m.h g true }) := Lib.hid (fun nq => by
      have h1 := hm.keep (w' := w2.drewN nq) (below_drewN (Below.refl _ _) nq)
      have h2 := h1.page (w' := (w2.drewN nq).setCell ⟨g, 17, none⟩ (.bool true)) HG.out (Upd.set _ _ rfl) ((h1.pg g HG.out).here true)
      rwa [MS.askd2] at h2)
    have hnq : ((m.pl.countP m.h : Int) == fr) = false := by simp; omega
    clear hm r17 r18 rz c2 hz q18 q17 hpz hp2 hlt HR HT HHH
    generalize (m.pl.countP m.h) = cn at *
    go_quiet (first | (go_at_call 305; refine Calls.quiet_of_same (HHE.out _)))
    go_wp2_with fail
    (try simp only [Exit.inBlock, Exit.then]); first | (refine bodyPost_ret (results_none rfl _ _ _) rfl ?_) | (refine bodyPost_end (results_none rfl _ _ _) rfl ?_)
    exact ⟨rfl, HF.out _, (HU.out.trans (Upd.drewN _ _)).trans (Upd.set _ _ (.inr rfl))⟩
  · rw [hb] at q17 r17
    have HE : Hid ({ m with h := fup m.h g true } = m) := Lib.hid (by rw [fup_id _ _ _ hb])
    go_enter Tryz.func252, Tryz.ntmps252
    go_wp2_with fail
    (try simp only [Exit.inBlock, Exit.then]); first | (refine bodyPost_ret (results_none rfl _ _ _) rfl ?_) | (refine bodyPost_end (results_none rfl _ _ _) rfl ?_)
    refine ⟨rfl, ?_, HT.out _ _⟩
    rw [HE.out]
    have hm := HR.out (wrap64 (ck + 1)) (wrap64 (ck + 1))
    rwa [MS.askd] at hm
theorem map_no_nil (w : World) (b : Nat) : (binOp .eql 180 (.map (some b)) (.map none)).run Tryz.prog w = .ok (.bool false) w := by kernel_rfl
/-- the state with a space that is new -/
def MS.made (m : MS) (s : Int) (b : Nat) : MS := { m with nS := m.nS + 1, S := fun k => if k = s then some b else m.S k, nF := fup m.nF b 0, F := fup m.F b (fun _ => none) }
set_option maxRecDepth 100000 in
set_option maxHeartbeats 400000 in
theorem makeG_is (h : MemG w M so fr sl m) {s : Nat} (h1 : 1 ≤ s) (h16 : s ≤ 16) (h0 : m.S s = none) (hb : ∀ j : Nat, 1 ≤ j → j < s → ∃ b, m.S j = some b) (hn : m.nS < 1000000) : Calls Tryz.prog 30 #[.pointer (some ⟨M, 0, none⟩)] w fun e w' => e = .returned (.tuple #[.int .i64 s, .int .i64 0]) ∧ MemG w' M so fr sl (m.made s w.heap.size) ∧ Upd (fun k => k = so) w w' := by
  have hmm := @run_makeMap Tryz.prog
  have m4 := h.m4
  have HH := Lib.hid h
  have HB := Lib.hid hb
  have H0 := Lib.hid (And.intro h0 hn)
  have hs16 : (s : Int) ≤ 16 := by omega
  clear h hb h0 hn
  go_enter Tryz.func30, Tryz.ntmps30
  go_wp2_with fail
  go_loop [4] (fun kv => ∃ k : Nat, 1 ≤ k ∧ k ≤ s ∧ kv = .int .i64 k) (fun kv => 17 - (intOf kv).toNat)
  case atStart => exact ⟨1, by omega, h1, rfl⟩
  case round =>
    obtain ⟨k, k1, k2, rfl⟩ := hrel
    have i0 : (k : Int) ≤ 16 := by omega
    by_cases hk : k < s
    · obtain ⟨b, hb⟩ := HB.out k k1 hk
      have l1 := HH.out.om.look (k := k) (WalkArith.wf_i64 (by omega))
      rw [hb] at l1
      change _ = Result.ok (Value.map (some b)) w at l1
      have l2 := map_no_nil w b
      clear hb
      go_wp2_with fail
      go_round
      case rel => exact ⟨k + 1, by omega, by omega, by go_num⟩
      case measure => simp [intOf]; omega
    · obtain rfl : k = s := by omega
      have l1 := HH.out.om.look (k := k) (WalkArith.wf_i64 (by omega))
      rw [H0.out.1] at l1
      change _ = Result.ok (Value.map none) w at l1
      have l2 := map_is_nil w
      have hg0 := World.grownBy_alloc w (.map #[] 0) none
      have hso : so < w.heap.size := HH.out.lt (.inr (.inl rfl))
      obtain ⟨w2, hup, om2, hg2⟩ := (HH.out.om.kept hg0 (by simp)).put (k := k) (WalkArith.wf_i64 (by omega)) (by have := H0.out.2; unfold maxLen; omega) w.heap.size
      have hup : (Instr.mapUpdate 176 (.map (some so)) (.int .i64 k) (.map (some w.heap.size))).run Tryz.prog (w.alloc (.map #[] 0)) = .ok () w2 := hup
      have HI := Lib.hid ((IMap.made w).kept hg2 (by intro e; injection e with e; omega))
      have HG := Lib.hid (show w.grownBy w2 (some so) from grown_trans (World.grownBy_alloc w (.map #[] 0) (some so)) hg2)
      have HO := Lib.hid om2
      clear om2 hg2 hg0 hso
      go_wp2_with fail
      go_ret2
      exact ⟨rfl, HH.out.born H0.out.1 (Nat.le_refl _) (Upd.grown HG.out rfl) HO.out HI.out, Upd.grown HG.out rfl⟩
end
end Go.Proofs.YthioadiiedlmfaaGreatDoor
