/- The memory of all spaces: what holds of it, and what keeps it. No walk here. -/
import Derived.Test.YtnmlapiekfkbaaaGreatDoorBegin
namespace Go.Proofs.YtnmlapiekfkbaaaGreatDoor
open Go.RowKit Go.Maps
set_option linter.unusedVariables false
set_option linter.unusedSimpArgs false
/-- a page: its bytes, how many entries name it, whether it is in a frame -/
structure PgAt (w : World) (g : Nat) (d : Nat → Int) (u : Int) (h : Bool) : Prop where
  lt : g < w.heap.size
  dc : ∀ j, j < 16 → w.cell? ⟨g, j, none⟩ = some (.int .u8 (d j))
  us : w.cell? ⟨g, 16, none⟩ = some (.int .i64 u)
  hr : w.cell? ⟨g, 17, none⟩ = some (.bool h)
  ak : ∃ a, w.cell? ⟨g, 18, none⟩ = some (.int .i64 a)
  fz : ∀ j, w.frozen? ⟨g, j, none⟩ = false
  rw : ∃ C, Row w g 324 C
theorem row_set {w : World} {b T i : Nat} {v : Value} (h : ∃ C, Row w b T C) : ∃ C, Row (w.setCell ⟨b, i, none⟩ v) b T C := by
  obtain ⟨C, hC⟩ := h
  exact ⟨_, by rw [hC.setCell]; exact hC.setRow _⟩
section
variable {w w' : World} {g : Nat} {d : Nat → Int} {u : Int} {h : Bool}
theorem PgAt.upd {S : Nat → Prop} (p : PgAt w g d u h) (hu : Upd S w w') (hn : ¬ S g) : PgAt w' g d u h := by
  have k : ∀ {o v}, w.cell? ⟨g, o, none⟩ = some v → w'.cell? ⟨g, o, none⟩ = some v := fun hc => (hu.cell p.lt hn).trans hc
  obtain ⟨a, ha⟩ := p.ak
  exact ⟨Nat.lt_of_lt_of_le p.lt hu.size, fun j hj => k (p.dc j hj), k p.us, k p.hr, ⟨a, k ha⟩, fun j => (hu.frozen p.lt hn).trans (p.fz j), by obtain ⟨C, hC⟩ := p.rw; exact ⟨C, hC.upd hu hn⟩⟩
theorem PgAt.keep (p : PgAt w g d u h) (hb : Below w.heap.size w w') : PgAt w' g d u h := p.upd (S := fun _ => False) (Upd.below hb) (fun e => e)
theorem PgAt.asked (p : PgAt w g d u h) (x : Int) : PgAt (w.setCell ⟨g, 18, none⟩ (.int .i64 x)) g d u h := by
  obtain ⟨a, ha⟩ := p.ak
  exact ⟨by simpa [World.setCell] using p.lt, fun j hj => set_off (by omega) (p.dc j hj), set_off (by omega) p.us, set_off (by omega) p.hr, ⟨x, set_same ha⟩, fun j => by rw [World.frozen?_setCell]; exact p.fz j, row_set p.rw⟩
theorem PgAt.here (p : PgAt w g d u h) (x : Bool) : PgAt (w.setCell ⟨g, 17, none⟩ (.bool x)) g d u x := by
  obtain ⟨a, ha⟩ := p.ak
  exact ⟨by simpa [World.setCell] using p.lt, fun j hj => set_off (by omega) (p.dc j hj), set_off (by omega) p.us, set_same p.hr, ⟨a, set_off (by omega) ha⟩, fun j => by rw [World.frozen?_setCell]; exact p.fz j, row_set p.rw⟩
theorem PgAt.users (p : PgAt w g d u h) (x : Int) : PgAt (w.setCell ⟨g, 16, none⟩ (.int .i64 x)) g d x h := by
  obtain ⟨a, ha⟩ := p.ak
  exact ⟨by simpa [World.setCell] using p.lt, fun j hj => set_off (by omega) (p.dc j hj), set_same p.us, set_off (by omega) p.hr, ⟨a, set_off (by omega) ha⟩, fun j => by rw [World.frozen?_setCell]; exact p.fz j, row_set p.rw⟩
theorem PgAt.byte (p : PgAt w g d u h) {i : Nat} (hi : i < 16) (x : Int) : PgAt (w.setCell ⟨g, i, none⟩ (.int .u8 x)) g (fun j => if j = i then x else d j) u h := by
  obtain ⟨a, ha⟩ := p.ak
  refine ⟨by simpa [World.setCell] using p.lt, fun j hj => ?_, set_off (by omega) p.us, set_off (by omega) p.hr, ⟨a, set_off (by omega) ha⟩, fun j => by rw [World.frozen?_setCell]; exact p.fz j, row_set p.rw⟩
  by_cases hji : j = i
  · subst hji
    rw [set_same (p.dc j hj)]
    simp
  · rw [set_off hji (p.dc j hj)]
    simp [hji]
end
/-- what the memory is: its pages' slice, the pages, the spaces' maps, the entries -/
structure MS where
  pv : Value
  pl : List Nat
  nS : Nat
  S : Int → Option Nat
  nF : Nat → Nat
  F : Nat → Int → Option (Nat × Int)
  d : Nat → Nat → Int
  u : Nat → Int
  h : Nat → Bool
def fup {α : Type} (f : Nat → α) (g : Nat) (x : α) : Nat → α := fun k => if k = g then x else f k
theorem fup_same {α : Type} (f : Nat → α) (g : Nat) (x : α) : fup f g x g = x := if_pos rfl
theorem fup_off {α : Type} (f : Nat → α) {g k : Nat} (x : α) (h : k ≠ g) : fup f g x k = f k := if_neg h
theorem fup_id {α : Type} (f : Nat → α) (g : Nat) (x : α) (h : f g = x) : fup f g x = f := by
  funext k
  unfold fup
  split
  · rename_i e; rw [e, h]
  · rfl
/-- its blocks -/
def mB (M so : Nat) (m : MS) (k : Nat) : Prop := k = M ∨ k = so ∨ m.pv.ownBlock = some k ∨ (∃ s, m.S s = some k) ∨ k ∈ m.pl
def pp (l : List Nat) : List Value := l.map fun g => .pointer (some ⟨g, 0, none⟩)
structure MemG (w : World) (M so : Nat) (fr sl : Int) (m : MS) : Prop where
  m0 : w.cell? ⟨M, 0, none⟩ = some (.int .i64 fr)
  m1 : w.cell? ⟨M, 1, none⟩ = some (.int .i64 sl)
  m2 : ∃ ck, w.cell? ⟨M, 2, none⟩ = some (.int .i64 ck)
  m3 : w.cell? ⟨M, 3, none⟩ = some m.pv
  m4 : w.cell? ⟨M, 4, none⟩ = some (.map (some so))
  mz : ∀ j, w.frozen? ⟨M, j, none⟩ = false
  mlt : M < w.heap.size
  ps : w.ownsRow 0 232 1 m.pv m.pl.length (pp m.pl)
  om : OMap w so m.nS m.S
  im : ∀ s b, m.S s = some b → IMap w b (m.nF b) (m.F b)
  pg : ∀ g, g ∈ m.pl → PgAt w g (m.d g) (m.u g) (m.h g)
  n1 : so ≠ M
  n2 : ∀ b, m.pv.ownBlock = some b → b ≠ M ∧ b ≠ so
  n3 : ∀ s b, m.S s = some b → b ≠ M ∧ b ≠ so ∧ m.pv.ownBlock ≠ some b
  n4 : ∀ g, g ∈ m.pl → g ≠ M ∧ g ≠ so ∧ m.pv.ownBlock ≠ some g ∧ ∀ s, m.S s ≠ some g
  n5 : ∀ s s' b, m.S s = some b → m.S s' = some b → s = s'
  nd : m.pl.Nodup
section
variable {w w' : World} {M so g : Nat} {fr sl : Int} {m : MS}
theorem OMap.upd {S : Nat → Prop} {b n : Nat} {f : Int → Option Nat} (h : OMap w b n f) (hu : Upd S w w') (hn : ¬ S b) : OMap w' b n f := by
  obtain ⟨D, hD, hm, hf⟩ := h
  obtain ⟨es, ck, hb, hrest⟩ := hD
  exact ⟨D, ⟨es, ck, (hu.block b (Array.getElem?_eq_some_iff.1 hb).1 hn).trans hb, hrest⟩, hm, hf⟩
theorem IMap.upd {S : Nat → Prop} {b n : Nat} {f : Int → Option (Nat × Int)} (h : IMap w b n f) (hu : Upd S w w') (hn : ¬ S b) : IMap w' b n f := by
  obtain ⟨D, hD, hm, hf⟩ := h
  obtain ⟨es, ck, hb, hrest⟩ := hD
  exact ⟨D, ⟨es, ck, (hu.block b (Array.getElem?_eq_some_iff.1 hb).1 hn).trans hb, hrest⟩, hm, hf⟩
theorem ob_ne {v : Value} {g k : Nat} (h : v.ownBlock ≠ some k) (e : v.ownBlock = some g) : g ≠ k := fun q => h (by rw [e, q])
/-- the struct's cells, behind what leaves the struct alone -/
theorem MemG.upd {S : Nat → Prop} (h : MemG w M so fr sl m) (hu : Upd S w w') (hn : ∀ k, mB M so m k → ¬ S k) : MemG w' M so fr sl m := by
  have hM := hn M (.inl rfl)
  have k : ∀ {o v}, w.cell? ⟨M, o, none⟩ = some v → w'.cell? ⟨M, o, none⟩ = some v := fun hc => (hu.cell h.mlt hM).trans hc
  obtain ⟨ck, hck⟩ := h.m2
  exact ⟨k h.m0, k h.m1, ⟨ck, k hck⟩, k h.m3, k h.m4, fun j => (hu.frozen h.mlt hM).trans (h.mz j), Nat.lt_of_lt_of_le h.mlt hu.size, hu.owns h.ps (fun g hg => hn g (.inr (.inr (.inl hg)))), h.om.upd hu (hn so (.inr (.inl rfl))), fun s b hs => (h.im s b hs).upd hu (hn b (.inr (.inr (.inr (.inl ⟨s, hs⟩))))), fun g hg => (h.pg g hg).upd hu (hn g (.inr (.inr (.inr (.inr hg))))), h.n1, h.n2, h.n3, h.n4, h.n5, h.nd⟩
theorem MemG.keep (h : MemG w M so fr sl m) (hb : Below w.heap.size w w') : MemG w' M so fr sl m := h.upd (S := fun _ => False) (Upd.below hb) (fun _ _ e => e)
theorem MemG.drew (h : MemG w M so fr sl m) : MemG w.drew M so fr sl m := h.keep (Below.refl _ _).drew
theorem MemG.lt (h : MemG w M so fr sl m) {k : Nat} (hk : mB M so m k) : k < w.heap.size := by
  rcases hk with rfl | rfl | e | ⟨s, hs⟩ | hg
  · exact h.mlt
  · obtain ⟨D, ⟨es, ck, hb, _⟩, _⟩ := h.om; exact (Array.getElem?_eq_some_iff.1 hb).1
  · exact (h.ps.lt k e).2
  · obtain ⟨D, ⟨es, ck, hb, _⟩, _⟩ := h.im s k hs; exact (Array.getElem?_eq_some_iff.1 hb).1
  · exact (h.pg k hg).lt
/-- the clock -/
theorem MemG.clock (h : MemG w M so fr sl m) (x : Int) : MemG (w.setCell ⟨M, 2, none⟩ (.int .i64 x)) M so fr sl m := by
  have hu : Upd (fun k => k = M) w (w.setCell ⟨M, 2, none⟩ (.int .i64 x)) := Upd.set w _ rfl
  obtain ⟨ck, hck⟩ := h.m2
  exact ⟨set_off (by decide) h.m0, set_off (by decide) h.m1, ⟨x, set_same hck⟩, set_off (by decide) h.m3, set_off (by decide) h.m4, fun j => by rw [World.frozen?_setCell]; exact h.mz j, by simpa [World.setCell] using h.mlt, hu.owns h.ps (fun g hg => (h.n2 g hg).1), h.om.upd hu h.n1, fun s b hs => (h.im s b hs).upd hu (h.n3 s b hs).1, fun g hg => (h.pg g hg).upd hu (h.n4 g hg).1, h.n1, h.n2, h.n3, h.n4, h.n5, h.nd⟩
/-- a page is turned -/
theorem MemG.page (h : MemG w M so fr sl m) (hg : g ∈ m.pl) (hu : Upd (fun k => k = g) w w') {d : Nat → Int} {u : Int} {q : Bool} (hp : PgAt w' g d u q) : MemG w' M so fr sl { m with d := fup m.d g d, u := fup m.u g u, h := fup m.h g q } := by
  obtain ⟨e1, e2, e3, e4⟩ := h.n4 g hg
  have hM : ¬ M = g := fun e => e1 e.symm
  have k : ∀ {o v}, w.cell? ⟨M, o, none⟩ = some v → w'.cell? ⟨M, o, none⟩ = some v := fun hc => (hu.cell h.mlt hM).trans hc
  obtain ⟨ck, hck⟩ := h.m2
  refine ⟨k h.m0, k h.m1, ⟨ck, k hck⟩, k h.m3, k h.m4, fun j => (hu.frozen h.mlt hM).trans (h.mz j), Nat.lt_of_lt_of_le h.mlt hu.size, hu.owns h.ps (fun b hb e => ob_ne e3 hb e), h.om.upd hu (fun e => e2 e.symm), fun s b hs => (h.im s b hs).upd hu (fun e => e4 s (by rw [hs, e])), fun j hj => ?_, h.n1, h.n2, h.n3, h.n4, h.n5, h.nd⟩
  by_cases e : j = g
  · subst e
    simp only [fup_same]
    exact hp
  · simp only [fup_off _ _ e]
    exact (h.pg j hj).upd hu e
/-- a space's map is put anew -/
theorem MemG.space (h : MemG w M so fr sl m) {s : Int} {b n : Nat} {f : Int → Option (Nat × Int)} (hs : m.S s = some b) (hu : Upd (fun k => k = b) w w') (hi : IMap w' b n f) : MemG w' M so fr sl { m with nF := fup m.nF b n, F := fup m.F b f } := by
  obtain ⟨e1, e2, e3⟩ := h.n3 s b hs
  have hM : ¬ M = b := fun e => e1 e.symm
  have k : ∀ {o v}, w.cell? ⟨M, o, none⟩ = some v → w'.cell? ⟨M, o, none⟩ = some v := fun hc => (hu.cell h.mlt hM).trans hc
  obtain ⟨ck, hck⟩ := h.m2
  refine ⟨k h.m0, k h.m1, ⟨ck, k hck⟩, k h.m3, k h.m4, fun j => (hu.frozen h.mlt hM).trans (h.mz j), Nat.lt_of_lt_of_le h.mlt hu.size, hu.owns h.ps (fun g hg e => ob_ne e3 hg e), h.om.upd hu (fun e => e2 e.symm), fun s' b' hs' => ?_, fun j hj => (h.pg j hj).upd hu (fun e => (h.n4 j hj).2.2.2 s (by rw [hs, e])), h.n1, h.n2, h.n3, h.n4, h.n5, h.nd⟩
  by_cases e : b' = b
  · subst e
    simp only [fup_same]
    exact hi
  · simp only [fup_off _ _ e]
    exact (h.im s' b' hs').upd hu e
/-- the spaces' map is put anew: spaces go, or come with maps of their own -/
theorem MemG.outer (h : MemG w M so fr sl m) {n : Nat} {S' : Int → Option Nat} (hu : Upd (fun k => k = so) w w') (ho : OMap w' so n S') (hS : ∀ s b, S' s = some b → m.S s = some b) : MemG w' M so fr sl { m with nS := n, S := S' } := by
  have hM : ¬ M = so := fun e => h.n1 e.symm
  have k : ∀ {o v}, w.cell? ⟨M, o, none⟩ = some v → w'.cell? ⟨M, o, none⟩ = some v := fun hc => (hu.cell h.mlt hM).trans hc
  obtain ⟨ck, hck⟩ := h.m2
  exact ⟨k h.m0, k h.m1, ⟨ck, k hck⟩, k h.m3, k h.m4, fun j => (hu.frozen h.mlt hM).trans (h.mz j), Nat.lt_of_lt_of_le h.mlt hu.size, hu.owns h.ps (fun g hg => (h.n2 g hg).2), ho, fun s b hs => (h.im s b (hS s b hs)).upd hu (h.n3 s b (hS s b hs)).2.1, fun g hg => (h.pg g hg).upd hu (h.n4 g hg).2.1, h.n1, h.n2, fun s b hs => h.n3 s b (hS s b hs), fun g hg => ⟨(h.n4 g hg).1, (h.n4 g hg).2.1, (h.n4 g hg).2.2.1, fun s e => (h.n4 g hg).2.2.2 s (hS s g e)⟩, fun s s' b h1 h2 => h.n5 s s' b (hS s b h1) (hS s' b h2), h.nd⟩
/-- a space comes -/
theorem MemG.born (h : MemG w M so fr sl m) {s : Int} {b n c : Nat} {f : Int → Option (Nat × Int)} (h0 : m.S s = none) (hb : w.heap.size ≤ b) (hu : Upd (fun k => k = so) w w') (ho : OMap w' so n (fun k => if k = s then some b else m.S k)) (hi : IMap w' b c f) : MemG w' M so fr sl { m with nS := n, S := fun k => if k = s then some b else m.S k, nF := fup m.nF b c, F := fup m.F b f } := by
  have hM : ¬ M = so := fun e => h.n1 e.symm
  have k : ∀ {o v}, w.cell? ⟨M, o, none⟩ = some v → w'.cell? ⟨M, o, none⟩ = some v := fun hc => (hu.cell h.mlt hM).trans hc
  obtain ⟨ck, hck⟩ := h.m2
  have new : ∀ {j}, mB M so m j → j ≠ b := fun hj e => by have := h.lt hj; omega
  have at' : ∀ {s' b'}, (if s' = s then some b else m.S s') = some b' → (s' = s ∧ b' = b) ∨ (s' ≠ s ∧ m.S s' = some b' ∧ b' ≠ b) := fun {s' b'} e => by
    split at e
    · rename_i e'; injection e with e; exact .inl ⟨e', e.symm⟩
    · rename_i e'; exact .inr ⟨e', e, new (.inr (.inr (.inr (.inl ⟨s', e⟩))))⟩
  refine ⟨k h.m0, k h.m1, ⟨ck, k hck⟩, k h.m3, k h.m4, fun j => (hu.frozen h.mlt hM).trans (h.mz j), Nat.lt_of_lt_of_le h.mlt hu.size, hu.owns h.ps (fun g hg => (h.n2 g hg).2), ho, fun s' b' hs => ?_, fun g hg => (h.pg g hg).upd hu (h.n4 g hg).2.1, h.n1, h.n2, fun s' b' hs => ?_, fun g hg => ⟨(h.n4 g hg).1, (h.n4 g hg).2.1, (h.n4 g hg).2.2.1, fun s' e => ?_⟩, fun s1 s2 b' h1 h2 => ?_, h.nd⟩
  · rcases at' hs with ⟨-, rfl⟩ | ⟨-, q, e⟩
    · simp only [fup_same]; exact hi
    · simp only [fup_off _ _ e]; exact (h.im s' b' q).upd hu (h.n3 s' b' q).2.1
  · rcases at' hs with ⟨-, rfl⟩ | ⟨-, q, e⟩
    · exact ⟨fun e => new (.inl rfl) e.symm, fun e => new (.inr (.inl rfl)) e.symm, fun e => new (.inr (.inr (.inl e))) rfl⟩
    · exact h.n3 s' b' q
  · rcases at' e with ⟨-, q⟩ | ⟨-, q, _⟩
    · exact new (.inr (.inr (.inr (.inr hg)))) q
    · exact (h.n4 g hg).2.2.2 s' q
  · rcases at' h1 with ⟨q1, p1⟩ | ⟨q1, p1, r1⟩ <;> rcases at' h2 with ⟨q2, p2⟩ | ⟨q2, p2, r2⟩
    · rw [q1, q2]
    · exact absurd p1 r2
    · exact absurd p2 r1
    · exact h.n5 s1 s2 b' p1 p2
/-- the pages' slice is another one: the same pages, or one more, or fewer -/
theorem MemG.pages (h : MemG w M so fr sl m) {S : Nat → Prop} {w1 : World} {v : Value} {pl' : List Nat} (hu : Upd S w w1) (hS : ∀ k, S k → m.pv.ownBlock = some k) (ho : w1.ownsRow 0 232 1 v pl'.length (pp pl')) (hv : v.ownBlock = m.pv.ownBlock ∨ ∃ b, w.heap.size ≤ b ∧ v.ownBlock = some b) (hpl : ∀ g, g ∈ pl' → g ∈ m.pl ∨ (w.heap.size ≤ g ∧ v.ownBlock ≠ some g ∧ PgAt w1 g (m.d g) (m.u g) (m.h g))) (hnd : pl'.Nodup) :
    MemG (w1.setCell ⟨M, 3, none⟩ v) M so fr sl { m with pv := v, pl := pl' } := by
  have hSM : ¬ S M := fun q => (h.n2 M (hS M q)).1 rfl
  have hSo : ¬ S so := fun q => (h.n2 so (hS so q)).2 rfl
  have hSs : ∀ s b, m.S s = some b → ¬ S b := fun s b hs q => (h.n3 s b hs).2.2 (hS b q)
  have hSp : ∀ g, g ∈ m.pl → ¬ S g := fun g hg q => (h.n4 g hg).2.2.1 (hS g q)
  have k : ∀ {o v}, w.cell? ⟨M, o, none⟩ = some v → w1.cell? ⟨M, o, none⟩ = some v := fun hc => (hu.cell h.mlt hSM).trans hc
  have hu2 : Upd (fun k => k = M) w1 (w1.setCell ⟨M, 3, none⟩ v) := Upd.set w1 _ rfl
  have nv : ∀ {j}, mB M so m j → m.pv.ownBlock ≠ some j → v.ownBlock ≠ some j := fun {j} hj hne e => by
    rcases hv with q | ⟨b, q1, q2⟩
    · exact hne (q ▸ e)
    · rw [q2] at e; injection e with e; have := h.lt hj; omega
  have vM : v.ownBlock ≠ some M := nv (.inl rfl) (fun e => (h.n2 M e).1 rfl)
  have vso : v.ownBlock ≠ some so := nv (.inr (.inl rfl)) (fun e => (h.n2 so e).2 rfl)
  obtain ⟨ck, hck⟩ := h.m2
  have new : ∀ {g : Nat}, w.heap.size ≤ g → ∀ {j : Nat}, mB M so m j → g ≠ j := fun {g} hg {j} hj e => by have := h.lt hj; omega
  refine ⟨set_off (by decide) (k h.m0), set_off (by decide) (k h.m1), ⟨ck, set_off (by decide) (k hck)⟩, set_same (k h.m3), set_off (by decide) (k h.m4), fun j => by rw [World.frozen?_setCell]; exact (hu.frozen h.mlt hSM).trans (h.mz j), ?_, hu2.owns ho (fun g hg e => vM (by rw [hg, e])), (h.om.upd hu hSo).upd hu2 h.n1, fun s b hs => ((h.im s b hs).upd hu (hSs s b hs)).upd hu2 (h.n3 s b hs).1, fun g hg => ?_, h.n1, fun b hb => ⟨fun e => vM (by rw [hb, e]), fun e => vso (by rw [hb, e])⟩, fun s b hs => ⟨(h.n3 s b hs).1, (h.n3 s b hs).2.1, nv (.inr (.inr (.inr (.inl ⟨s, hs⟩)))) (h.n3 s b hs).2.2⟩, fun g hg => ?_, h.n5, hnd⟩
  · have := hu.size; have := h.mlt; simp [World.setCell]; omega
  · rcases hpl g hg with q | ⟨q1, q2, q3⟩
    · exact ((h.pg g q).upd hu (hSp g q)).upd hu2 (h.n4 g q).1
    · exact q3.upd hu2 (new q1 (.inl rfl))
  · rcases hpl g hg with q | ⟨q1, q2, q3⟩
    · exact ⟨(h.n4 g q).1, (h.n4 g q).2.1, nv (.inr (.inr (.inr (.inr q)))) (h.n4 g q).2.2.1, (h.n4 g q).2.2.2⟩
    · exact ⟨new q1 (.inl rfl), new q1 (.inr (.inl rfl)), q2, fun s e => new q1 (.inr (.inr (.inr (.inl ⟨s, e⟩)))) rfl⟩
end
end Go.Proofs.YtnmlapiekfkbaaaGreatDoor
