/- The memory of all spaces: what holds of it, and what keeps it. No walk here. Runs of package spread with any tasks of fair shares: their cells, what becomes of them. -/
import Derived.Test.YtnbhohaphmilmaaGreatDoorBegin
namespace Go.Proofs.YtnbhohaphmilmaaGreatDoor
open Go.RowKit Go.Maps
set_option linter.unusedVariables false
set_option linter.unusedSimpArgs false
/-- a page: its bytes, how many entries name it, whether it is in a frame -/
structure PgAt (w : World) (g : Nat) (d : Nat → Int) (u : Int) (h : Bool) : Prop where
  lt : g < w.heap.size
  dc : ∀ j, j < 16 → w.cell? ⟨g, j, none⟩ = some (.int .u8 (d j))
  us : w.cell? ⟨g, 16, none⟩ = some (.int .i64 u)
  hr : w.cell? ⟨g, 17, none⟩ = some (.bool h)
  ak : ∃ a, w.cell? ⟨g, 18, none⟩ = some (.int .i64 a)
  fz : ∀ j, w.frozen? ⟨g, j, none⟩ = false
  rw : ∃ C, Row w g 136 C
theorem row_set {w : World} {b T i : Nat} {v : Value} (h : ∃ C, Row w b T C) : ∃ C, Row (w.setCell ⟨b, i, none⟩ v) b T C := by
  obtain ⟨C, hC⟩ := h
  exact ⟨_, by rw [hC.setCell]; exact hC.setRow _⟩
section
variable {w w' : World} {g : Nat} {d : Nat → Int} {u : Int} {h : Bool}
theorem PgAt.upd {S : Nat → Prop} (p : PgAt w g d u h) (hu : Upd S w w') (hn : ¬ S g) : PgAt w' g d u h := by
  have k : ∀ {o v}, w.cell? ⟨g, o, none⟩ = some v → w'.cell? ⟨g, o, none⟩ = some v := fun hc => (hu.cell p.lt hn).trans hc
  obtain ⟨a, ha⟩ := p.ak
  exact ⟨Nat.lt_of_lt_of_le p.lt hu.size, fun j hj => k (p.dc j hj), k p.us, k p.hr, ⟨a, k ha⟩, fun j => (hu.frozen p.lt hn).trans (p.fz j), by obtain ⟨C, hC⟩ := p.rw; exact ⟨C, hC.upd hu hn⟩⟩
theorem PgAt.keep (p : PgAt w g d u h) (hb : Below w.heap.size w w') : PgAt w' g d u h := p.upd (S := fun _ => False) (Upd.below hb) (fun e => e)
theorem PgAt.asked (p : PgAt w g d u h) (x : Int) : PgAt (w.setCell ⟨g, 18, none⟩ (.int .i64 x)) g d u h := by
  obtain ⟨a, ha⟩ := p.ak
  exact ⟨by simpa [World.setCell] using p.lt, fun j hj => set_off (by omega) (p.dc j hj), set_off (by omega) p.us, set_off (by omega) p.hr, ⟨x, set_same ha⟩, fun j => by rw [World.frozen?_setCell]; exact p.fz j, row_set p.rw⟩
theorem PgAt.here (p : PgAt w g d u h) (x : Bool) : PgAt (w.setCell ⟨g, 17, none⟩ (.bool x)) g d u x := by
  obtain ⟨a, ha⟩ := p.ak
  exact ⟨by simpa [World.setCell] using p.lt, fun j hj => set_off (by omega) (p.dc j hj), set_off (by omega) p.us, set_same p.hr, ⟨a, set_off (by omega) ha⟩, fun j => by rw [World.frozen?_setCell]; exact p.fz j, row_set p.rw⟩
theorem PgAt.users (p : PgAt w g d u h) (x : Int) : PgAt (w.setCell ⟨g, 16, none⟩ (.int .i64 x)) g d x h := by
  obtain ⟨a, ha⟩ := p.ak
  exact ⟨by simpa [World.setCell] using p.lt, fun j hj => set_off (by omega) (p.dc j hj), set_same p.us, set_off (by omega) p.hr, ⟨a, set_off (by omega) ha⟩, fun j => by rw [World.frozen?_setCell]; exact p.fz j, row_set p.rw⟩
theorem PgAt.byte (p : PgAt w g d u h) {i : Nat} (hi : i < 16) (x : Int) : PgAt (w.setCell ⟨g, i, none⟩ (.int .u8 x)) g (fun j => if j = i then x else d j) u h := by
  obtain ⟨a, ha⟩ := p.ak
  refine ⟨by simpa [World.setCell] using p.lt, fun j hj => ?_, set_off (by omega) p.us, set_off (by omega) p.hr, ⟨a, set_off (by omega) ha⟩, fun j => by rw [World.frozen?_setCell]; exact p.fz j, row_set p.rw⟩
  by_cases hji : j = i
  · subst hji
    rw [set_same (p.dc j hj)]
    simp
  · rw [set_off hji (p.dc j hj)]
    simp [hji]
end
/-- what the memory is: its pages' slice, the pages, the spaces' maps, the entries -/
structure MS where
  pv : Value
  pl : List Nat
  nS : Nat
  S : Int → Option Nat
  nF : Nat → Nat
  F : Nat → Int → Option (Nat × Int)
  d : Nat → Nat → Int
  u : Nat → Int
  h : Nat → Bool
def fup {α : Type} (f : Nat → α) (g : Nat) (x : α) : Nat → α := fun k => if k = g then x else f k
theorem fup_same {α : Type} (f : Nat → α) (g : Nat) (x : α) : fup f g x g = x := if_pos rfl
theorem fup_off {α : Type} (f : Nat → α) {g k : Nat} (x : α) (h : k ≠ g) : fup f g x k = f k := if_neg h
theorem fup_id {α : Type} (f : Nat → α) (g : Nat) (x : α) (h : f g = x) : fup f g x = f := by
  funext k
  unfold fup
  split
  · rename_i e; rw [e, h]
  · rfl
/-- its blocks -/
def mB (M so : Nat) (m : MS) (k : Nat) : Prop := k = M ∨ k = so ∨ m.pv.ownBlock = some k ∨ (∃ s, m.S s = some k) ∨ k ∈ m.pl
def pp (l : List Nat) : List Value := l.map fun g => .pointer (some ⟨g, 0, none⟩)
structure MemG (w : World) (M so : Nat) (fr sl : Int) (m : MS) : Prop where
  m0 : w.cell? ⟨M, 0, none⟩ = some (.int .i64 fr)
  m1 : w.cell? ⟨M, 1, none⟩ = some (.int .i64 sl)
  m2 : ∃ ck, w.cell? ⟨M, 2, none⟩ = some (.int .i64 ck)
  m3 : w.cell? ⟨M, 3, none⟩ = some m.pv
  m4 : w.cell? ⟨M, 4, none⟩ = some (.map (some so))
  mz : ∀ j, w.frozen? ⟨M, j, none⟩ = false
  mlt : M < w.heap.size
  ps : w.ownsRow 0 137 1 m.pv m.pl.length (pp m.pl)
  om : OMap w so m.nS m.S
  im : ∀ s b, m.S s = some b → IMap w b (m.nF b) (m.F b)
  pg : ∀ g, g ∈ m.pl → PgAt w g (m.d g) (m.u g) (m.h g)
  n1 : so ≠ M
  n2 : ∀ b, m.pv.ownBlock = some b → b ≠ M ∧ b ≠ so
  n3 : ∀ s b, m.S s = some b → b ≠ M ∧ b ≠ so ∧ m.pv.ownBlock ≠ some b
  n4 : ∀ g, g ∈ m.pl → g ≠ M ∧ g ≠ so ∧ m.pv.ownBlock ≠ some g ∧ ∀ s, m.S s ≠ some g
  n5 : ∀ s s' b, m.S s = some b → m.S s' = some b → s = s'
  nd : m.pl.Nodup
section
variable {w w' : World} {M so g : Nat} {fr sl : Int} {m : MS}
theorem OMap.upd {S : Nat → Prop} {b n : Nat} {f : Int → Option Nat} (h : OMap w b n f) (hu : Upd S w w') (hn : ¬ S b) : OMap w' b n f := by
  obtain ⟨D, hD, hm, hf⟩ := h
  obtain ⟨es, ck, hb, hrest⟩ := hD
  exact ⟨D, ⟨es, ck, (hu.block b (Array.getElem?_eq_some_iff.1 hb).1 hn).trans hb, hrest⟩, hm, hf⟩
theorem IMap.upd {S : Nat → Prop} {b n : Nat} {f : Int → Option (Nat × Int)} (h : IMap w b n f) (hu : Upd S w w') (hn : ¬ S b) : IMap w' b n f := by
  obtain ⟨D, hD, hm, hf⟩ := h
  obtain ⟨es, ck, hb, hrest⟩ := hD
  exact ⟨D, ⟨es, ck, (hu.block b (Array.getElem?_eq_some_iff.1 hb).1 hn).trans hb, hrest⟩, hm, hf⟩
theorem ob_ne {v : Value} {g k : Nat} (h : v.ownBlock ≠ some k) (e : v.ownBlock = some g) : g ≠ k := fun q => h (by rw [e, q])
/-- the struct's cells, behind what leaves the struct alone -/
theorem MemG.upd {S : Nat → Prop} (h : MemG w M so fr sl m) (hu : Upd S w w') (hn : ∀ k, mB M so m k → ¬ S k) : MemG w' M so fr sl m := by
  have hM := hn M (.inl rfl)
  have k : ∀ {o v}, w.cell? ⟨M, o, none⟩ = some v → w'.cell? ⟨M, o, none⟩ = some v := fun hc => (hu.cell h.mlt hM).trans hc
  obtain ⟨ck, hck⟩ := h.m2
  exact ⟨k h.m0, k h.m1, ⟨ck, k hck⟩, k h.m3, k h.m4, fun j => (hu.frozen h.mlt hM).trans (h.mz j), Nat.lt_of_lt_of_le h.mlt hu.size, hu.owns h.ps (fun g hg => hn g (.inr (.inr (.inl hg)))), h.om.upd hu (hn so (.inr (.inl rfl))), fun s b hs => (h.im s b hs).upd hu (hn b (.inr (.inr (.inr (.inl ⟨s, hs⟩))))), fun g hg => (h.pg g hg).upd hu (hn g (.inr (.inr (.inr (.inr hg))))), h.n1, h.n2, h.n3, h.n4, h.n5, h.nd⟩
theorem MemG.keep (h : MemG w M so fr sl m) (hb : Below w.heap.size w w') : MemG w' M so fr sl m := h.upd (S := fun _ => False) (Upd.below hb) (fun _ _ e => e)
theorem MemG.drew (h : MemG w M so fr sl m) : MemG w.drew M so fr sl m := h.keep (Below.refl _ _).drew
theorem MemG.lt (h : MemG w M so fr sl m) {k : Nat} (hk : mB M so m k) : k < w.heap.size := by
  rcases hk with rfl | rfl | e | ⟨s, hs⟩ | hg
  · exact h.mlt
  · obtain ⟨D, ⟨es, ck, hb, _⟩, _⟩ := h.om; exact (Array.getElem?_eq_some_iff.1 hb).1
  · exact (h.ps.lt k e).2
  · obtain ⟨D, ⟨es, ck, hb, _⟩, _⟩ := h.im s k hs; exact (Array.getElem?_eq_some_iff.1 hb).1
  · exact (h.pg k hg).lt
/-- the clock -/
theorem MemG.clock (h : MemG w M so fr sl m) (x : Int) : MemG (w.setCell ⟨M, 2, none⟩ (.int .i64 x)) M so fr sl m := by
  have hu : Upd (fun k => k = M) w (w.setCell ⟨M, 2, none⟩ (.int .i64 x)) := Upd.set w _ rfl
  obtain ⟨ck, hck⟩ := h.m2
  exact ⟨set_off (by decide) h.m0, set_off (by decide) h.m1, ⟨x, set_same hck⟩, set_off (by decide) h.m3, set_off (by decide) h.m4, fun j => by rw [World.frozen?_setCell]; exact h.mz j, by simpa [World.setCell] using h.mlt, hu.owns h.ps (fun g hg => (h.n2 g hg).1), h.om.upd hu h.n1, fun s b hs => (h.im s b hs).upd hu (h.n3 s b hs).1, fun g hg => (h.pg g hg).upd hu (h.n4 g hg).1, h.n1, h.n2, h.n3, h.n4, h.n5, h.nd⟩
/-- a page is turned -/
theorem MemG.page (h : MemG w M so fr sl m) (hg : g ∈ m.pl) (hu : Upd (fun k => k = g) w w') {d : Nat → Int} {u : Int} {q : Bool} (hp : PgAt w' g d u q) : MemG w' M so fr sl { m with d := fup m.d g d, u := fup m.u g u, h := fup m.h g q } := by
  obtain ⟨e1, e2, e3, e4⟩ := h.n4 g hg
  have hM : ¬ M = g := fun e => e1 e.symm
  have k : ∀ {o v}, w.cell? ⟨M, o, none⟩ = some v → w'.cell? ⟨M, o, none⟩ = some v := fun hc => (hu.cell h.mlt hM).trans hc
  obtain ⟨ck, hck⟩ := h.m2
  refine ⟨k h.m0, k h.m1, ⟨ck, k hck⟩, k h.m3, k h.m4, fun j => (hu.frozen h.mlt hM).trans (h.mz j), Nat.lt_of_lt_of_le h.mlt hu.size, hu.owns h.ps (fun b hb e => ob_ne e3 hb e), h.om.upd hu (fun e => e2 e.symm), fun s b hs => (h.im s b hs).upd hu (fun e => e4 s (by rw [hs, e])), fun j hj => ?_, h.n1, h.n2, h.n3, h.n4, h.n5, h.nd⟩
  by_cases e : j = g
  · subst e
    simp only [fup_same]
    exact hp
  · simp only [fup_off _ _ e]
    exact (h.pg j hj).upd hu e
/-- a space's map is put anew -/
theorem MemG.space (h : MemG w M so fr sl m) {s : Int} {b n : Nat} {f : Int → Option (Nat × Int)} (hs : m.S s = some b) (hu : Upd (fun k => k = b) w w') (hi : IMap w' b n f) : MemG w' M so fr sl { m with nF := fup m.nF b n, F := fup m.F b f } := by
  obtain ⟨e1, e2, e3⟩ := h.n3 s b hs
  have hM : ¬ M = b := fun e => e1 e.symm
  have k : ∀ {o v}, w.cell? ⟨M, o, none⟩ = some v → w'.cell? ⟨M, o, none⟩ = some v := fun hc => (hu.cell h.mlt hM).trans hc
  obtain ⟨ck, hck⟩ := h.m2
  refine ⟨k h.m0, k h.m1, ⟨ck, k hck⟩, k h.m3, k h.m4, fun j => (hu.frozen h.mlt hM).trans (h.mz j), Nat.lt_of_lt_of_le h.mlt hu.size, hu.owns h.ps (fun g hg e => ob_ne e3 hg e), h.om.upd hu (fun e => e2 e.symm), fun s' b' hs' => ?_, fun j hj => (h.pg j hj).upd hu (fun e => (h.n4 j hj).2.2.2 s (by rw [hs, e])), h.n1, h.n2, h.n3, h.n4, h.n5, h.nd⟩
  by_cases e : b' = b
  · subst e
    simp only [fup_same]
    exact hi
  · simp only [fup_off _ _ e]
    exact (h.im s' b' hs').upd hu e
/-- the spaces' map is put anew: spaces go, or come with maps of their own -/
theorem MemG.outer (h : MemG w M so fr sl m) {n : Nat} {S' : Int → Option Nat} (hu : Upd (fun k => k = so) w w') (ho : OMap w' so n S') (hS : ∀ s b, S' s = some b → m.S s = some b) : MemG w' M so fr sl { m with nS := n, S := S' } := by
  have hM : ¬ M = so := fun e => h.n1 e.symm
  have k : ∀ {o v}, w.cell? ⟨M, o, none⟩ = some v → w'.cell? ⟨M, o, none⟩ = some v := fun hc => (hu.cell h.mlt hM).trans hc
  obtain ⟨ck, hck⟩ := h.m2
  exact ⟨k h.m0, k h.m1, ⟨ck, k hck⟩, k h.m3, k h.m4, fun j => (hu.frozen h.mlt hM).trans (h.mz j), Nat.lt_of_lt_of_le h.mlt hu.size, hu.owns h.ps (fun g hg => (h.n2 g hg).2), ho, fun s b hs => (h.im s b (hS s b hs)).upd hu (h.n3 s b (hS s b hs)).2.1, fun g hg => (h.pg g hg).upd hu (h.n4 g hg).2.1, h.n1, h.n2, fun s b hs => h.n3 s b (hS s b hs), fun g hg => ⟨(h.n4 g hg).1, (h.n4 g hg).2.1, (h.n4 g hg).2.2.1, fun s e => (h.n4 g hg).2.2.2 s (hS s g e)⟩, fun s s' b h1 h2 => h.n5 s s' b (hS s b h1) (hS s' b h2), h.nd⟩
/-- a space comes -/
theorem MemG.born (h : MemG w M so fr sl m) {s : Int} {b n c : Nat} {f : Int → Option (Nat × Int)} (h0 : m.S s = none) (hb : w.heap.size ≤ b) (hu : Upd (fun k => k = so) w w') (ho : OMap w' so n (fun k => if k = s then some b else m.S k)) (hi : IMap w' b c f) : MemG w' M so fr sl { m with nS := n, S := fun k => if k = s then some b else m.S k, nF := fup m.nF b c, F := fup m.F b f } := by
  have hM : ¬ M = so := fun e => h.n1 e.symm
  have k : ∀ {o v}, w.cell? ⟨M, o, none⟩ = some v → w'.cell? ⟨M, o, none⟩ = some v := fun hc => (hu.cell h.mlt hM).trans hc
  obtain ⟨ck, hck⟩ := h.m2
  have new : ∀ {j}, mB M so m j → j ≠ b := fun hj e => by have := h.lt hj; omega
  have at' : ∀ {s' b'}, (if s' = s then some b else m.S s') = some b' → (s' = s ∧ b' = b) ∨ (s' ≠ s ∧ m.S s' = some b' ∧ b' ≠ b) := fun {s' b'} e => by
    split at e
    · rename_i e'; injection e with e; exact .inl ⟨e', e.symm⟩
    · rename_i e'; exact .inr ⟨e', e, new (.inr (.inr (.inr (.inl ⟨s', e⟩))))⟩
  refine ⟨k h.m0, k h.m1, ⟨ck, k hck⟩, k h.m3, k h.m4, fun j => (hu.frozen h.mlt hM).trans (h.mz j), Nat.lt_of_lt_of_le h.mlt hu.size, hu.owns h.ps (fun g hg => (h.n2 g hg).2), ho, fun s' b' hs => ?_, fun g hg => (h.pg g hg).upd hu (h.n4 g hg).2.1, h.n1, h.n2, fun s' b' hs => ?_, fun g hg => ⟨(h.n4 g hg).1, (h.n4 g hg).2.1, (h.n4 g hg).2.2.1, fun s' e => ?_⟩, fun s1 s2 b' h1 h2 => ?_, h.nd⟩
  · rcases at' hs with ⟨-, rfl⟩ | ⟨-, q, e⟩
    · simp only [fup_same]; exact hi
    · simp only [fup_off _ _ e]; exact (h.im s' b' q).upd hu (h.n3 s' b' q).2.1
  · rcases at' hs with ⟨-, rfl⟩ | ⟨-, q, e⟩
    · exact ⟨fun e => new (.inl rfl) e.symm, fun e => new (.inr (.inl rfl)) e.symm, fun e => new (.inr (.inr (.inl e))) rfl⟩
    · exact h.n3 s' b' q
  · rcases at' e with ⟨-, q⟩ | ⟨-, q, _⟩
    · exact new (.inr (.inr (.inr (.inr hg)))) q
    · exact (h.n4 g hg).2.2.2 s' q
  · rcases at' h1 with ⟨q1, p1⟩ | ⟨q1, p1, r1⟩ <;> rcases at' h2 with ⟨q2, p2⟩ | ⟨q2, p2, r2⟩
    · rw [q1, q2]
    · exact absurd p1 r2
    · exact absurd p2 r1
    · exact h.n5 s1 s2 b' p1 p2
/-- the pages' slice is another one: the same pages, or one more, or fewer -/
theorem MemG.pages (h : MemG w M so fr sl m) {S : Nat → Prop} {w1 : World} {v : Value} {pl' : List Nat} (hu : Upd S w w1) (hS : ∀ k, S k → m.pv.ownBlock = some k) (ho : w1.ownsRow 0 137 1 v pl'.length (pp pl')) (hv : v.ownBlock = m.pv.ownBlock ∨ ∃ b, w.heap.size ≤ b ∧ v.ownBlock = some b) (hpl : ∀ g, g ∈ pl' → g ∈ m.pl ∨ (w.heap.size ≤ g ∧ v.ownBlock ≠ some g ∧ PgAt w1 g (m.d g) (m.u g) (m.h g))) (hnd : pl'.Nodup) :
    MemG (w1.setCell ⟨M, 3, none⟩ v) M so fr sl { m with pv := v, pl := pl' } := by
  have hSM : ¬ S M := fun q => (h.n2 M (hS M q)).1 rfl
  have hSo : ¬ S so := fun q => (h.n2 so (hS so q)).2 rfl
  have hSs : ∀ s b, m.S s = some b → ¬ S b := fun s b hs q => (h.n3 s b hs).2.2 (hS b q)
  have hSp : ∀ g, g ∈ m.pl → ¬ S g := fun g hg q => (h.n4 g hg).2.2.1 (hS g q)
  have k : ∀ {o v}, w.cell? ⟨M, o, none⟩ = some v → w1.cell? ⟨M, o, none⟩ = some v := fun hc => (hu.cell h.mlt hSM).trans hc
  have hu2 : Upd (fun k => k = M) w1 (w1.setCell ⟨M, 3, none⟩ v) := Upd.set w1 _ rfl
  have nv : ∀ {j}, mB M so m j → m.pv.ownBlock ≠ some j → v.ownBlock ≠ some j := fun {j} hj hne e => by
    rcases hv with q | ⟨b, q1, q2⟩
    · exact hne (q ▸ e)
    · rw [q2] at e; injection e with e; have := h.lt hj; omega
  have vM : v.ownBlock ≠ some M := nv (.inl rfl) (fun e => (h.n2 M e).1 rfl)
  have vso : v.ownBlock ≠ some so := nv (.inr (.inl rfl)) (fun e => (h.n2 so e).2 rfl)
  obtain ⟨ck, hck⟩ := h.m2
  have new : ∀ {g : Nat}, w.heap.size ≤ g → ∀ {j : Nat}, mB M so m j → g ≠ j := fun {g} hg {j} hj e => by have := h.lt hj; omega
  refine ⟨set_off (by decide) (k h.m0), set_off (by decide) (k h.m1), ⟨ck, set_off (by decide) (k hck)⟩, set_same (k h.m3), set_off (by decide) (k h.m4), fun j => by rw [World.frozen?_setCell]; exact (hu.frozen h.mlt hSM).trans (h.mz j), ?_, hu2.owns ho (fun g hg e => vM (by rw [hg, e])), (h.om.upd hu hSo).upd hu2 h.n1, fun s b hs => ((h.im s b hs).upd hu (hSs s b hs)).upd hu2 (h.n3 s b hs).1, fun g hg => ?_, h.n1, fun b hb => ⟨fun e => vM (by rw [hb, e]), fun e => vso (by rw [hb, e])⟩, fun s b hs => ⟨(h.n3 s b hs).1, (h.n3 s b hs).2.1, nv (.inr (.inr (.inr (.inl ⟨s, hs⟩)))) (h.n3 s b hs).2.2⟩, fun g hg => ?_, h.n5, hnd⟩
  · have := hu.size; have := h.mlt; simp [World.setCell]; omega
  · rcases hpl g hg with q | ⟨q1, q2, q3⟩
    · exact ((h.pg g q).upd hu (hSp g q)).upd hu2 (h.n4 g q).1
    · exact q3.upd hu2 (new q1 (.inl rfl))
  · rcases hpl g hg with q | ⟨q1, q2, q3⟩
    · exact ⟨(h.n4 g q).1, (h.n4 g q).2.1, nv (.inr (.inr (.inr (.inr q)))) (h.n4 g q).2.2.1, (h.n4 g q).2.2.2⟩
    · exact ⟨new q1 (.inl rfl), new q1 (.inr (.inl rfl)), q2, fun s e => new q1 (.inr (.inr (.inr (.inl ⟨s, e⟩)))) rfl⟩
end
end Go.Proofs.YtnbhohaphmilmaaGreatDoor
namespace Go.Proofs.YtnbhohaphmilmaaGreatDoor
open Go.RowKit
set_option linter.unusedVariables false
set_option linter.unusedSimpArgs false
structure Tk where
  t : Int
  v : Int
  rd : Bool
  cpu : Int
/-- a task's cells from place o on -/
structure TkIn (C : Array Value) (o : Nat) (pin : Int) (x : Tk) : Prop where
  c0 : C[o]? = some (.int .i64 x.t)
  c1 : C[o + 1]? = some (.int .i64 1)
  c2 : C[o + 2]? = some (.int .i64 10)
  c3 : C[o + 3]? = some (.int .i64 0)
  c4 : C[o + 4]? = some (.int .i64 0)
  c5 : C[o + 5]? = some (.int .i64 0)
  c6 : C[o + 6]? = some (.int .i64 0)
  c7 : C[o + 7]? = some (.int .i64 0)
  c8 : C[o + 8]? = some (.int .i64 0)
  c9 : C[o + 9]? = some (.int .i64 x.v)
  c10 : ∃ s, C[o + 10]? = some (.int .i64 s)
  c11 : C[o + 11]? = some (.int .i64 pin)
  c12 : C[o + 12]? = some (.bool x.rd)
  c13 : C[o + 13]? = some (.bool false)
  c14 : C[o + 14]? = some (.int .i64 x.cpu)
theorem TkIn.lt {C : Array Value} {o : Nat} {pin : Int} {x : Tk} (h : TkIn C o pin x) : o + 14 < C.size := (Array.getElem?_eq_some_iff.1 h.c14).1
theorem TkIn.of {C C' : Array Value} {o o' : Nat} {pin : Int} {x : Tk} (h : TkIn C o pin x) (e : ∀ j, j < 15 → C'[o' + j]? = C[o + j]?) : TkIn C' o' pin x := by
  obtain ⟨s, hs⟩ := h.c10
  exact ⟨(e 0 (by decide)).trans h.c0, (e 1 (by decide)).trans h.c1, (e 2 (by decide)).trans h.c2, (e 3 (by decide)).trans h.c3, (e 4 (by decide)).trans h.c4, (e 5 (by decide)).trans h.c5, (e 6 (by decide)).trans h.c6, (e 7 (by decide)).trans h.c7, (e 8 (by decide)).trans h.c8, (e 9 (by decide)).trans h.c9, ⟨s, (e 10 (by decide)).trans hs⟩, (e 11 (by decide)).trans h.c11, (e 12 (by decide)).trans h.c12, (e 13 (by decide)).trans h.c13, (e 14 (by decide)).trans h.c14⟩
theorem set_ne {C : Array Value} {q j : Nat} (v : Value) (h : j ≠ q) : (C.setIfInBounds q v)[j]? = C[j]? := Array.getElem?_setIfInBounds_ne (by omega)
theorem set_eq {C : Array Value} {q : Nat} (v : Value) (h : q < C.size) : (C.setIfInBounds q v)[q]? = some v := by
  rw [Array.getElem?_setIfInBounds, if_pos rfl, if_pos h]
theorem TkIn.setCpu {C : Array Value} {o : Nat} {pin : Int} {x : Tk} (h : TkIn C o pin x) (c : Int) : TkIn (C.setIfInBounds (o + 14) (.int .i64 c)) o pin { x with cpu := c } := by
  obtain ⟨s, hs⟩ := h.c10
  have l := h.lt
  have n : ∀ j, j ≠ 14 → (C.setIfInBounds (o + 14) (.int .i64 c))[o + j]? = C[o + j]? := fun j hj => set_ne _ (by omega)
  exact ⟨(n 0 (by decide)).trans h.c0, (n 1 (by decide)).trans h.c1, (n 2 (by decide)).trans h.c2, (n 3 (by decide)).trans h.c3, (n 4 (by decide)).trans h.c4, (n 5 (by decide)).trans h.c5, (n 6 (by decide)).trans h.c6, (n 7 (by decide)).trans h.c7, (n 8 (by decide)).trans h.c8, (n 9 (by decide)).trans h.c9, ⟨s, (n 10 (by decide)).trans hs⟩, (n 11 (by decide)).trans h.c11, (n 12 (by decide)).trans h.c12, (n 13 (by decide)).trans h.c13, set_eq _ (by omega)⟩
theorem TkIn.setSince {C : Array Value} {o : Nat} {pin : Int} {x : Tk} (h : TkIn C o pin x) (c : Int) : TkIn (C.setIfInBounds (o + 10) (.int .i64 c)) o pin x := by
  have l := h.lt
  have n : ∀ j, j ≠ 10 → (C.setIfInBounds (o + 10) (.int .i64 c))[o + j]? = C[o + j]? := fun j hj => set_ne _ (by omega)
  exact ⟨(n 0 (by decide)).trans h.c0, (n 1 (by decide)).trans h.c1, (n 2 (by decide)).trans h.c2, (n 3 (by decide)).trans h.c3, (n 4 (by decide)).trans h.c4, (n 5 (by decide)).trans h.c5, (n 6 (by decide)).trans h.c6, (n 7 (by decide)).trans h.c7, (n 8 (by decide)).trans h.c8, (n 9 (by decide)).trans h.c9, ⟨c, set_eq _ (by omega)⟩, (n 11 (by decide)).trans h.c11, (n 12 (by decide)).trans h.c12, (n 13 (by decide)).trans h.c13, (n 14 (by decide)).trans h.c14⟩
theorem TkIn.setV {C : Array Value} {o : Nat} {pin : Int} {x : Tk} (h : TkIn C o pin x) (c : Int) : TkIn (C.setIfInBounds (o + 9) (.int .i64 c)) o pin { x with v := c } := by
  have l := h.lt
  obtain ⟨s, hs⟩ := h.c10
  have n : ∀ j, j ≠ 9 → (C.setIfInBounds (o + 9) (.int .i64 c))[o + j]? = C[o + j]? := fun j hj => set_ne _ (by omega)
  exact ⟨(n 0 (by decide)).trans h.c0, (n 1 (by decide)).trans h.c1, (n 2 (by decide)).trans h.c2, (n 3 (by decide)).trans h.c3, (n 4 (by decide)).trans h.c4, (n 5 (by decide)).trans h.c5, (n 6 (by decide)).trans h.c6, (n 7 (by decide)).trans h.c7, (n 8 (by decide)).trans h.c8, set_eq _ (by omega), ⟨s, (n 10 (by decide)).trans hs⟩, (n 11 (by decide)).trans h.c11, (n 12 (by decide)).trans h.c12, (n 13 (by decide)).trans h.c13, (n 14 (by decide)).trans h.c14⟩
theorem TkIn.setRd {C : Array Value} {o : Nat} {pin : Int} {x : Tk} (h : TkIn C o pin x) (c : Bool) : TkIn (C.setIfInBounds (o + 12) (.bool c)) o pin { x with rd := c } := by
  have l := h.lt
  obtain ⟨s, hs⟩ := h.c10
  have n : ∀ j, j ≠ 12 → (C.setIfInBounds (o + 12) (.bool c))[o + j]? = C[o + j]? := fun j hj => set_ne _ (by omega)
  exact ⟨(n 0 (by decide)).trans h.c0, (n 1 (by decide)).trans h.c1, (n 2 (by decide)).trans h.c2, (n 3 (by decide)).trans h.c3, (n 4 (by decide)).trans h.c4, (n 5 (by decide)).trans h.c5, (n 6 (by decide)).trans h.c6, (n 7 (by decide)).trans h.c7, (n 8 (by decide)).trans h.c8, (n 9 (by decide)).trans h.c9, ⟨s, (n 10 (by decide)).trans hs⟩, (n 11 (by decide)).trans h.c11, set_eq _ (by omega), (n 13 (by decide)).trans h.c13, (n 14 (by decide)).trans h.c14⟩
/-- the tasks' rows -/
def TksIn (C : Array Value) (pin : Int) (l : List Tk) : Prop := ∀ i x, l[i]? = some x → TkIn C (i * 15) pin x
theorem TksIn.upd {C : Array Value} {pin : Int} {l : List Tk} {i f : Nat} {x : Tk} {v : Value} (h : TksIn C pin l) (hi : i < l.length) (hf : f < 15) (hx : TkIn (C.setIfInBounds (i * 15 + f) v) (i * 15) pin x) : TksIn (C.setIfInBounds (i * 15 + f) v) pin (l.set i x) := by
  intro j y hj
  rw [List.getElem?_set] at hj
  split at hj
  · rename_i e
    subst e
    injection hj with hj
    subst hj
    exact hx
  · rename_i e
    exact (h j y hj).of fun k hk => set_ne _ (by omega)
theorem TksIn.same {C : Array Value} {pin : Int} {l : List Tk} {i f : Nat} {x : Tk} {v : Value} (h : TksIn C pin l) (hi : l[i]? = some x) (hf : f < 15) (hx : TkIn (C.setIfInBounds (i * 15 + f) v) (i * 15) pin x) : TksIn (C.setIfInBounds (i * 15 + f) v) pin l := by
  have hl : i < l.length := (List.getElem?_eq_some_iff.1 hi).1
  have := h.upd hl hf hx
  have e : l.set i x = l := by
    have : x = l[i] := (List.getElem?_eq_some_iff.1 hi).2.symm
    rw [this, List.set_getElem_self]
  rwa [e] at this
/-- the tasks' rows, where there are any -/
structure TkR (w : World) (R T cap : Nat) (pin : Int) (l : List Tk) (C : Array Value) : Prop where
  ne : T ≠ R
  row : Row w T 216 C
  sz : cap * 15 ≤ C.size
  mx : cap ≤ maxLen
  len : l.length ≤ cap
  ml : l.length ≤ 1000
  tks : TksIn C pin l
/-- a run: its struct in block R, its tasks' rows in block T -/
structure RunG (w : World) (R : Nat) (ad : Option Addr) (cap : Nat) (cpus ticks pin : Int) (l : List Tk) : Prop where
  lt : R < w.heap.size
  fz : ∀ j, w.frozen? ⟨R, j, none⟩ = false
  c0 : w.cell? ⟨R, 0, none⟩ = some (.int .i64 cpus)
  c1 : w.cell? ⟨R, 1, none⟩ = some (.int .i64 ticks)
  c2 : ∃ s, w.cell? ⟨R, 2, none⟩ = some (.int .i64 s)
  c3 : w.cell? ⟨R, 3, none⟩ = some (.slice ad l.length cap)
  row : (ad = none ∧ l = [] ∧ cap = 0) ∨ ∃ T C, ad = some ⟨T, 0, none⟩ ∧ TkR w R T cap pin l C
def blk (ad : Option Addr) : Nat := (ad.map (·.block)).getD 0
/-- what a call on a run may turn -/
def rS (R : Nat) (ad : Option Addr) (k : Nat) : Prop := k = R ∨ ∃ a, ad = some a ∧ k = a.block
section
variable {w w' : World} {R cap : Nat} {ad : Option Addr} {cpus ticks pin : Int} {l : List Tk}
theorem TkR.upd {S : Nat → Prop} {T : Nat} {C : Array Value} (h : TkR w R T cap pin l C) (hu : Upd S w w') (hn : ¬ S T) : TkR w' R T cap pin l C := ⟨h.ne, h.row.upd hu hn, h.sz, h.mx, h.len, h.ml, h.tks⟩
theorem TkR.keep {T : Nat} {C : Array Value} (h : TkR w R T cap pin l C) (hb : Below w.heap.size w w') : TkR w' R T cap pin l C := ⟨h.ne, h.row.keep hb, h.sz, h.mx, h.len, h.ml, h.tks⟩
theorem RunG.rows (h : RunG w R ad cap cpus ticks pin l) (hl : 0 < l.length) : ∃ T C, ad = some ⟨T, 0, none⟩ ∧ TkR w R T cap pin l C := by
  rcases h.row with ⟨_, h0, _⟩ | ⟨T, C, h1, h2⟩
  · subst h0; simp at hl
  · exact ⟨T, C, h1, h2⟩
theorem RunG.upd {S : Nat → Prop} (h : RunG w R ad cap cpus ticks pin l) (hu : Upd S w w') (h1 : ¬ S R) (h2 : ∀ a, ad = some a → ¬ S a.block) : RunG w' R ad cap cpus ticks pin l := by
  have k : ∀ {o v}, w.cell? ⟨R, o, none⟩ = some v → w'.cell? ⟨R, o, none⟩ = some v := fun hc => (hu.cell h.lt h1).trans hc
  obtain ⟨s, hs⟩ := h.c2
  refine ⟨Nat.lt_of_lt_of_le h.lt hu.size, fun j => (hu.frozen h.lt h1).trans (h.fz j), k h.c0, k h.c1, ⟨s, k hs⟩, k h.c3, ?_⟩
  rcases h.row with e | ⟨T, C, e1, e2⟩
  · exact .inl e
  · exact .inr ⟨T, C, e1, e2.upd hu (h2 _ e1)⟩
theorem RunG.keep (h : RunG w R ad cap cpus ticks pin l) (hb : Below w.heap.size w w') : RunG w' R ad cap cpus ticks pin l := h.upd (S := fun _ => False) (Upd.below hb) (fun e => e) (fun _ _ e => e)
theorem RunG.drew (h : RunG w R ad cap cpus ticks pin l) : RunG w.drew R ad cap cpus ticks pin l := h.keep (Below.refl _ _).drew
theorem RunG.ltT (h : RunG w R ad cap cpus ticks pin l) {a : Addr} (e : ad = some a) : a.block < w.heap.size ∧ a.block ≠ R := by
  rcases h.row with ⟨e', _⟩ | ⟨T, C, e1, e2⟩
  · rw [e] at e'; cases e'
  · rw [e] at e1; injection e1 with e1; subst e1; exact ⟨e2.row.lt, e2.ne⟩
theorem RunG.mx (h : RunG w R ad cap cpus ticks pin l) : (l.length : Int) ≤ 1000 := by
  rcases h.row with ⟨_, e, _⟩ | ⟨_, _, _, h⟩
  · subst e; simp
  · have := h.ml; omega
theorem RunG.setStamp (h : RunG w R ad cap cpus ticks pin l) (x : Int) : RunG (w.setCell ⟨R, 2, none⟩ (.int .i64 x)) R ad cap cpus ticks pin l := by
  have u : Upd (fun k => k = R) w (w.setCell ⟨R, 2, none⟩ (.int .i64 x)) := Upd.set w _ rfl
  obtain ⟨s, hs⟩ := h.c2
  refine ⟨Nat.lt_of_lt_of_le h.lt u.size, fun j => by rw [World.frozen?_setCell]; exact h.fz j, set_off (by decide) h.c0, set_off (by decide) h.c1, ⟨x, set_same hs⟩, set_off (by decide) h.c3, ?_⟩
  rcases h.row with e | ⟨T, C, e1, e2⟩
  · exact .inl e
  · exact .inr ⟨T, C, e1, e2.upd u e2.ne⟩
theorem RunG.setTicks (h : RunG w R ad cap cpus ticks pin l) (x : Int) : RunG (w.setCell ⟨R, 1, none⟩ (.int .i64 x)) R ad cap cpus x pin l := by
  have u : Upd (fun k => k = R) w (w.setCell ⟨R, 1, none⟩ (.int .i64 x)) := Upd.set w _ rfl
  obtain ⟨s, hs⟩ := h.c2
  refine ⟨Nat.lt_of_lt_of_le h.lt u.size, fun j => by rw [World.frozen?_setCell]; exact h.fz j, set_off (by decide) h.c0, set_same h.c1, ⟨s, set_off (by decide) hs⟩, set_off (by decide) h.c3, ?_⟩
  rcases h.row with e | ⟨T, C, e1, e2⟩
  · exact .inl e
  · exact .inr ⟨T, C, e1, e2.upd u e2.ne⟩
/-- a run's struct alone -/
structure RunR (w : World) (R : Nat) (cpus ticks : Int) : Prop where
  lt : R < w.heap.size
  fz : ∀ j, w.frozen? ⟨R, j, none⟩ = false
  c0 : w.cell? ⟨R, 0, none⟩ = some (.int .i64 cpus)
  c1 : w.cell? ⟨R, 1, none⟩ = some (.int .i64 ticks)
  c2 : ∃ s, w.cell? ⟨R, 2, none⟩ = some (.int .i64 s)
  c3 : ∃ v, w.cell? ⟨R, 3, none⟩ = some v
theorem RunG.r (h : RunG w R ad cap cpus ticks pin l) : RunR w R cpus ticks := ⟨h.lt, h.fz, h.c0, h.c1, h.c2, ⟨_, h.c3⟩⟩
theorem RunR.upd {S : Nat → Prop} (h : RunR w R cpus ticks) (hu : Upd S w w') (h1 : ¬ S R) : RunR w' R cpus ticks := by
  have k : ∀ {o v}, w.cell? ⟨R, o, none⟩ = some v → w'.cell? ⟨R, o, none⟩ = some v := fun hc => (hu.cell h.lt h1).trans hc
  obtain ⟨s, hs⟩ := h.c2
  obtain ⟨v, hv⟩ := h.c3
  exact ⟨Nat.lt_of_lt_of_le h.lt hu.size, fun j => (hu.frozen h.lt h1).trans (h.fz j), k h.c0, k h.c1, ⟨s, k hs⟩, ⟨v, k hv⟩⟩
/-- other tasks' rows, laid in the run -/
theorem RunR.lay {l' : List Tk} {T cap' n : Nat} {C : Array Value} (h : RunR w R cpus ticks) (ht : TkR w R T cap' pin l' C) (hn : n = l'.length) : RunG (w.setCell ⟨R, 3, none⟩ (.slice (some ⟨T, 0, none⟩) n cap')) R (some ⟨T, 0, none⟩) cap' cpus ticks pin l' := by
  have u : Upd (fun k => k = R) w (w.setCell ⟨R, 3, none⟩ (.slice (some ⟨T, 0, none⟩) n cap')) := Upd.set w _ rfl
  obtain ⟨s, hs⟩ := h.c2
  obtain ⟨v, hv⟩ := h.c3
  subst hn
  exact ⟨Nat.lt_of_lt_of_le h.lt u.size, fun j => by rw [World.frozen?_setCell]; exact h.fz j, set_off (by decide) h.c0, set_off (by decide) h.c1, ⟨s, set_off (by decide) hs⟩, set_same hv, .inr ⟨T, C, rfl, ht.upd u ht.ne⟩⟩
variable {T : Nat} {C : Array Value} {i : Nat} {x : Tk}
theorem RunG.setT (h : RunG w R (some ⟨T, 0, none⟩) cap cpus ticks pin l) {l' : List Tk} {q : Nat} {v : Value} (hl : l'.length = l.length) (ht : ∀ C, TksIn C pin l → TksIn (C.setIfInBounds q v) pin l') : RunG (w.setCell ⟨T, q, none⟩ v) R (some ⟨T, 0, none⟩) cap cpus ticks pin l' := by
  rcases h.row with ⟨e, _⟩ | ⟨T', C, e1, e2⟩
  · cases e
  injection e1 with e1
  injection e1 with e1
  subst e1
  have u : Upd (fun k => k = T) w (w.setCell ⟨T, q, none⟩ v) := Upd.set w _ rfl
  have ne : R ≠ T := fun e => e2.ne e.symm
  obtain ⟨s, hs⟩ := h.c2
  refine ⟨Nat.lt_of_lt_of_le h.lt u.size, fun j => by rw [World.frozen?_setCell]; exact h.fz j, set_blk ne h.c0, set_blk ne h.c1, ⟨s, set_blk ne hs⟩, ?_, .inr ⟨T, _, rfl, e2.ne, ?_, ?_, e2.mx, by rw [hl]; exact e2.len, by rw [hl]; exact e2.ml, ht C e2.tks⟩⟩
  · rw [hl]; exact set_blk ne h.c3
  · rw [e2.row.setCell]; exact e2.row.setRow _
  · simpa using e2.sz
theorem RunG.setCpu (h : RunG w R (some ⟨T, 0, none⟩) cap cpus ticks pin l) (hx : l[i]? = some x) (c : Int) : RunG (w.setCell ⟨T, i * 15 + 14, none⟩ (.int .i64 c)) R (some ⟨T, 0, none⟩) cap cpus ticks pin (l.set i { x with cpu := c }) :=
  h.setT (by simp) fun C hC => hC.upd (List.getElem?_eq_some_iff.1 hx).1 (by decide) ((hC i x hx).setCpu c)
theorem RunG.setV (h : RunG w R (some ⟨T, 0, none⟩) cap cpus ticks pin l) (hx : l[i]? = some x) (c : Int) : RunG (w.setCell ⟨T, i * 15 + 9, none⟩ (.int .i64 c)) R (some ⟨T, 0, none⟩) cap cpus ticks pin (l.set i { x with v := c }) :=
  h.setT (by simp) fun C hC => hC.upd (List.getElem?_eq_some_iff.1 hx).1 (by decide) ((hC i x hx).setV c)
theorem RunG.setRd (h : RunG w R (some ⟨T, 0, none⟩) cap cpus ticks pin l) (hx : l[i]? = some x) (c : Bool) : RunG (w.setCell ⟨T, i * 15 + 12, none⟩ (.bool c)) R (some ⟨T, 0, none⟩) cap cpus ticks pin (l.set i { x with rd := c }) :=
  h.setT (by simp) fun C hC => hC.upd (List.getElem?_eq_some_iff.1 hx).1 (by decide) ((hC i x hx).setRd c)
theorem RunG.setSince (h : RunG w R (some ⟨T, 0, none⟩) cap cpus ticks pin l) (hx : l[i]? = some x) (c : Int) : RunG (w.setCell ⟨T, i * 15 + 10, none⟩ (.int .i64 c)) R (some ⟨T, 0, none⟩) cap cpus ticks pin l :=
  h.setT rfl fun C hC => hC.same hx (by decide) ((hC i x hx).setSince c)
/-- a task's cells, as they lie -/
theorem TkR.at (h : TkR w R T cap pin l C) (hx : l[i]? = some x) : TkIn C (i * 15) pin x := h.tks i x hx
theorem TkR.cell (h : TkR w R T cap pin l C) (q : Nat) : w.cell? ⟨T, q, none⟩ = C[q]? := h.row.cell q
end
/-- what goes ahead -/
def tbet (x y : Tk) : Bool := if x.v = y.v then decide (x.t < y.t) else decide (x.v < y.v)
def twait (x : Tk) : Bool := x.rd && decide (x.cpu < 0)
def bestOf (l : List Tk) (k : Nat) (x : Tk) : Option Nat → Option Nat
  | none => some k
  | some b => match l[b]? with
    | none => some k
    | some y => if tbet x y then some k else some b
def bestStep (l : List Tk) (k : Nat) (x : Tk) (p : Option Nat) : Option Nat := if twait x then bestOf l k x p else p
/-- the best of the first k tasks that wait -/
def bestG (l : List Tk) : Nat → Option Nat
  | 0 => none
  | k + 1 => match l[k]? with
    | none => bestG l k
    | some x => bestStep l k x (bestG l k)
theorem bestG_next {l : List Tk} {k : Nat} {x : Tk} (hx : l[k]? = some x) : bestG l (k + 1) = bestStep l k x (bestG l k) := by
  rw [bestG, hx]
theorem bestStep_no {l : List Tk} {k : Nat} {x : Tk} {p : Option Nat} (h : twait x = false) : bestStep l k x p = p := by
  unfold bestStep; rw [h]; rfl
theorem bestStep_yes {l : List Tk} {k : Nat} {x : Tk} {p : Option Nat} (h : twait x = true) : bestStep l k x p = bestOf l k x p := by
  unfold bestStep; rw [h]; rfl
theorem bestOf_some {l : List Tk} {k b : Nat} {x y : Tk} (h : l[b]? = some y) : bestOf l k x (some b) = if tbet x y then some k else some b := by
  show (match l[b]? with | none => some k | some y => if tbet x y then some k else some b) = _
  rw [h]
def onG (l : List Tk) (c : Int) : Option Nat := l.findIdx? (fun x => x.cpu == c)
def idG (l : List Tk) (t : Int) : Option Nat := l.findIdx? (fun x => x.t == t)
def fill1 (l : List Tk) (c : Int) : List Tk := match onG l c with
  | some _ => l
  | none => match bestG l l.length with
    | none => l
    | some b => match l[b]? with
      | none => l
      | some x => l.set b { x with cpu := c }
def fillG (l : List Tk) : Nat → List Tk
  | 0 => l
  | c + 1 => fill1 (fillG l c) c
/-- the least virtual time of the first k tasks that are ready -/
def lowG (l : List Tk) : Nat → Option Int
  | 0 => none
  | k + 1 => match l[k]? with
    | none => lowG l k
    | some x => if x.rd then (match lowG l k with
      | none => some x.v
      | some n => if x.v < n then some x.v else some n) else lowG l k
theorem bestG_lt (l : List Tk) : ∀ k b, bestG l k = some b → b < k ∧ b < l.length
  | 0, b, h => by simp [bestG] at h
  | k + 1, b, h => by
    have ih := bestG_lt l k
    cases hk : l[k]? with
    | none =>
      rw [bestG, hk] at h
      have := ih b h
      omega
    | some x =>
      have hkl : k < l.length := (List.getElem?_eq_some_iff.1 hk).1
      rw [bestG_next hk] at h
      cases hw : twait x
      · rw [bestStep_no hw] at h
        have := ih b h
        omega
      · rw [bestStep_yes hw] at h
        cases hb : bestG l k with
        | none => rw [hb] at h; injection h with h; omega
        | some y =>
          have := ih y hb
          rw [hb, bestOf_some (List.getElem?_eq_getElem this.2)] at h
          split at h <;> injection h with h <;> omega
theorem fill1_len (l : List Tk) (c : Int) : (fill1 l c).length = l.length := by
  unfold fill1
  repeat' split
  all_goals simp
theorem fillG_len (l : List Tk) (n : Nat) : (fillG l n).length = l.length := by
  induction n with
  | zero => rfl
  | succ n ih => simp only [fillG]; rw [fill1_len, ih]
end Go.Proofs.YtnbhohaphmilmaaGreatDoor
