/- The memory while a page is added: what holds, whatever the space's map says. No walk here. -/
import Derived.Test.YtopadiofanaaiaaDoorSpaceAskNew
namespace Go.Proofs.YtopadiofanaaiaaDoor
open Go.RowKit Go.Maps
set_option linter.unusedVariables false
set_option linter.unusedSimpArgs false
/-- As Mem, with any map of the space, and pages of zeros. -/
structure Half (Z : Nat) (tag : Nat → Nat) (w : World) (M so im : Nat) (pv : Value) (pg : Nat → Nat) (np ns : Nat) (fs : Int → Option (Nat × Int)) : Prop where
  m0 : w.cell? ⟨M, 0, none⟩ = some (.int .i64 8)
  m1 : w.cell? ⟨M, 1, none⟩ = some (.int .i64 0)
  m2 : ∃ ck, w.cell? ⟨M, 2, none⟩ = some (.int .i64 ck)
  m3 : w.cell? ⟨M, 3, none⟩ = some pv
  m4 : w.cell? ⟨M, 4, none⟩ = some (.map (some so))
  mz : ∀ j, w.frozen? ⟨M, j, none⟩ = false
  mlt : M < w.heap.size
  ps : w.ownsRow 0 44 1 pv np ((List.range np).map fun i => Value.pointer (some ⟨pg i, 0, none⟩))
  om : OMap w so 1 (fun k => if k = 1 then some im else none)
  sm : IMap w im ns fs
  pgs : ∀ i, i < np → Page w (pg i) (fun _ => 0)
  tM : tag M = 1
  tso : tag so = 2
  tim : tag im = 3
  tpv : ∀ b, pv.ownBlock = some b → tag b = 4
  tpg : ∀ i, i < np → tag (pg i) = 5 + i
  tz : ∀ k, Z ≤ k → tag k = 0
  zle : Z ≤ w.heap.size
section
variable {Z : Nat} {tag : Nat → Nat} {w w' : World} {M so im : Nat} {pv : Value} {pg : Nat → Nat} {np ns : Nat} {fs : Int → Option (Nat × Int)}
theorem Mem.half {first : Int} (h : Mem Z tag w M so im pv pg np first (fun _ _ => 0)) : Half Z tag w M so im pv pg np np (fun k => if first ≤ k ∧ k < first + np then some (pg (k - first).toNat, 3) else none) :=
  ⟨h.m0, h.m1, h.m2, h.m3, h.m4, h.mz, h.mlt, h.ps, h.om, h.sm, h.pgs, h.tM, h.tso, h.tim, h.tpv, h.tpg, h.tz, h.zle⟩
theorem Half.mem {first : Int} (h : Half Z tag w M so im pv pg np np fs) (hf : fs = fun k => if first ≤ k ∧ k < first + np then some (pg (k - first).toNat, 3) else none) : Mem Z tag w M so im pv pg np first (fun _ _ => 0) :=
  ⟨h.m0, h.m1, h.m2, h.m3, h.m4, h.mz, h.mlt, h.ps, h.om, hf ▸ h.sm, h.pgs, h.tM, h.tso, h.tim, h.tpv, h.tpg, h.tz, h.zle⟩
theorem Half.keep (h : Half Z tag w M so im pv pg np ns fs) (hb : Below w.heap.size w w') : Half Z tag w' M so im pv pg np ns fs := by
  have hg : w.grownBy w' none := gb hb
  have k : ∀ {o v}, w.cell? ⟨M, o, none⟩ = some v → w'.cell? ⟨M, o, none⟩ = some v := fun hc => (grown_cell hg h.mlt (by simp)).trans hc
  obtain ⟨ck, hck⟩ := h.m2
  exact ⟨k h.m0, k h.m1, ⟨ck, k hck⟩, k h.m3, k h.m4, fun j => (grown_frozen hg h.mlt (by simp)).trans (h.mz j), Nat.lt_of_lt_of_le h.mlt hb.size, owns_keep h.ps hb, h.om.kept hg (by simp), h.sm.kept hg (by simp), fun i hi => (h.pgs i hi).kept hg (by simp), h.tM, h.tso, h.tim, h.tpv, h.tpg, h.tz, Nat.le_trans h.zle hb.size⟩
/-- the space's map is put anew -/
theorem Half.map (h : Half Z tag w M so im pv pg np ns fs) {ns' : Nat} {fs' : Int → Option (Nat × Int)} (hg : w.grownBy w' (some im)) (hs : IMap w' im ns' fs') : Half Z tag w' M so im pv pg np ns' fs' := by
  have ne : ∀ {b t}, tag b = t → t ≠ 3 → some b ≠ some im := fun hb ht e => by injection e with e; subst e; exact ht (hb.symm.trans h.tim)
  have neM := ne h.tM (by decide)
  have k : ∀ {o v}, w.cell? ⟨M, o, none⟩ = some v → w'.cell? ⟨M, o, none⟩ = some v := fun hc => (grown_cell hg h.mlt neM).trans hc
  obtain ⟨ck, hck⟩ := h.m2
  exact ⟨k h.m0, k h.m1, ⟨ck, k hck⟩, k h.m3, k h.m4, fun j => (grown_frozen hg h.mlt neM).trans (h.mz j), Nat.lt_of_lt_of_le h.mlt hg.size, h.ps.kept hg (.inr (by intro e; exact ne (h.tpv _ e) (by decide) rfl)), h.om.kept hg (ne h.tso (by decide)), hs, fun i hi => (h.pgs i hi).kept hg (ne (h.tpg i hi) (by omega)), h.tM, h.tso, h.tim, h.tpv, h.tpg, h.tz, Nat.le_trans h.zle hg.size⟩
/-- a page that is not in a frame yet, with zeros -/
structure Fresh (w : World) (g : Nat) : Prop where
  lt : g < w.heap.size
  dc : ∀ j, j < 16 → w.cell? ⟨g, j, none⟩ = some (.int .u8 0)
  us : w.cell? ⟨g, 16, none⟩ = some (.int .i64 1)
  hr : w.cell? ⟨g, 17, none⟩ = some (.bool false)
  ak : w.cell? ⟨g, 18, none⟩ = some (.int .i64 0)
  fz : ∀ j, w.frozen? ⟨g, j, none⟩ = false
theorem Fresh.kept {g : Nat} {row : Option Nat} (h : Fresh w g) (hg : w.grownBy w' row) (hne : some g ≠ row) : Fresh w' g := by
  have k : ∀ {o v}, w.cell? ⟨g, o, none⟩ = some v → w'.cell? ⟨g, o, none⟩ = some v := fun hc => (grown_cell hg h.lt hne).trans hc
  exact ⟨Nat.lt_of_lt_of_le h.lt hg.size, fun j hj => k (h.dc j hj), k h.us, k h.hr, k h.ak, fun j => (grown_frozen hg h.lt hne).trans (h.fz j)⟩
theorem Fresh.asked {g : Nat} (h : Fresh w g) (x : Int) (q : Nat) : Page (((w.setCell ⟨g, 18, none⟩ (.int .i64 x)).drewN q).setCell ⟨g, 17, none⟩ (.bool true)) g (fun _ => 0) := by
  have a1 := set_same (x := .int .i64 x) h.ak
  have a2 := set_other (i := 18) (x := .int .i64 x) (by decide) h.hr
  refine ⟨by simpa [World.setCell, World.drewN] using h.lt, fun j hj => ?_, ?_, ?_, ⟨x, ?_⟩, fun j => ?_⟩
  · exact set_other (w := (w.setCell ⟨g, 18, none⟩ (.int .i64 x)).drewN q) (by omega) ((set_other (by omega) (h.dc j hj) : (w.setCell ⟨g, 18, none⟩ (.int .i64 x)).cell? ⟨g, j, none⟩ = _))
  · exact set_other (w := (w.setCell ⟨g, 18, none⟩ (.int .i64 x)).drewN q) (by decide) ((set_other (by decide) h.us : (w.setCell ⟨g, 18, none⟩ (.int .i64 x)).cell? ⟨g, 16, none⟩ = _))
  · exact set_same (w := (w.setCell ⟨g, 18, none⟩ (.int .i64 x)).drewN q) (y := .bool false) a2
  · exact set_other (w := (w.setCell ⟨g, 18, none⟩ (.int .i64 x)).drewN q) (by decide) a1
  · rw [World.frozen?_setCell]
    exact (World.frozen?_setCell _ _ _ _).trans (h.fz j)
/-- the pages' numbers with one more -/
def more (pg : Nat → Nat) (np g : Nat) : Nat → Nat := fun i => if i = np then g else pg i
theorem more_new (pg : Nat → Nat) (np g : Nat) : more pg np g np = g := if_pos rfl
theorem more_old (pg : Nat → Nat) (np g : Nat) {i : Nat} (h : i < np) : more pg np g i = pg i := if_neg (by omega)
theorem more_row (pg : Nat → Nat) (np g : Nat) : ((List.range np).map fun i => Value.pointer (some ⟨pg i, 0, none⟩)) ++ [.pointer (some ⟨g, 0, none⟩)] = (List.range (np + 1)).map fun i => Value.pointer (some ⟨more pg np g i, 0, none⟩) := by
  rw [List.range_succ, List.map_append]
  congr 1
  · refine List.map_congr_left fun i hi => ?_
    rw [more_old pg np g (List.mem_range.1 hi)]
  · simp [more_new]
/-- what the call of ask reads, behind the append and the store of the pages' slice -/
structure Mid (w : World) (M : Nat) (v : Value) (pg : Nat → Nat) (np g : Nat) : Prop where
  m0 : w.cell? ⟨M, 0, none⟩ = some (.int .i64 8)
  m2 : ∃ ck, w.cell? ⟨M, 2, none⟩ = some (.int .i64 ck)
  m3 : w.cell? ⟨M, 3, none⟩ = some v
  mz : ∀ j, w.frozen? ⟨M, j, none⟩ = false
  mlt : M < w.heap.size
  ps : w.ownsRow 0 44 1 v (np + 1) ((List.range (np + 1)).map fun i => Value.pointer (some ⟨more pg np g i, 0, none⟩))
  hh : ∀ i, i < np → w.cell? ⟨more pg np g i, 17, none⟩ = some (.bool true)
  fr : Fresh w g
  ne : M ≠ g
  vM : v.ownBlock ≠ some M
  vg : v.ownBlock ≠ some g
  c3 : ∃ u, w.cell? ⟨M, 3, none⟩ = some u
variable {g : Nat} {v : Value} {w4 : World}
theorem Half.own_ne (h : Half Z tag w M so im pv pg np ns fs) {b : Nat} (ht : tag b ≠ 4) : some b ≠ pv.ownBlock := fun e => ht (h.tpv _ e.symm)
theorem Half.mid (h : Half Z tag w M so im pv pg np ns fs) (fr : Fresh w g) (hg : tag g = 0) (gr : w.grownBy w4 pv.ownBlock) (own : w4.ownsRow 0 44 1 v (np + 1) (((List.range np).map fun i => Value.pointer (some ⟨pg i, 0, none⟩)) ++ [.pointer (some ⟨g, 0, none⟩)]))
    (hv : v.ownBlock = pv.ownBlock ∨ ∃ x, w.heap.size ≤ x ∧ v.ownBlock = some x) : Mid (w4.setCell ⟨M, 3, none⟩ v) M v pg np g := by
  have nM := h.own_ne (b := M) (by rw [h.tM]; decide)
  have ng := h.own_ne (b := g) (by rw [hg]; decide)
  have neMg : M ≠ g := fun e => by have := h.tM; rw [e, hg] at this; cases this
  have k : ∀ {o v}, w.cell? ⟨M, o, none⟩ = some v → w4.cell? ⟨M, o, none⟩ = some v := fun hc => (grown_cell gr h.mlt nM).trans hc
  have gs := grown_set w4 M 3 v
  obtain ⟨ck, hck⟩ := h.m2
  have vM : v.ownBlock ≠ some M := by
    rcases hv with e | ⟨x, hx, e⟩
    · rw [e]; exact fun e => nM e.symm
    · rw [e]; intro e; injection e with e; have := h.mlt; omega
  have vg : v.ownBlock ≠ some g := by
    rcases hv with e | ⟨x, hx, e⟩
    · rw [e]; exact fun e => ng e.symm
    · rw [e]; intro e; injection e with e; have := fr.lt; omega
  refine ⟨set_other (by decide) (k h.m0), ⟨ck, set_other (by decide) (k hck)⟩, set_same (k h.m3), fun j => ?_, ?_, ?_, fun i hi => ?_, (fr.kept gr ng).kept gs (by intro e; injection e with e; exact neMg e.symm), neMg, vM, vg, v, set_same (k h.m3)⟩
  · rw [World.frozen?_setCell]; exact (grown_frozen gr h.mlt nM).trans (h.mz j)
  · have := gr.size; have := h.mlt; simp [World.setCell]; omega
  · rw [more_row] at own
    exact own.kept gs (.inr fun e => vM e)
  · rw [more_old pg np g hi]
    have hp := (h.pgs i hi).kept gr (h.own_ne (by rw [h.tpg i hi]; omega))
    exact (hp.kept gs (by intro e; injection e with e; have := h.tpg i hi; rw [e, h.tM] at this; omega)).hr
open Classical in
/-- the tags behind an added page -/
noncomputable def tagged (tag : Nat → Nat) (g np : Nat) (v : Value) : Nat → Nat := fun b => if b = g then 5 + np else if v.ownBlock = some b then 4 else tag b
theorem Half.added (h : Half Z tag w M so im pv pg np ns fs) (fr : Fresh w g) (hg : tag g = 0) (gr : w.grownBy w4 pv.ownBlock) (own : w4.ownsRow 0 44 1 v (np + 1) (((List.range np).map fun i => Value.pointer (some ⟨pg i, 0, none⟩)) ++ [.pointer (some ⟨g, 0, none⟩)]))
    (hv : v.ownBlock = pv.ownBlock ∨ ∃ x, w.heap.size ≤ x ∧ v.ownBlock = some x) (x : Int) (q : Nat)
    (hw : w' = ((((w4.setCell ⟨M, 3, none⟩ v).setCell ⟨M, 2, none⟩ (.int .i64 x)).setCell ⟨g, 18, none⟩ (.int .i64 x)).drewN q).setCell ⟨g, 17, none⟩ (.bool true)) :
    Half w'.heap.size (tagged tag g np v) w' M so im v (more pg np g) (np + 1) ns fs ∧ (∀ b, b < w.heap.size → b ≠ g → tagged tag g np v b = tag b) ∧ w.heap.size ≤ w'.heap.size ∧ Turn (tagged tag g np v) w w' := by
  have nM := h.own_ne (b := M) (by rw [h.tM]; decide)
  have ng := h.own_ne (b := g) (by rw [hg]; decide)
  have neMg : M ≠ g := fun e => by have := h.tM; rw [e, hg] at this; cases this
  have gs3 := grown_set w4 M 3 v
  have gs2 := grown_set (w4.setCell ⟨M, 3, none⟩ v) M 2 (.int .i64 x)
  have g23 : w4.grownBy ((w4.setCell ⟨M, 3, none⟩ v).setCell ⟨M, 2, none⟩ (.int .i64 x)) (some M) := grown_trans gs3 gs2
  have gs18 := grown_set ((w4.setCell ⟨M, 3, none⟩ v).setCell ⟨M, 2, none⟩ (.int .i64 x)) g 18 (.int .i64 x)
  have gg : ((w4.setCell ⟨M, 3, none⟩ v).setCell ⟨M, 2, none⟩ (.int .i64 x)).grownBy w' (some g) := by
    subst hw
    have hd : (((w4.setCell ⟨M, 3, none⟩ v).setCell ⟨M, 2, none⟩ (.int .i64 x)).setCell ⟨g, 18, none⟩ (.int .i64 x)).grownBy ((((w4.setCell ⟨M, 3, none⟩ v).setCell ⟨M, 2, none⟩ (.int .i64 x)).setCell ⟨g, 18, none⟩ (.int .i64 x)).drewN q) (some g) := ⟨rfl, rfl, rfl, Nat.le_refl _, fun _ _ _ => rfl⟩
    exact grown_trans gs18 (grown_trans hd (grown_set _ g 17 _))
  have hp : Page w' g (fun _ => 0) := by
    subst hw
    exact (((fr.kept gr ng).kept g23 (by intro e; injection e with e; exact neMg e.symm))).asked x q
  have szg := gr.size
  have sz2 := g23.size
  have sz3 := gg.size
  have bM := h.mlt
  have bg := fr.lt
  have vM : v.ownBlock ≠ some M := by
    rcases hv with e | ⟨x, hx, e⟩
    · rw [e]; exact fun e => nM e.symm
    · rw [e]; intro e; injection e with e; omega
  have vg : v.ownBlock ≠ some g := by
    rcases hv with e | ⟨x, hx, e⟩
    · rw [e]; exact fun e => ng e.symm
    · rw [e]; intro e; injection e with e; omega
  have k : ∀ {o u}, w4.cell? ⟨M, o, none⟩ = some u → o ≠ 3 → o ≠ 2 → w'.cell? ⟨M, o, none⟩ = some u := fun hc h3 h2 => (grown_cell gg (by omega) (by intro e; injection e with e; exact neMg e)).trans (set_other h2 (set_other h3 hc))
  have k4 : ∀ {o u}, w.cell? ⟨M, o, none⟩ = some u → w4.cell? ⟨M, o, none⟩ = some u := fun hc => (grown_cell gr h.mlt nM).trans hc
  have toM : ∀ {o u}, ((w4.setCell ⟨M, 3, none⟩ v).setCell ⟨M, 2, none⟩ (.int .i64 x)).cell? ⟨M, o, none⟩ = some u → w'.cell? ⟨M, o, none⟩ = some u := fun hc => (grown_cell gg (by omega) (by intro e; injection e with e; exact neMg e)).trans hc
  obtain ⟨ck, hck⟩ := h.m2
  have t0 : ∀ b, b < w.heap.size → b ≠ g → tagged tag g np v b = tag b := by
    intro b hb hbg
    unfold tagged
    rw [if_neg hbg]
    by_cases e : v.ownBlock = some b
    · rw [if_pos e]
      rcases hv with e2 | ⟨x, hx, e2⟩
      · exact (h.tpv b (e2.symm.trans e)).symm
      · rw [e2] at e; injection e with e; omega
    · rw [if_neg e]
  have lt_of : ∀ {b}, tag b ≠ 0 → b < w.heap.size := fun {b} hb => by
    by_cases e : Z ≤ b
    · exact absurd (h.tz b e) hb
    · have := h.zle; omega
  have tt : ∀ {b t}, tag b = t → t ≠ 0 → tagged tag g np v b = t := fun {b t} hb ht => by
    rw [t0 b (lt_of (by omega)) (fun e => by subst e; omega)]; exact hb
  have ne3 : ∀ {b t}, tag b = t → t ≠ 0 → t ≠ 1 → t ≠ 4 → (some b ≠ pv.ownBlock ∧ some b ≠ some M ∧ some b ≠ some g) := fun {b t} hb h0 h1 h4 =>
    ⟨h.own_ne (by omega), by intro e; injection e with e; subst e; exact h1 (hb.symm.trans h.tM), by intro e; injection e with e; subst e; omega⟩
  refine ⟨⟨k (k4 h.m0) (by decide) (by decide), k (k4 h.m1) (by decide) (by decide), ⟨x, toM (set_same (set_other (by decide) (k4 hck)))⟩, toM (set_other (by decide) (set_same (k4 h.m3))), k (k4 h.m4) (by decide) (by decide), fun j => ?_, by omega, ?_, ?_, ?_, fun i hi => ?_, tt h.tM (by decide), tt h.tso (by decide), tt h.tim (by decide), fun b hb => ?_, fun i hi => ?_, fun b hb => ?_, Nat.le_refl _⟩, t0, by omega, ?_⟩
  · refine (grown_frozen gg (by omega) (by intro e; injection e with e; exact neMg e)).trans ?_
    rw [World.frozen?_setCell, World.frozen?_setCell]
    exact (grown_frozen gr h.mlt nM).trans (h.mz j)
  · rw [more_row] at own
    exact (own.kept g23 (.inr fun e => vM e)).kept gg (.inr fun e => vg e)
  · obtain ⟨a1, a2, a3⟩ := ne3 h.tso (by decide) (by decide) (by decide)
    exact ((h.om.kept gr a1).kept g23 a2).kept gg a3
  · obtain ⟨a1, a2, a3⟩ := ne3 h.tim (by decide) (by decide) (by decide)
    exact ((h.sm.kept gr a1).kept g23 a2).kept gg a3
  · by_cases e : i = np
    · subst e; rw [more_new]; exact hp
    · have hi' : i < np := by omega
      rw [more_old pg np g hi']
      obtain ⟨a1, a2, a3⟩ := ne3 (h.tpg i hi') (by omega) (by omega) (by omega)
      exact (((h.pgs i hi').kept gr a1).kept g23 a2).kept gg a3
  · unfold tagged
    rw [if_neg (by intro e; subst e; exact vg hb), if_pos hb]
  · by_cases e : i = np
    · subst e; rw [more_new]; unfold tagged; rw [if_pos rfl]
    · have hi' : i < np := by omega
      rw [more_old pg np g hi']
      exact tt (h.tpg i hi') (by omega)
  · unfold tagged
    rw [if_neg (by omega), if_neg, h.tz b (by have := h.zle; omega)]
    intro e
    have := (own.lt b e).2
    omega
  · refine ⟨gg.os.trans (g23.os.trans gr.os), gg.tape.trans (g23.tape.trans gr.tape), gg.output.trans (g23.output.trans gr.output), by omega, fun b hb htb => ?_⟩
    have hbg : b ≠ g := by intro e; subst e; unfold tagged at htb; rw [if_pos rfl] at htb; omega
    rw [t0 b hb hbg] at htb
    refine (gg.block b (by omega) (by intro e; injection e with e; exact hbg e)).trans ((g23.block b (by omega) (by intro e; injection e with e; subst e; have := h.tM; omega)).trans (gr.block b hb (h.own_ne (by omega))))
end
end Go.Proofs.YtopadiofanaaiaaDoor
