/- An argument that is an image, opened. -/
import Derived.Test.YtgdihccmkleimaaBootLaw
import Derived.Test.YtgdihccmkleimaaAgg
namespace Go.Proofs.Ytgdihccmkleimaa.BootLaw
open Go.ChangeShapes Go.WideShapes Go.Deep Go.RowKit
set_option linter.unusedVariables false
set_option linter.unusedSimpArgs false
section
variable {H : Type} {enc : TypeId × Value → H} {w : World} {base : Nat} {held : Bool}
/-- a field that is a slice of bytes -/
theorem fld_bytes {n : Nat} {v : Value} {y : DataW H × List MemPlace} (h : DataW.trod enc Try.prog w base (fun _ => true) held n 24 [v] = some y) : ∃ xs : List Int, BS w v xs ∧ Byt xs := by
  rcases open_slice1 Try.underlying24 (by kernel_rfl) h with ⟨hcs, _⟩ | ⟨a, len, cap, m, n, V, D, Pl, hcs, hb, hl, hm, hmm, hx, hi⟩
  · simp at hcs
    subst hcs
    exact ⟨[], ⟨none, 0, rfl, Nat.le_refl _, Nat.zero_le _, .inl rfl⟩, fun x hx => by simp at hx⟩
  · simp at hcs
    subst hcs
    have hmc : m = cap := by simpa using hmm
    obtain ⟨g, hg⟩ := choose_lt (α := Int) (n := len) (p := fun i x => V i = .int .u8 x ∧ 0 ≤ x ∧ x ≤ 255) (fun i hil => by
      obtain ⟨z, hz, _, hw⟩ := DataW.trod_int Try.underlying5 (hi i (by omega)).2
      exact ⟨z, by simpa using hz, bounds_u8 hw⟩)
    refine ⟨(List.range len).map g, ⟨some a, cap, by simp, by simpa using hl, hm, ?_⟩, fun x hx => ?_⟩
    · by_cases h0 : len = 0
      · subst h0; exact .inl rfl
      · obtain ⟨b, off, spot⟩ := a
        have hc0 := (hi 0 (by omega)).1
        have hspot : spot = none := by simpa [Addr.add] using World.cell?_spot hc0
        subst hspot
        refine .inr ⟨b, off, rfl, ?_, fun i hil => ?_⟩
        · have := World.block_lt_of_cell? w _ hc0
          rw [Addr.add_lit] at this
          exact this
        · have hil' : i < len := by simpa using hil
          have := (hi i (by omega)).1
          rw [Addr.add_lit, (hg i hil').1] at this
          simpa [List.getD, hil'] using this
    · obtain ⟨i, hir, rfl⟩ := List.mem_map.1 hx
      exact (hg i (by simpa using hir)).2
/-- a field that is a slice of pages -/
theorem fld_pages {n : Nat} {v : Value} {y : DataW H × List MemPlace} (h : DataW.trod enc Try.prog w base (fun _ => true) held n 86 [v] = some y) : ∃ ps : List Pg, PgS w v ps ∧ ∀ i, i < ps.length → Byt (pAt ps i).da := by
  rcases open_slice_fields Try.underlying86 Try.underlying96 (by kernel_rfl) (by kernel_rfl) h with ⟨hcs, _⟩ | ⟨a, len, cap, m, D, Pl, hcs, hb, hl, hm, hmm, hx, hi⟩
  · simp at hcs
    subst hcs
    exact ⟨[], ⟨none, 0, rfl, Nat.le_refl _, Nat.zero_le _, .inl rfl⟩, fun i hi => by simp at hi⟩
  · simp at hcs
    subst hcs
    have hmc : m = cap := by simpa using hmm
    haveI : Inhabited (Pg × Value) := ⟨(zeroP, undef)⟩
    obtain ⟨g, hg⟩ := choose_lt (α := Pg × Value) (n := len) (p := fun i x => w.cell? (a.add (i * 3)) = some (.int .i64 x.1.pg) ∧ w.cell? (a.add (i * 3 + 1)) = some (.int .i64 x.1.rt) ∧ w.cell? (a.add (i * 3 + 2)) = some x.2 ∧ BS w x.2 x.1.da ∧ Byt x.1.da) (fun i hil => by
      obtain ⟨ys, n, _, _, hyl, hf⟩ := hi i (by omega)
      obtain ⟨v0, y0, c0, _, t0⟩ := hf 0 _ rfl
      obtain ⟨v1, y1, c1, _, t1⟩ := hf 1 _ rfl
      obtain ⟨v2, y2, c2, _, t2⟩ := hf 2 _ rfl
      obtain ⟨z0, rfl, _⟩ := fld_int Try.underlying3 t0
      obtain ⟨z1, rfl, _⟩ := fld_int Try.underlying3 t1
      obtain ⟨xs, h1, h2⟩ := fld_bytes t2
      exact ⟨(⟨z0, z1, xs⟩, v2), c0, c1, c2, h1, h2⟩)
    have hp : ∀ i, i < len → pAt ((List.range len).map fun i => (g i).1) i = (g i).1 := fun i hil => by
      unfold pAt
      rw [List.getD_eq_getElem?_getD, List.getElem?_map, List.getElem?_range hil]
      rfl
    have hL : ((List.range len).map fun i => (g i).1).length = len := by simp
    refine ⟨(List.range len).map fun i => (g i).1, ⟨some a, cap, by rw [hL], by rw [hL]; exact hl, hm, ?_⟩, fun i hil => ?_⟩
    · by_cases h0 : len = 0
      · subst h0; exact .inl rfl
      · obtain ⟨b, off, spot⟩ := a
        have hc0 := (hg 0 (by omega)).1
        have hspot : spot = none := by simpa [Addr.add] using World.cell?_spot hc0
        subst hspot
        refine .inr ⟨b, off, fun i => (g i).2, rfl, ?_, fun i hil => ?_⟩
        · have := World.block_lt_of_cell? w _ hc0
          rw [Addr.add_lit] at this
          exact this
        · have hil' : i < len := by rw [hL] at hil; exact hil
          obtain ⟨c0, c1, c2, h1, _⟩ := hg i hil'
          rw [Addr.add_lit] at c0 c1 c2
          rw [hp i hil', Nat.add_assoc, Nat.add_assoc]
          exact ⟨c0, c1, c2, h1⟩
    · rw [hL] at hil
      rw [hp i hil]
      exact (hg i hil).2.2.2.2
set_option maxRecDepth 100000 in
theorem open_image {r : Reach} {b0 : Nat} {v : Value} {d : DataW H} {p : List MemPlace} (hv : Value.okWide Try.prog w r b0 88 v) (h : DataW.Trod enc Try.prog w base (fun _ => true) held 88 v d p) :
    ∃ (e : Nat) (pv : Value) (ps : List Pg), v = .agg #[.int .u32 e, pv] ∧ e < 4294967296 ∧ PgS w pv ps ∧ ∀ i, i < ps.length → Byt (pAt ps i).da := by
  obtain ⟨cs, n, rfl, hsz, hf⟩ := open_aggN Try.underlying88 (by kernel_rfl) (by kernel_rfl) hv h
  have hsz : cs.size = 2 := hsz
  obtain ⟨y0, t0⟩ := hf 0 _ cs[0] rfl (Array.getElem?_eq_getElem (by omega))
  obtain ⟨y1, t1⟩ := hf 1 _ cs[1] rfl (Array.getElem?_eq_getElem (by omega))
  obtain ⟨z, hz, _, hw⟩ := DataW.trod_int Try.underlying85 t0
  obtain ⟨ps, h1, h2⟩ := fld_pages t1
  have hb := bounds_u32 hw
  have hz' : cs[0] = .int .u32 z := by simpa using hz
  refine ⟨z.toNat, cs[1], ps, ?_, by omega, h1, h2⟩
  rw [Int.toNat_of_nonneg (by omega), ← hz']
  congr 1
  apply Array.ext
  · simp [hsz]
  · intro i h1 h2
    have : i = 0 ∨ i = 1 := by omega
    rcases this with rfl | rfl <;> rfl
end
end Go.Proofs.Ytgdihccmkleimaa.BootLaw
