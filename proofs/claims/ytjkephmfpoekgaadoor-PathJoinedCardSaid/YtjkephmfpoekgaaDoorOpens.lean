/- Arguments of the laws on ways, opened. -/
import Derived.Test.YtjkephmfpoekgaaDoorPathUpW
import Derived.Test.YtjkephmfpoekgaaDoorAgg
import Derived.SizedLaws
namespace Go.Proofs.YtjkephmfpoekgaaDoor.PathLaw
open Go.ChangeShapes Go.WideShapes Go.Deep Go.RowKit Go.Proofs.YtjkephmfpoekgaaDoor.CredLaw
set_option linter.unusedVariables false
set_option linter.unusedSimpArgs false
section
variable {H : Type} {enc : TypeId × Value → H} {w : World} {base : Nat} {held : Bool}
set_option maxRecDepth 100000 in
theorem fld_names {n : Nat} {v : Value} {y : DataW H × List MemPlace} (h : DataW.trod enc Tryd.prog w base (fun _ => true) held n 43 [v] = some y) : ∃ l : List (ByteArray × Int), NamesS w v l := by
  rcases open_slice_fields Tryd.underlying43 Tryd.underlying42 (by kernel_rfl) (by kernel_rfl) h with ⟨hcs, _⟩ | ⟨a, len, cap, m, D, Pl, hcs, hb, hl, hm, hmm, hx, hi⟩
  · simp at hcs
    subst hcs
    exact ⟨[], ⟨none, 0, rfl, Nat.le_refl _, Nat.zero_le _, .inl rfl⟩⟩
  · simp at hcs
    subst hcs
    have hmc : m = cap := by simpa using hmm
    haveI : Inhabited (ByteArray × Int) := ⟨(⟨#[]⟩, 0)⟩
    obtain ⟨g, hg⟩ := choose_lt (α := ByteArray × Int) (n := len) (p := fun i x => w.cell? (a.add (i * 2)) = some (.string x.1) ∧ w.cell? (a.add (i * 2 + 1)) = some (.int .i64 x.2)) (fun i hil => by
      obtain ⟨ys, n, _, _, hyl, hf⟩ := hi i (by omega)
      obtain ⟨v0, y0, c0, _, t0⟩ := hf 0 _ rfl
      obtain ⟨v1, y1, c1, _, t1⟩ := hf 1 _ rfl
      obtain ⟨s, hs, _⟩ := DataW.trod_string Tryd.underlying9 t0
      obtain ⟨z1, rfl, _⟩ := fld_int Tryd.underlying3 t1
      have hs' : v0 = .string s := by simpa using hs
      subst hs'
      exact ⟨(s, z1), c0, c1⟩)
    have hL : ((List.range len).map g).length = len := by simp
    refine ⟨(List.range len).map g, ⟨some a, cap, by rw [hL], by rw [hL]; exact hl, hm, ?_⟩⟩
    by_cases h0 : len = 0
    · subst h0; exact .inl rfl
    · obtain ⟨b, off, spot⟩ := a
      have hc0 := (hg 0 (by omega)).1
      have hspot : spot = none := by simpa [Addr.add] using World.cell?_spot hc0
      subst hspot
      refine .inr ⟨b, off, rfl, ?_, fun i hil => ?_⟩
      · have := World.block_lt_of_cell? w _ hc0
        rw [Addr.add_lit] at this
        exact this
      · have hil' : i < len := by rw [hL] at hil; exact hil
        obtain ⟨c0, c1⟩ := hg i hil'
        rw [Addr.add_lit] at c0 c1
        rw [show ((List.range len).map g).getD i (⟨#[]⟩, 0) = g i by simp [List.getD, hil'], Nat.add_assoc]
        exact ⟨c0, c1⟩
theorem take1 {cs : List Value} {i : Nat} (hi : i < cs.length) : (cs.drop i).take 1 = [cs[i]] := by
  rw [List.drop_eq_getElem_cons hi]
  rfl
set_option maxRecDepth 100000 in
theorem node_of {n : Nat} {cs : List Value} {y : DataW H × List MemPlace} {b o : Nat} (hl : cs.length = 8) (hlt : b < w.heap.size) (hc : ∀ j (hj : j < 8), w.cell? ⟨b, o + j, none⟩ = some (cs[j]'(by omega))) (h : DataW.trod enc Tryd.prog w base (fun _ => true) held n 45 cs = some y) : ∃ d : Nd, NdS w b o d := by
  obtain ⟨ys, m, _, _, _, hyl, hf⟩ := DataW.trod_struct Tryd.underlying45 h
  have hyl : ys.length = 3 := hyl
  have hC36 : Tryd.prog.cellsOf 36 = 6 := by kernel_rfl
  have hC43 : Tryd.prog.cellsOf 43 = 1 := by kernel_rfl
  have hC9 : Tryd.prog.cellsOf 9 = 1 := by kernel_rfl
  have hC3 : Tryd.prog.cellsOf 3 = 1 := by kernel_rfl
  have f0 : DataW.trod enc Tryd.prog w base (fun _ => true) held m 36 ((cs.drop 0).take (Tryd.prog.cellsOf 36)) = ys[0]? := hf 0 _ rfl
  have f1 : DataW.trod enc Tryd.prog w base (fun _ => true) held m 43 ((cs.drop 6).take (Tryd.prog.cellsOf 43)) = ys[1]? := hf 1 _ rfl
  have f2 : DataW.trod enc Tryd.prog w base (fun _ => true) held m 9 ((cs.drop 7).take (Tryd.prog.cellsOf 9)) = ys[2]? := hf 2 _ rfl
  rw [hC36, List.drop_zero, List.getElem?_eq_getElem (by omega)] at f0
  rw [hC43, take1 (by omega), List.getElem?_eq_getElem (by omega)] at f1
  rw [hC9, take1 (by omega), List.getElem?_eq_getElem (by omega)] at f2
  obtain ⟨zs, m2, _, _, _, hzl, hg⟩ := DataW.trod_struct Tryd.underlying36 f0
  have hzl : zs.length = 6 := hzl
  have one : ∀ j (hj : j < 6), (DataW.trod enc Tryd.prog w base (fun _ => true) held m2 3 (((cs.take 6).drop j).take (Tryd.prog.cellsOf 3)) = zs[j]?) → ∃ z : Int, cs[j]'(by omega) = .int .i64 z := by
    intro j hj h1
    rw [hC3, List.drop_take, List.take_take, Nat.min_eq_left (by omega), take1 (by omega), List.getElem?_eq_getElem (by omega)] at h1
    obtain ⟨z, hz, _⟩ := fld_int Tryd.underlying3 h1
    exact ⟨z, hz⟩
  obtain ⟨z0, e0⟩ := one 0 (by decide) (hg 0 _ rfl)
  obtain ⟨z1, e1⟩ := one 1 (by decide) (hg 1 _ rfl)
  obtain ⟨z2, e2⟩ := one 2 (by decide) (hg 2 _ rfl)
  obtain ⟨z3, e3⟩ := one 3 (by decide) (hg 3 _ rfl)
  obtain ⟨z4, e4⟩ := one 4 (by decide) (hg 4 _ rfl)
  obtain ⟨z5, e5⟩ := one 5 (by decide) (hg 5 _ rfl)
  obtain ⟨l, hnm⟩ := fld_names f1
  obtain ⟨s, hs, _⟩ := DataW.trod_string Tryd.underlying9 f2
  have e7 : cs[7]'(by omega) = .string s := by simpa using hs
  have k : ∀ j (hj : j < 8) v, cs[j]'(by omega) = v → w.cell? ⟨b, o + j, none⟩ = some v := fun j hj v hv => by rw [hc j hj, hv]
  exact ⟨⟨⟨z0, z1, z2, z3, z4, z5⟩, l, s⟩, hlt, k 0 (by decide) _ e0, k 1 (by decide) _ e1, k 2 (by decide) _ e2, k 3 (by decide) _ e3, k 4 (by decide) _ e4, k 5 (by decide) _ e5, ⟨_, k 6 (by decide) _ rfl, hnm⟩, k 7 (by decide) _ e7⟩
set_option maxRecDepth 100000 in
theorem open_tree {r : Reach} {b0 : Nat} {v : Value} {d : DataW H} {p : List MemPlace} (hv : Value.okWide Tryd.prog w r b0 24 v) (h : DataW.Trod enc Tryd.prog w base (fun _ => true) held 24 v d p) : ∃ T, TreeS w v T := by
  obtain ⟨cs, n, rfl, hsz, hf⟩ := open_aggN Tryd.underlying24 (by kernel_rfl) (by kernel_rfl) hv h
  have hsz : cs.size = 1 := hsz
  obtain ⟨y0, t0⟩ := hf 0 _ cs[0] rfl (Array.getElem?_eq_getElem (by omega))
  have hcs : cs = #[cs[0]] := by
    apply Array.ext
    · simp [hsz]
    · intro i h1 h2
      have : i = 0 := by omega
      subst this
      rfl
  generalize cs[0] = x at *
  subst hcs
  have hC : Tryd.prog.cellsOf 45 = 8 := by kernel_rfl
  rcases open_slice Tryd.underlying22 t0 with ⟨hcs, _⟩ | ⟨a, len, cap, m, n', D, Pl, hcs, hb, hl, hm, hmm, hx, hi⟩
  · simp at hcs
    subst hcs
    exact ⟨[], ⟨none, 0, rfl, Nat.le_refl _, Nat.zero_le _, .inl rfl⟩⟩
  · simp at hcs
    subst hcs
    have hmc : m = cap := by simpa using hmm
    by_cases h0 : len = 0
    · subst h0
      exact ⟨[], ⟨some a, cap, rfl, Nat.zero_le _, hm, .inl rfl⟩⟩
    · have hspot : a.spot = none := by
        obtain ⟨cs', hc, _⟩ := hi 0 (by omega)
        rw [hC] at hc
        obtain ⟨_, hcl, hat⟩ := World.cells?_some hc
        have h1 := hat 0 (by decide)
        rw [List.getElem?_eq_getElem (by omega)] at h1
        obtain ⟨b, off, spot⟩ := a
        simpa [Addr.add] using World.cell?_spot h1
      obtain ⟨b, off, spot⟩ := a
      dsimp only at hspot
      subst hspot
      haveI : Inhabited Nd := ⟨zeroNd⟩
      obtain ⟨g, hg⟩ := choose_lt (α := Nd) (n := len) (p := fun i x => NdS w b (off + i * 8) x) (fun i hil => by
        obtain ⟨cs', hc, ht'⟩ := hi i (by omega)
        rw [hC] at hc
        obtain ⟨_, hcl, hat⟩ := World.cells?_some hc
        have hcell : ∀ j (hj : j < 8), w.cell? ⟨b, off + i * 8 + j, none⟩ = some (cs'[j]'(by omega)) := fun j hj => by
          have h1 := hat j hj
          rw [List.getElem?_eq_getElem (by omega)] at h1
          rw [Addr.add_lit, Addr.add_lit] at h1
          exact h1
        exact node_of hcl (World.block_lt_of_cell? w _ (hcell 0 (by decide))) hcell ht')
      have hL : ((List.range len).map g).length = len := by simp
      refine ⟨(List.range len).map g, ⟨_, cap, by rw [hL], by rw [hL]; exact hl, hm, .inr ⟨b, off, rfl, fun i hil => ?_⟩⟩⟩
      have hil' : i < len := by rw [hL] at hil; exact hil
      rw [show ((List.range len).map g).getD i zeroNd = g i by simp [List.getD, hil']]
      exact hg i hil'
set_option maxRecDepth 100000 in
theorem open_ints_sized {r : Reach} {b0 : Nat} {v : Value} {d : DataW H} {p : List MemPlace} (hv : Value.okWide Tryd.prog w r b0 25 v) (h : DataW.Trod enc Tryd.prog w base (fun _ => true) held 25 v d p) (hz : ∀ k ∈ d.weights Tryd.prog 25, k ≤ reachBytes) : ∃ xs : List Int, At (Value.int .i64) 0 w v xs ∧ xs.length + 288 ≤ 17592186044416 := by
  obtain ⟨xs, hx, _⟩ := open_at_int Tryd.underlying25 Tryd.underlying3 (by kernel_rfl) hv h
  refine ⟨xs, hx, ?_⟩
  obtain ⟨a0, cap0, rfl, -⟩ := hx
  obtain ⟨fuel, hf⟩ := h
  rcases open_slice1 Tryd.underlying25 (by kernel_rfl) hf with ⟨hcs, _⟩ | ⟨a, len, cap, m, n, V, D, Pl, hcs, hb, hl, hm, hmm, hx, hi⟩
  · simp [Value.cells] at hcs
    obtain ⟨-, h0, -⟩ := hcs
    have h00 : xs.length = 0 := by first | exact h0 | (rw [h0]; rfl)
    omega
  · simp [Value.cells] at hcs
    obtain ⟨-, h0, -⟩ := hcs
    have hB : Tryd.prog.bytesOf 3 = 8 := by kernel_rfl
    have hxx : d = _ := (Prod.mk.inj hx).1
    have hw := hz ((len + (m - len)) * Tryd.prog.bytesOf 3) (by rw [hxx]; simp [DataW.weights, Tryd.underlying25])
    rw [hB] at hw
    simp only [reachBytes] at hw
    omega
end
end Go.Proofs.YtjkephmfpoekgaaDoor.PathLaw
