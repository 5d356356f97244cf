/- Arguments that are slices of arrays of ints, opened to cells. No program here. -/
import Derived.Test.YtgdihccmkleimaaBase
namespace Go.Proofs.Ytgdihccmkleimaa
open Go.ChangeShapes Go.WideShapes Go.Deep Go.RowKit

/-- A SLICE OF ARRAYS OF k INTS: element i's entry j is F i j. -/
def TabIn (w : World) (k : Nat) (v : Value) (len : Nat) (F : Nat → Nat → Int) : Prop :=
  ∃ (a : Option Addr) (cap : Nat), v = .slice a len cap ∧ len ≤ cap ∧ cap ≤ maxLen ∧ (len = 0 ∨ ∃ b off, a = some ⟨b, off, none⟩ ∧ b < w.heap.size ∧
    ∀ i, i < len → ∀ j, j < k → w.cell? ⟨b, off + i * k + j, none⟩ = some (.int .i64 (F i j)) ∧ -9223372036854775808 ≤ F i j ∧ F i j ≤ 9223372036854775807)

section
variable {H : Type} {enc : TypeId × Value → H} {P : Program} {w : World} {base : Nat} {held : Bool}
theorem open_tab {r : Reach} {b0 : Nat} {t e q : TypeId} {k : Nat} {v : Value} {d : DataW H} {p : List MemPlace} (ht : P.underlying t = some (.slice e)) (he : P.underlying e = some (.array k q)) (hq : P.underlying q = some (.int .i64))
    (hc1 : P.cellsOf q = 1) (hC : P.cellsOf e = k) (hpos : 0 < k)
    (hv : Value.okWide P w r b0 t v) (h : DataW.Trod enc P w base (fun _ => true) held t v d p) : ∃ len F, TabIn w k v len F := by
  obtain ⟨a0, len0, cap0, rfl⟩ := okWide_slice ht hv
  obtain ⟨fuel, hf⟩ := h
  rcases open_slice ht hf with ⟨hcs, _⟩ | ⟨a, len, cap, m, n, D, Pl, hcs, hb, hl, hm, hmm, hx, hi⟩
  · simp [Value.cells] at hcs
    obtain ⟨rfl, rfl, rfl⟩ := hcs
    exact ⟨0, fun _ _ => 0, none, 0, rfl, Nat.le_refl _, Nat.zero_le _, .inl rfl⟩
  · simp [Value.cells] at hcs
    obtain ⟨rfl, rfl, rfl⟩ := hcs
    have hmc : m = cap0 := by simpa using hmm
    by_cases h0 : len0 = 0
    · exact ⟨len0, fun _ _ => 0, some a, cap0, rfl, hl, hm, .inl h0⟩
    · obtain ⟨F, hF⟩ := choose_lt (α := Nat → Int) (n := len0) (p := fun i g => ∀ j, j < k → w.cell? (a.add (i * k + j)) = some (.int .i64 (g j)) ∧ -9223372036854775808 ≤ g j ∧ g j ≤ 9223372036854775807) (fun i hil => by
        obtain ⟨cs', hc, ht'⟩ := hi i (by omega)
        rw [hC] at hc
        obtain ⟨ys, n', hn', hy, hlen, hyl, hfld⟩ := DataW.trod_array he ht'
        obtain ⟨_, hcl, hat⟩ := World.cells?_some hc
        exact choose_lt (α := Int) (n := k) (p := fun j x => w.cell? (a.add (i * k + j)) = some (.int .i64 x) ∧ -9223372036854775808 ≤ x ∧ x ≤ 9223372036854775807) (fun j hj => by
          have hcell := hat j hj
          have hv : cs'[j]? = some (cs'[j]'(by omega)) := List.getElem?_eq_getElem (by omega)
          have h1 := hfld j hj
          rw [hc1, Nat.mul_one] at h1
          have hone' : (cs'.drop j).take 1 = [cs'[j]'(by omega)] := by
            rw [List.drop_eq_getElem_cons (by omega)]
            rfl
          rw [hone'] at h1
          have hys : ys[j]? = some (ys[j]'(by omega)) := List.getElem?_eq_getElem (by omega)
          rw [hys] at h1
          obtain ⟨z, hz, _, hw⟩ := DataW.trod_int hq h1
          have hz' : cs'[j]'(by omega) = .int .i64 z := by simpa using hz
          refine ⟨z, ?_, bounds_i64 hw⟩
          rw [← Go.Deep.add_add, hcell, hv, hz']))
      obtain ⟨b, off, spot⟩ := a
      have hc0 := (hF 0 (by omega) 0 hpos).1
      have hspot : spot = none := by simpa [Addr.add] using World.cell?_spot hc0
      subst hspot
      refine ⟨len0, F, _, cap0, rfl, hl, hm, .inr ⟨b, off, rfl, ?_, fun i hil j hj => ?_⟩⟩
      · have := World.block_lt_of_cell? w _ hc0
        rw [Addr.add_lit] at this
        exact this
      · have := hF i hil j hj
        rw [Addr.add_lit] at this
        rw [Nat.add_assoc]
        exact this
end
end Go.Proofs.Ytgdihccmkleimaa
