/- Arguments that are registers or a room of memory, opened. -/
import Derived.Test.YtopadiofanaaiaaCpuRow
import Derived.Test.YtopadiofanaaiaaAgg
import Derived.SizedLaws
namespace Go.Proofs.Ytopadiofanaaiaa.CpuLaw
open Go.ChangeShapes Go.WideShapes Go.Deep Go.RowKit
set_option linter.unusedVariables false
set_option linter.unusedSimpArgs false
set_option maxRecDepth 100000 in
theorem ext10 {cs : Array Value} {z : Nat → Nat} {pc : Nat} {ring : Int} (hs : cs.size = 10) (h : ∀ i, i < 8 → cs[i]? = some (.int .u32 (z i))) (h8 : cs[8]? = some (.int .u32 pc)) (h9 : cs[9]? = some (.int .i64 ring)) : cs = cellsA ⟨z, pc, ring⟩ := by
  obtain ⟨l⟩ := cs
  match l, hs with
  | [c0, c1, c2, c3, c4, c5, c6, c7, c8, c9], _ =>
    have e0 := Option.some.inj (h 0 (by decide))
    have e1 := Option.some.inj (h 1 (by decide))
    have e2 := Option.some.inj (h 2 (by decide))
    have e3 := Option.some.inj (h 3 (by decide))
    have e4 := Option.some.inj (h 4 (by decide))
    have e5 := Option.some.inj (h 5 (by decide))
    have e6 := Option.some.inj (h 6 (by decide))
    have e7 := Option.some.inj (h 7 (by decide))
    have e8 := Option.some.inj h8
    have e9 := Option.some.inj h9
    simp only [List.getElem_toArray, List.getElem_cons_zero, List.getElem_cons_succ] at e0 e1 e2 e3 e4 e5 e6 e7 e8 e9
    subst e0 e1 e2 e3 e4 e5 e6 e7 e8 e9
    rfl
section
variable {H : Type} {enc : TypeId × Value → H} {w : World} {base : Nat} {held : Bool}
theorem take_one {cs : Array Value} {i : Nat} (hi : i < cs.size) : (cs.toList.drop i).take 1 = [cs[i]] := by
  rw [List.drop_eq_getElem_cons (by simpa using hi)]
  simp
set_option maxRecDepth 100000 in
theorem open_regs {spare : Nat → Bool} {r : Reach} {b0 : Nat} {v : Value} {d : DataW H} {p : List MemPlace} (hv : Value.okWide Try.prog w r b0 61 v) (h : DataW.Trod enc Try.prog w base spare held 61 v d p) : ∃ g, v = .agg (cellsA g) ∧ (∀ i, g.r i < 4294967296) ∧ g.pc < 4294967296 := by
  obtain ⟨cs, rfl, hsz⟩ := okWide_struct Try.underlying61 hv
  have hC : Try.prog.cellsOf 61 = 10 := by kernel_rfl
  have hC3 : Try.prog.cellsOf 3 = 1 := by kernel_rfl
  have hC33 : Try.prog.cellsOf 33 = 1 := by kernel_rfl
  have hC8 : Try.prog.cellsOf 59 = 8 := by kernel_rfl
  rw [hC] at hsz
  obtain ⟨fuel, hf⟩ := h
  obtain ⟨ys, n, _, hy, hlen, hyl, hfld⟩ := DataW.trod_struct Try.underlying61 hf
  have f0 : DataW.trod enc Try.prog w base spare held n 59 ((cs.toList.drop 0).take (Try.prog.cellsOf 59)) = ys[0]? := hfld 0 _ rfl
  have f1 : DataW.trod enc Try.prog w base spare held n 33 ((cs.toList.drop 8).take (Try.prog.cellsOf 33)) = ys[1]? := hfld 1 _ rfl
  have f2 : DataW.trod enc Try.prog w base spare held n 3 ((cs.toList.drop 9).take (Try.prog.cellsOf 3)) = ys[2]? := hfld 2 _ rfl
  rw [hC8] at f0
  rw [hC33] at f1
  rw [hC3] at f2
  have one : ∀ (i : Nat) (hi : i < 10) n y, DataW.trod enc Try.prog w base spare held n 33 ((cs.toList.drop i).take 1) = some y → ∃ z : Nat, cs[i]? = some (.int .u32 z) ∧ z < 4294967296 := by
    intro i hi n y h1
    rw [take_one (by omega)] at h1
    obtain ⟨z, hz, _, hw⟩ := DataW.trod_int Try.underlying33 h1
    have hz' : cs[i] = .int .u32 z := by simpa using hz
    have hb := bounds_u32 hw
    refine ⟨z.toNat, ?_, by omega⟩
    rw [Array.getElem?_eq_getElem (by omega), hz', Int.toNat_of_nonneg (by omega)]
  have arr : ∀ i, i < 8 → ∃ z : Nat, cs[i]? = some (.int .u32 z) ∧ z < 4294967296 := by
    intro i hi
    obtain ⟨ys2, n2, _, hy2, hlen2, hyl2, hfld2⟩ := DataW.trod_array Try.underlying59 (f0.trans (List.getElem?_eq_getElem (by rw [hyl]; decide)))
    have f3 := hfld2 i (by omega)
    rw [hC33, Nat.mul_one] at f3
    have e : (((cs.toList.drop 0).take 8).drop i).take 1 = (cs.toList.drop i).take 1 := by
      rw [List.drop_take, List.drop_drop, List.take_take, show 0 + i = i by omega, show min 1 (8 - i) = 1 by omega]
    rw [e] at f3
    exact one i (by omega) _ _ (f3.trans (List.getElem?_eq_getElem (by omega)))
  obtain ⟨z, hz⟩ := choose_lt (α := Nat) (n := 8) (p := fun i z => cs[i]? = some (.int .u32 z) ∧ z < 4294967296) arr
  obtain ⟨pc, h8, hpc⟩ := one 8 (by decide) _ _ (f1.trans (List.getElem?_eq_getElem (by rw [hyl]; decide)))
  rw [take_one (by omega)] at f2
  obtain ⟨ring, hr, _, _⟩ := DataW.trod_int Try.underlying3 (f2.trans (List.getElem?_eq_getElem (by rw [hyl]; decide)))
  have h9 : cs[9]? = some (.int .i64 ring) := by rw [Array.getElem?_eq_getElem (by omega)]; simpa using hr
  refine ⟨⟨fun i => if i < 8 then z i else 0, pc, ring⟩, ?_, fun i => ?_, hpc⟩
  · rw [ext10 (z := fun i => if i < 8 then z i else 0) hsz (fun i hi => by simp only [hi, if_true]; exact (hz i hi).1) h8 h9]
  · show (if i < 8 then z i else 0) < _
    split
    · rename_i hi; exact (hz i hi).2
    · decide
/-- a field that is a slice of bytes, with its weight -/
theorem fld_bytes {n : Nat} {v : Value} {y : DataW H × List MemPlace} (h : DataW.trod enc Try.prog w base (fun _ => true) held n 49 [v] = some y) (hz : ∀ k ∈ y.1.weights Try.prog 49, k ≤ reachBytes) : ∃ xs : List Int, At (Value.int .u8) 0 w v xs ∧ (∀ x ∈ xs, 0 ≤ x ∧ x ≤ 255) ∧ xs.length ≤ 140737488351232 := by
  rcases open_slice1 Try.underlying49 (by kernel_rfl) h with ⟨hcs, _⟩ | ⟨a, len, cap, m, n, V, D, Pl, hcs, hb, hl, hm, hmm, hx, hi⟩
  · simp at hcs
    subst hcs
    exact ⟨[], ⟨none, 0, rfl, Nat.le_refl _, Nat.zero_le _, .inl rfl⟩, by simp, by simp⟩
  · simp at hcs
    subst hcs
    have hmc : m = cap := by simpa using hmm
    have hB5 : Try.prog.bytesOf 5 = 1 := by kernel_rfl
    have hw := hz ((len + (m - len)) * Try.prog.bytesOf 5) (by rw [hx]; simp [DataW.weights, Try.underlying49])
    rw [hB5] at hw
    simp only [reachBytes] at hw
    obtain ⟨g, hg⟩ := choose_lt (α := Int) (n := len) (p := fun i x => V i = .int .u8 x ∧ 0 ≤ x ∧ x ≤ 255) (fun i hil => by
      obtain ⟨z, hz, _, hw⟩ := DataW.trod_int Try.underlying5 (hi i (by omega)).2
      exact ⟨z, by simpa using hz, bounds_u8 hw⟩)
    refine ⟨(List.range len).map g, ⟨some a, cap, by simp, by simpa using hl, hm, ?_⟩, ?_, ?_⟩
    · by_cases h0 : len = 0
      · subst h0; exact .inl rfl
      · obtain ⟨b, off, spot⟩ := a
        have hc0 := (hi 0 (by omega)).1
        have hspot : spot = none := by simpa [Addr.add] using World.cell?_spot hc0
        subst hspot
        refine .inr ⟨b, off, rfl, ?_, fun i hil => ?_⟩
        · have := World.block_lt_of_cell? w _ hc0
          rw [Addr.add_lit] at this
          exact this
        · have hil' : i < len := by simpa using hil
          have := (hi i (by omega)).1
          rw [Addr.add_lit, (hg i hil').1] at this
          simpa [List.getD, hil'] using this
    · intro x hx
      obtain ⟨i, hir, rfl⟩ := List.mem_map.1 hx
      exact (hg i (by simpa using hir)).2
    · simp; omega
set_option maxRecDepth 100000 in
theorem open_room {r : Reach} {b0 : Nat} {v : Value} {d : DataW H} {p : List MemPlace} (hv : Value.okWide Try.prog w r b0 58 v) (h : DataW.Trod enc Try.prog w base (fun _ => true) held 58 v d p) (hz : ∀ k ∈ d.weights Try.prog 58, k ≤ reachBytes) :
    ∃ (A : Nat) (s : Value) (xs : List Int) (may : Int), v = .agg #[.int .u32 A, s, .int .i64 may] ∧ A < 4294967296 ∧ At (Value.int .u8) 0 w s xs ∧ (∀ x ∈ xs, 0 ≤ x ∧ x ≤ 255) ∧ xs.length ≤ 140737488351232 := by
  obtain ⟨cs, rfl, hsz⟩ := okWide_struct Try.underlying58 hv
  have hC : Try.prog.cellsOf 58 = 3 := by kernel_rfl
  have hC3 : Try.prog.cellsOf 3 = 1 := by kernel_rfl
  have hC33 : Try.prog.cellsOf 33 = 1 := by kernel_rfl
  have hC49 : Try.prog.cellsOf 49 = 1 := by kernel_rfl
  rw [hC] at hsz
  obtain ⟨fuel, hf⟩ := h
  obtain ⟨ys, n, _, hy, hlen, hyl, hfld⟩ := DataW.trod_struct Try.underlying58 hf
  have f0 : DataW.trod enc Try.prog w base (fun _ => true) held n 33 ((cs.toList.drop 0).take (Try.prog.cellsOf 33)) = ys[0]? := hfld 0 _ rfl
  have f1 : DataW.trod enc Try.prog w base (fun _ => true) held n 49 ((cs.toList.drop 1).take (Try.prog.cellsOf 49)) = ys[1]? := hfld 1 _ rfl
  have f2 : DataW.trod enc Try.prog w base (fun _ => true) held n 3 ((cs.toList.drop 2).take (Try.prog.cellsOf 3)) = ys[2]? := hfld 2 _ rfl
  have hyl : ys.length = 3 := hyl
  rw [hC33, take_one (by omega), List.getElem?_eq_getElem (by omega)] at f0
  rw [hC49, take_one (by omega), List.getElem?_eq_getElem (by omega)] at f1
  rw [hC3, take_one (by omega), List.getElem?_eq_getElem (by omega)] at f2
  obtain ⟨A, hA, _, wA⟩ := DataW.trod_int Try.underlying33 f0
  obtain ⟨may, hmay, _, _⟩ := DataW.trod_int Try.underlying3 f2
  have hd : d = .agg (ys.map (·.1)) := by rw [Prod.mk.injEq] at hy; exact hy.1
  obtain ⟨xs, h1, h2, h3⟩ := fld_bytes f1 (fun k hk => hz k (by
    rw [hd]
    simp only [DataW.weights, Try.underlying58]
    exact DataW.weights_mem_each (j := 1) (t := 49) (d := (ys[1]).1) rfl (by rw [List.getElem?_map, List.getElem?_eq_getElem (by omega)]; rfl) k hk))
  have hA' : cs[0] = .int .u32 A := by simpa using hA
  have hm' : cs[2] = .int .i64 may := by simpa using hmay
  have hb := bounds_u32 wA
  refine ⟨A.toNat, cs[1], xs, may, ?_, by omega, h1, h2, h3⟩
  have e : (A.toNat : Int) = A := Int.toNat_of_nonneg (by omega)
  rw [e, ← hA', ← hm']
  congr 1
  apply Array.ext
  · simp [hsz]
  · intro i h1 h2
    have : i = 0 ∨ i = 1 ∨ i = 2 := by omega
    rcases this with rfl | rfl | rfl <;> rfl
end
end Go.Proofs.Ytopadiofanaaiaa.CpuLaw
