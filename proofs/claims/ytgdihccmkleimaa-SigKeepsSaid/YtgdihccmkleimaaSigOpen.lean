/- An argument that is a set of signals, opened. -/
import Derived.Test.YtgdihccmkleimaaSigOnce
import Derived.Lib.SmallJoins
namespace Go.Proofs.Ytgdihccmkleimaa.SigLaw
open Go.ChangeShapes Go.WideShapes Go.Deep Go.RowKit
set_option linter.unusedVariables false
set_option maxRecDepth 100000 in
theorem ext18 {cs : Array Value} {z : Nat → Int} (hs : cs.size = 18) (h : ∀ i, i < 18 → cs[i]? = some (.int .i64 (z i))) : cs = cellsA ⟨z 0, z 1, fun j => z (2 + j)⟩ := by
  obtain ⟨l⟩ := cs
  match l, hs with
  | [c0, c1, c2, c3, c4, c5, c6, c7, c8, c9, c10, c11, c12, c13, c14, c15, c16, c17], _ =>
    have e0 := Option.some.inj (h 0 (by decide))
    have e1 := Option.some.inj (h 1 (by decide))
    have e2 := Option.some.inj (h 2 (by decide))
    have e3 := Option.some.inj (h 3 (by decide))
    have e4 := Option.some.inj (h 4 (by decide))
    have e5 := Option.some.inj (h 5 (by decide))
    have e6 := Option.some.inj (h 6 (by decide))
    have e7 := Option.some.inj (h 7 (by decide))
    have e8 := Option.some.inj (h 8 (by decide))
    have e9 := Option.some.inj (h 9 (by decide))
    have e10 := Option.some.inj (h 10 (by decide))
    have e11 := Option.some.inj (h 11 (by decide))
    have e12 := Option.some.inj (h 12 (by decide))
    have e13 := Option.some.inj (h 13 (by decide))
    have e14 := Option.some.inj (h 14 (by decide))
    have e15 := Option.some.inj (h 15 (by decide))
    have e16 := Option.some.inj (h 16 (by decide))
    have e17 := Option.some.inj (h 17 (by decide))
    simp only [List.getElem_toArray, List.getElem_cons_zero, List.getElem_cons_succ] at e0 e1 e2 e3 e4 e5 e6 e7 e8 e9 e10 e11 e12 e13 e14 e15 e16 e17
    subst e0 e1 e2 e3 e4 e5 e6 e7 e8 e9 e10 e11 e12 e13 e14 e15 e16 e17
    rfl
section
variable {H : Type} {enc : TypeId × Value → H} {w : World} {base : Nat} {spare : Nat → Bool} {held : Bool}
set_option maxRecDepth 100000 in
theorem open_set {r : Reach} {b0 : Nat} {v : Value} {d : DataW H} {p : List MemPlace} (hv : Value.okWide Try.prog w r b0 58 v) (h : DataW.Trod enc Try.prog w base spare held 58 v d p) : ∃ g, v = .agg (cellsA g) ∧ BB g := by
  obtain ⟨cs, rfl, hsz⟩ := okWide_struct Try.underlying58 hv
  have hC : Try.prog.cellsOf 58 = 18 := by kernel_rfl
  have hC3 : Try.prog.cellsOf 3 = 1 := by kernel_rfl
  have hC16 : Try.prog.cellsOf 56 = 16 := by kernel_rfl
  rw [hC] at hsz
  obtain ⟨fuel, hf⟩ := h
  obtain ⟨ys, n, _, hy, hlen, hyl, hfld⟩ := DataW.trod_struct Try.underlying58 hf
  have one : ∀ (i : Nat) (hi : i < 18) n y, DataW.trod enc Try.prog w base spare held n 3 ((cs.toList.drop i).take 1) = some y → ∃ z : Int, cs[i]? = some (.int .i64 z) ∧ -9223372036854775808 ≤ z ∧ z ≤ 9223372036854775807 := by
    intro i hi n y h1
    rw [List.drop_eq_getElem_cons (by simp; omega)] at h1
    obtain ⟨z, hz, _, hw⟩ := DataW.trod_int Try.underlying3 h1
    refine ⟨z, ?_, bounds_i64 hw⟩
    have hz' : cs.toList[i]'(by simp; omega) = .int .i64 z := by simpa using hz
    rw [Array.getElem?_eq_getElem (by omega)]
    simpa using hz'
  have all : ∀ i, i < 18 → ∃ z : Int, cs[i]? = some (.int .i64 z) ∧ -9223372036854775808 ≤ z ∧ z ≤ 9223372036854775807 := by
    intro i hi
    have f0 : DataW.trod enc Try.prog w base spare held n 3 ((cs.toList.drop 0).take (Try.prog.cellsOf 3)) = ys[0]? := hfld 0 _ rfl
    have f1 : DataW.trod enc Try.prog w base spare held n 3 ((cs.toList.drop 1).take (Try.prog.cellsOf 3)) = ys[1]? := hfld 1 _ rfl
    have f2 : DataW.trod enc Try.prog w base spare held n 56 ((cs.toList.drop 2).take (Try.prog.cellsOf 56)) = ys[2]? := hfld 2 _ rfl
    rw [hC3] at f0 f1
    rw [hC16] at f2
    by_cases h0 : i = 0
    · subst h0
      exact one 0 hi _ _ (f0.trans (List.getElem?_eq_getElem (by rw [hyl]; decide)))
    · by_cases h1 : i = 1
      · subst h1
        exact one 1 hi _ _ (f1.trans (List.getElem?_eq_getElem (by rw [hyl]; decide)))
      · obtain ⟨ys2, n2, _, hy2, hlen2, hyl2, hfld2⟩ := DataW.trod_array Try.underlying56 (f2.trans (List.getElem?_eq_getElem (by rw [hyl]; decide)))
        have f3 := hfld2 (i - 2) (by omega)
        rw [hC3, Nat.mul_one] at f3
        have e : (((cs.toList.drop 2).take 16).drop (i - 2)).take 1 = (cs.toList.drop i).take 1 := by
          rw [List.drop_take, List.drop_drop, List.take_take, show 2 + (i - 2) = i by omega, show min 1 (16 - (i - 2)) = 1 by omega]
        rw [e] at f3
        exact one i hi _ _ (f3.trans (List.getElem?_eq_getElem (by omega)))
  obtain ⟨z, hz⟩ := choose_lt (α := Int) (n := 18) (p := fun i z => cs[i]? = some (.int .i64 z) ∧ -9223372036854775808 ≤ z ∧ z ≤ 9223372036854775807) all
  refine ⟨⟨z 0, z 1, fun j => z (2 + j)⟩, by rw [ext18 hsz (fun i hi => (hz i hi).1)], ?_⟩
  have a := (hz 0 (by decide)).2
  have b := (hz 1 (by decide)).2
  show (-2 ^ 63 ≤ z 0 ∧ z 0 < 2 ^ 63) ∧ -2 ^ 63 ≤ z 1 ∧ z 1 < 2 ^ 63
  omega
end
end Go.Proofs.Ytgdihccmkleimaa.SigLaw
