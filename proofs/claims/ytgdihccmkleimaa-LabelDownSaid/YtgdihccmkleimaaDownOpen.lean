/- Slices of labels and of acts, as they come in. -/
import Derived.Test.YtgdihccmkleimaaDownLaw
import Derived.Test.YtgdihccmkleimaaBoxBack
namespace Go.Proofs.Ytgdihccmkleimaa.LabelLaw
open Go.RowKit
open BoxLaw (int_of)
set_option linter.unusedVariables false

theorem labS_of_rows {fs : Array Field} {w : World} {v : Value} {len : Nat} {F : Nat → Nat → Value} (hs : fs.size = 2) (ht : ∀ (j : Nat) (f : Field), fs[j]? = some f → f.type = 3) (h : RowsIn Try.prog fs w v len F) : ∃ l, LabS w v l := by
  obtain ⟨a, cap, rfl, hl, hm, h⟩ := h
  rcases h with h0 | ⟨b, off, rfl, hb, hc⟩
  · subst h0; exact ⟨[], a, cap, rfl, hl, .inl rfl⟩
  · have get : ∀ i, i < len → ∀ j, j < 2 → ∃ n : Int, w.cell? ⟨b, off + i * 2 + j, none⟩ = some (.int .i64 n) := by
      intro i hi j hj
      have hf : fs[j]? = some (fs[j]'(by omega)) := Array.getElem?_eq_getElem (by omega)
      obtain ⟨h1, h2⟩ := hc i hi j _ hf
      obtain ⟨n, hn, _⟩ := int_of h2 (ht j _ hf)
      rw [hs, hn] at h1
      exact ⟨n, h1⟩
    obtain ⟨A, hA⟩ := Go.Deep.choose_lt (fun i hi => get i hi 0 (by omega))
    obtain ⟨B, hB⟩ := Go.Deep.choose_lt (fun i hi => get i hi 1 (by omega))
    refine ⟨(List.range len).map fun i => ⟨A i, B i⟩, some ⟨b, off, none⟩, cap, by simp, by simpa using hl, .inr ⟨b, off, rfl, hb, fun i hi => ?_⟩⟩
    simp at hi
    exact ⟨by simpa [List.getD, hi] using hA i hi, by simpa [List.getD, hi] using hB i hi⟩
theorem bool_of {t : TypeId} {v : Value} (h : Plain Try.prog t v) (ht : t = 4) : ∃ b : Bool, v = .bool b := by
  subst ht
  rcases h with ⟨h, _⟩ | ⟨_, b, rfl⟩
  · rw [Try.underlying4] at h; cases h
  · exact ⟨b, rfl⟩
theorem actS_of_rows {fs : Array Field} {w : World} {v : Value} {len : Nat} {F : Nat → Nat → Value} (hs : fs.size = 3) (ht : ∀ (j : Nat) (f : Field), fs[j]? = some f → f.type = if j = 2 then 4 else 3) (h : RowsIn Try.prog fs w v len F) : ∃ l, ActS w v l := by
  obtain ⟨a, cap, rfl, hl, hm, h⟩ := h
  rcases h with h0 | ⟨b, off, rfl, hb, hc⟩
  · subst h0; exact ⟨[], a, cap, rfl, hl, .inl rfl⟩
  · have get : ∀ i, i < len → ∀ j, j < 2 → ∃ n : Int, w.cell? ⟨b, off + i * 3 + j, none⟩ = some (.int .i64 n) := by
      intro i hi j hj
      have hf : fs[j]? = some (fs[j]'(by omega)) := Array.getElem?_eq_getElem (by omega)
      obtain ⟨h1, h2⟩ := hc i hi j _ hf
      obtain ⟨n, hn, _⟩ := int_of h2 ((ht j _ hf).trans (if_neg (by omega)))
      rw [hs, hn] at h1
      exact ⟨n, h1⟩
    have getb : ∀ i, i < len → ∃ z : Bool, w.cell? ⟨b, off + i * 3 + 2, none⟩ = some (.bool z) := by
      intro i hi
      have hf : fs[2]? = some (fs[2]'(by omega)) := Array.getElem?_eq_getElem (by omega)
      obtain ⟨h1, h2⟩ := hc i hi 2 _ hf
      obtain ⟨n, hn⟩ := bool_of h2 ((ht 2 _ hf).trans (if_pos rfl))
      rw [hs, hn] at h1
      exact ⟨n, h1⟩
    obtain ⟨A, hA⟩ := Go.Deep.choose_lt (fun i hi => get i hi 0 (by omega))
    obtain ⟨B, hB⟩ := Go.Deep.choose_lt (fun i hi => get i hi 1 (by omega))
    obtain ⟨C, hC⟩ := Go.Deep.choose_lt (fun i hi => getb i hi)
    refine ⟨(List.range len).map fun i => ⟨A i, B i, C i⟩, some ⟨b, off, none⟩, cap, by simp, by simpa using hl, .inr ⟨b, off, rfl, hb, fun i hi => ?_⟩⟩
    simp at hi
    exact ⟨by simpa [List.getD, hi] using hA i hi, by simpa [List.getD, hi] using hB i hi, by simpa [List.getD, hi] using hC i hi⟩
theorem act_types {fs : Array Field} (h : (fs.toList.map fun f => f.type) = [3, 3, 4]) : ∀ (j : Nat) (f : Field), fs[j]? = some f → f.type = if j = 2 then 4 else 3 := by
  intro j f hj
  rw [← Array.getElem?_toList] at hj
  have h1 : (fs.toList.map fun f => f.type)[j]? = some f.type := by rw [List.getElem?_map, hj]; rfl
  rw [h] at h1
  have hlt : j < 3 := by
    have := (List.getElem?_eq_some_iff.1 h1).1
    simpa using this
  have : j = 0 ∨ j = 1 ∨ j = 2 := by omega
  rcases this with rfl | rfl | rfl <;> simp at h1 <;> exact h1.symm
end Go.Proofs.Ytgdihccmkleimaa.LabelLaw
