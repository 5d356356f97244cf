/- Slices of mounts, as they come in. -/
import Derived.Test.YtddfgdodpjmjfaaMountSeen
namespace Go.Proofs.Ytddfgdodpjmjfaa.MountLaw
open Go.RowKit
set_option linter.unusedVariables false

theorem int_of {v : Value} {t : TypeId} (h : Plain Try.prog t v) (ht : t = 3) : ∃ n : Int, v = .int .i64 n ∧ -9223372036854775808 ≤ n ∧ n ≤ 9223372036854775807 := by
  subst ht
  rcases h with ⟨_, h⟩ | ⟨h, _⟩
  · exact h
  · rw [Try.underlying3] at h; cases h
theorem ms_of_rows {fs : Array Field} {w : World} {v : Value} {len : Nat} {F : Nat → Nat → Value} (hs : fs.size = 2) (ht : ∀ (j : Nat) (f : Field), fs[j]? = some f → f.type = 3) (h : RowsIn Try.prog fs w v len F) : ∃ l, MS w v l := by
  obtain ⟨a, cap, rfl, hl, hm, h⟩ := h
  rcases h with h0 | ⟨b, off, rfl, hb, hc⟩
  · subst h0; exact ⟨[], a, cap, rfl, hl, hm, .inl rfl⟩
  · have get : ∀ i, i < len → ∀ j, j < 2 → ∃ n : Int, w.cell? ⟨b, off + i * 2 + j, none⟩ = some (.int .i64 n) := by
      intro i hi j hj
      have hf : fs[j]? = some (fs[j]'(by omega)) := Array.getElem?_eq_getElem (by omega)
      obtain ⟨h1, h2⟩ := hc i hi j _ hf
      obtain ⟨n, hn, _⟩ := int_of h2 (ht j _ hf)
      rw [hs, hn] at h1
      exact ⟨n, h1⟩
    obtain ⟨A, hA⟩ := Go.Deep.choose_lt (fun i hi => get i hi 0 (by omega))
    obtain ⟨B, hB⟩ := Go.Deep.choose_lt (fun i hi => get i hi 1 (by omega))
    refine ⟨(List.range len).map fun i => ⟨A i, B i⟩, some ⟨b, off, none⟩, cap, by simp, by simpa using hl, hm, .inr ⟨b, off, rfl, hb, fun i hi => ?_⟩⟩
    simp at hi
    exact ⟨by simpa [List.getD, hi] using hA i hi, by simpa [List.getD, hi] using hB i hi⟩
end Go.Proofs.Ytddfgdodpjmjfaa.MountLaw
