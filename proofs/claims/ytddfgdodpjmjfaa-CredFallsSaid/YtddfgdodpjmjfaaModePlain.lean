/- Rights: each by each; a capability more is no less. In plain numbers. -/
import Derived.Test.YtddfgdodpjmjfaaModeMay
namespace Go.Proofs.Ytddfgdodpjmjfaa.CredLaw
open Go.RowKit

theorem each_fin : ∀ (k B : Fin 8), (less (wantedN k) B == 0) = ((less (wantedN (k.val &&& 1)) B == 0) && (less (wantedN (k.val &&& 2)) B == 0) && (less (wantedN (k.val &&& 4)) B == 0)) := by decide +kernel
theorem more_fin : ∀ (W B : Fin 8) (d r w r' w' : Bool), (r = true → r' = true) → (w = true → w' = true) → less W (B.val ||| overN d r w) = 0 → less W (B.val ||| overN d r' w') = 0 := by decide +kernel
theorem each_law {s : S} (c : C) {k : Nat} (hk : k < 8) (hf : fineS s) : mayB s c k = (mayB s c (k &&& 1) && mayB s c (k &&& 2) && mayB s c (k &&& 4)) := by
  have h1 := or_lt _ _ 3 (bitsN_lt c hf) (overN_lt (s.kind == 2) (capB c 1) (capB c 2))
  exact each_fin ⟨k, hk⟩ ⟨_, h1⟩
def moreC (c : C) (D : Nat) : C := { c with caps := bits .or .i64 c.caps D }
theorem capB_nat {c : C} {A : Nat} (h : c.caps = A) (hA : A < 128) (x : Nat) (hx : x < 128) : capB c x = true ↔ A &&& x ≠ 0 := by
  unfold capB
  rw [h, i64_and A x (by omega) (by omega)]
  simp only [bne_iff_ne, ne_eq]
  constructor
  · intro h1 h2; rw [h2] at h1; exact h1 rfl
  · intro h1 h2; exact h1 (by exact_mod_cast h2)
theorem moreC_caps {c : C} {A D : Nat} (h : c.caps = A) (hA : A < 128) (hD : D < 128) : (moreC c D).caps = ((A ||| D : Nat) : Int) ∧ A ||| D < 128 := by
  refine ⟨?_, or_lt A D 7 hA hD⟩
  show bits .or .i64 c.caps D = _
  rw [h, i64_or A D (by omega) (by omega)]
theorem more_cap {c : C} {A D : Nat} (h : c.caps = A) (hA : A < 128) (hD : D < 128) (x : Nat) (hx : x < 128) : capB c x = true → capB (moreC c D) x = true := by
  obtain ⟨h1, h2⟩ := moreC_caps h hA hD
  rw [capB_nat h hA x hx, capB_nat h1 h2 x hx]
  intro hne he
  rw [Nat.and_or_distrib_right] at he
  exact hne (Nat.or_eq_zero_iff.1 he).1
theorem more_chk {c : C} {D : Nat} (hc : chkC c = 0) (hD : D < 128) : chkC (moreC c D) = 0 := by
  rw [chkC_zero] at hc ⊢
  obtain ⟨h1, h2, h3, h4⟩ := hc
  obtain ⟨A, hA⟩ : ∃ A : Nat, c.caps = A := ⟨c.caps.toNat, by have := h4.1; omega⟩
  obtain ⟨h5, h6⟩ := moreC_caps hA (by have := h4.2.1; omega) hD
  refine ⟨h1, h2, h3, ?_⟩
  obtain ⟨f0, f1, f2⟩ := h4
  exact ⟨by rw [h5]; omega, by rw [h5]; omega, f2⟩
theorem more_law {s : S} {c : C} {k D : Nat} (hc : chkC c = 0) (hD : D < 128) (hf : fineS s) (h : mayB s c k = true) : mayB s (moreC c D) k = true := by
  have h4 := ((chkC_zero c).1 hc).2.2.2
  obtain ⟨A, hA⟩ : ∃ A : Nat, c.caps = A := ⟨c.caps.toNat, by have := h4.1; omega⟩
  have hA7 : A < 128 := by have := h4.2.1; omega
  have := more_fin ⟨_, wantedN_lt k⟩ ⟨_, bitsN_lt c hf⟩ (s.kind == 2) (capB c 1) (capB c 2) (capB (moreC c D) 1) (capB (moreC c D) 2) (more_cap hA hA7 hD 1 (by decide)) (more_cap hA hA7 hD 2 (by decide)) (by simpa [mayB] using h)
  simp only [mayB, beq_iff_eq]
  exact this
theorem mayR_ok {s : S} {c : C} {want : Int} (h : (mayR s c want).2 = 0) : chkC c = 0 ∧ fineS s ∧ 0 ≤ want ∧ want ≤ 7 := by
  unfold mayR at h
  by_cases h1 : chkC c = 0
  · rw [if_pos h1] at h
    by_cases h2 : fineS s
    · rw [if_pos h2] at h
      by_cases h3 : 0 ≤ want ∧ want ≤ 7
      · exact ⟨h1, h2, h3⟩
      · rw [if_neg h3] at h; cases h
    · rw [if_neg h2] at h; cases h
  · rw [if_neg h1] at h; exact absurd h h1
theorem mayR_bad {s : S} {c : C} {want : Int} (h : (mayR s c want).2 ≠ 0) : (mayR s c want).1 = false := by
  unfold mayR at *
  by_cases h1 : chkC c = 0
  · rw [if_pos h1] at *
    by_cases h2 : fineS s
    · rw [if_pos h2] at *
      by_cases h3 : 0 ≤ want ∧ want ≤ 7
      · rw [if_pos h3] at *; exact absurd rfl h
      · rw [if_neg h3]
    · rw [if_neg h2]
  · rw [if_neg h1]
theorem mayR_is {s : S} {c : C} {k : Nat} (h1 : chkC c = 0) (h2 : fineS s) (hk : k < 8) : mayR s c k = (mayB s c k, 0) := by
  rw [mayR, if_pos h1, if_pos h2, if_pos (by omega), Int.toNat_natCast]
theorem and_nat (k : Nat) (hk : k < 8) : bits .and .i64 (k : Int) 1 = ((k &&& 1 : Nat) : Int) ∧ bits .and .i64 (k : Int) 2 = ((k &&& 2 : Nat) : Int) ∧ bits .and .i64 (k : Int) 4 = ((k &&& 4 : Nat) : Int) :=
  ⟨i64_and k 1 (by omega) (by decide), i64_and k 2 (by omega) (by decide), i64_and k 4 (by omega) (by decide)⟩
end Go.Proofs.Ytddfgdodpjmjfaa.CredLaw
