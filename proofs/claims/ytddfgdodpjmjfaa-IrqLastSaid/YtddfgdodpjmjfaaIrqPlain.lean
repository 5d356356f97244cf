/- Interrupt lines in plain numbers. No program here. -/
import Derived.Test.YtddfgdodpjmjfaaBits
namespace Go.Proofs.Ytddfgdodpjmjfaa.IrqLaw

/-- lines of any numbers -/
structure Ln where
  e : Int
  u : Int
  m : Int
  p : Int

def inB (x : Int) : Bool := decide (0 ≤ x) && decide (x ≤ 255)
theorem inB_iff (x : Int) : inB x = true ↔ (0 ≤ x ∧ x ≤ 255) := by simp [inB]
def nums (l : Ln) : List Int := [l.e, l.u, l.m, l.p]
def chkL (l : Ln) : Int := if (nums l).all inB = true then (if bits .andNot .i64 l.p l.e = 0 then 0 else 3) else 1

theorem nums_length (l : Ln) : (nums l).length = 4 := rfl
theorem chk_bad {l : Ln} {k : Nat} (hk : k < 4) (h : ¬ inB ((nums l).getD k 0) = true) : chkL l = 1 := by
  rw [chkL, if_neg]
  intro ha
  rw [List.all_eq_true] at ha
  refine h (ha _ ?_)
  rcases (by omega : k = 0 ∨ k = 1 ∨ k = 2 ∨ k = 3) with rfl | rfl | rfl | rfl <;> simp [nums]
theorem all_of {l : Ln} (h : ∀ j, j < 4 → inB ((nums l).getD j 0) = true) : (nums l).all inB = true := by
  have h0 := h 0 (by omega); have h1 := h 1 (by omega); have h2 := h 2 (by omega); have h3 := h 3 (by omega)
  simp [nums] at *
  exact ⟨h0, h1, h2, h3⟩

theorem chk_nat {l : Ln} (h : chkL l = 0) : ∃ E U M P : Nat, l = ⟨E, U, M, P⟩ ∧ E ≤ 255 ∧ U ≤ 255 ∧ M ≤ 255 ∧ P ≤ 255 ∧ less P E = 0 := by
  unfold chkL at h
  by_cases ha : (nums l).all inB = true
  · rw [if_pos ha] at h
    by_cases hz : bits .andNot .i64 l.p l.e = 0
    · simp [nums] at ha
      obtain ⟨h1, h2, h3, h4⟩ := ha
      rw [inB_iff] at h1 h2 h3 h4
      obtain ⟨e, u, m, p⟩ := l
      simp only at *
      obtain ⟨E, rfl⟩ := Int.eq_ofNat_of_zero_le h1.1
      obtain ⟨U, rfl⟩ := Int.eq_ofNat_of_zero_le h2.1
      obtain ⟨M, rfl⟩ := Int.eq_ofNat_of_zero_le h3.1
      obtain ⟨P, rfl⟩ := Int.eq_ofNat_of_zero_le h4.1
      rw [i64_andNot P E (by omega) (by omega)] at hz
      exact ⟨E, U, M, P, rfl, by omega, by omega, by omega, by omega, by exact_mod_cast hz⟩
    · rw [if_neg hz] at h; cases h
  · rw [if_neg ha] at h; cases h
theorem chk_of_nat {E U M P : Nat} (h1 : E ≤ 255) (h2 : U ≤ 255) (h3 : M ≤ 255) (h4 : P ≤ 255) (h : less P E = 0) : chkL ⟨E, U, M, P⟩ = 0 := by
  unfold chkL
  rw [if_pos, if_pos]
  · rw [i64_andNot P E (by omega) (by omega), h]; rfl
  · simp [nums, inB_iff]; omega

def readyL (l : Ln) : Int := bits .andNot .i64 (bits .or .i64 l.p (bits .andNot .i64 l.u l.e)) l.m
def readyN (E U M P : Nat) : Nat := less (P ||| less U E) M
theorem or_le (a b : Nat) (ha : a ≤ 255) (hb : b ≤ 255) : a ||| b ≤ 255 := by have := or_lt a b 8 (by omega) (by omega); omega
theorem ready_nat {E U M P : Nat} (h2 : U ≤ 255) (h1 : E ≤ 255) (h3 : M ≤ 255) (h4 : P ≤ 255) : readyL ⟨E, U, M, P⟩ = (readyN E U M P : Int) ∧ readyN E U M P ≤ 255 := by
  have a1 := less_le U E
  have a2 := or_le P (less U E) h4 (by omega)
  have a3 := less_le (P ||| less U E) M
  unfold readyL readyN
  refine ⟨?_, by omega⟩
  simp only
  rw [i64_andNot U E (by omega) (by omega), i64_or P _ (by omega) (by omega), i64_andNot _ M (by omega) (by omega)]
theorem ready_range {l : Ln} (h : chkL l = 0) : 0 ≤ readyL l ∧ readyL l ≤ 255 := by
  obtain ⟨E, U, M, P, rfl, h1, h2, h3, h4, _⟩ := chk_nat h
  have := ready_nat h2 h1 h3 h4
  rw [this.1]; omega

def hit (r : Int) (k : Nat) : Bool := bits .and .i64 (r / 2 ^ k) 1 == 1
theorem hit_nat (R k : Nat) (h : R ≤ 255) : hit (R : Int) k = R.testBit k := by
  have hd : R / 2 ^ k ≤ R := Nat.div_le_self _ _
  unfold hit
  rw [show ((R : Int) / 2 ^ k) = ((R / 2 ^ k : Nat) : Int) by simp, show (1 : Int) = ((1 : Nat) : Int) from rfl, i64_and _ 1 (by omega) (by decide), Nat.and_one_is_mod]
  rw [Nat.testBit, Nat.shiftRight_eq_div_pow, Nat.one_and_eq_mod_two]
  have h2 : R / 2 ^ k % 2 = 0 ∨ R / 2 ^ k % 2 = 1 := by omega
  rcases h2 with h2 | h2 <;> rw [h2] <;> rfl
def firstHit (r : Int) : Option Nat := (List.range 8).find? (hit r)
def nextR (l : Ln) : Int × Int := if chkL l = 0 then (match firstHit (readyL l) with | some k => ((k : Int), 0) | none => (0, 4)) else (0, chkL l)
theorem firstHit_some {r : Int} {k : Nat} (hk : k < 8) (hn : ∀ j, j < k → hit r j = false) (hy : hit r k = true) : firstHit r = some k := by
  unfold firstHit
  rw [List.find?_range_eq_some]
  exact ⟨hy, by simpa using hk, fun j hj => by simp [hn j hj]⟩
theorem firstHit_none {r : Int} (hn : ∀ j, j < 8 → hit r j = false) : firstHit r = none := by
  unfold firstHit
  rw [List.find?_eq_none]
  intro x hx
  simp [hn x (by simpa using hx)]
theorem firstHit_spec {r : Int} {k : Nat} (h : firstHit r = some k) : k < 8 ∧ hit r k = true ∧ ∀ j, j < k → hit r j = false := by
  unfold firstHit at h
  rw [List.find?_range_eq_some] at h
  exact ⟨by simpa using h.2.1, h.1, fun j hj => by simpa using h.2.2 j hj⟩
theorem firstHit_not {r : Int} {k : Nat} (hk : k < 8) (hy : hit r k = true) : ∃ n, firstHit r = some n ∧ n ≤ k := by
  cases h : firstHit r with
  | none =>
    unfold firstHit at h
    rw [List.find?_eq_none] at h
    exact absurd hy (h k (by simpa using hk))
  | some n =>
    refine ⟨n, rfl, ?_⟩
    have := firstHit_spec h
    rcases Nat.lt_or_ge k n with hlt | hge
    · rw [this.2.2 k hlt] at hy; cases hy
    · exact hge
end Go.Proofs.Ytddfgdodpjmjfaa.IrqLaw
