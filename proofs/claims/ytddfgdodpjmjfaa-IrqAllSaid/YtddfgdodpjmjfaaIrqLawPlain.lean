/- What is taken was heard, and is the least that called: in plain numbers. -/
import Derived.Test.YtddfgdodpjmjfaaIrqNext
namespace Go.Proofs.Ytddfgdodpjmjfaa.IrqLaw

theorem lineR_ok {l : Ln} {k : Int} (hc : chkL l = 0) (h0 : 0 ≤ k) (h1 : k < 8) : lineR l k = (2 ^ k.toNat, 0) := by rw [lineR, if_pos hc, if_pos ⟨h0, h1⟩]
theorem lineR_bad {l : Ln} {k : Int} (h0 : 0 ≤ k) (h1 : k < 8) (h : (lineR l k).2 = 0) : chkL l = 0 := by
  unfold lineR at h
  by_cases hc : chkL l = 0
  · exact hc
  · rw [if_neg hc] at h; exact h

theorem pow_bit (K i : Nat) : (2 ^ K : Nat).testBit i = decide (K = i) := by rw [Nat.testBit_two_pow]

theorem taken_law (l : Ln) (k : Int) (h0 : 0 ≤ k) (h1 : k < 8) :
    ((lineR l k).2 ≠ 0 ∧ setR l k false = z4) ∨
    ((lineR l k).2 = 0 ∧ (lineR (setR l k false) k).2 = 0 ∧ (lineR (setR (setR l k false) k true) k).2 = 0 ∧
      ∃ (n : Int) (c : Ln), c = maskR (setR (setR l k false) k true) k false ∧ nextR c = (n, 0) ∧ 0 ≤ n ∧ n ≤ k ∧ takeK c = n ∧ (takeR c).p = bits .andNot .i64 c.p (2 ^ n.toNat) ∧ (takeR c).u = c.u ∧
        (bits .and .i64 (l.e / 2 ^ n.toNat) 1 = 0 → takeR c = c)) := by
  by_cases hz : (lineR l k).2 = 0
  · right
    have hc := lineR_bad h0 h1 hz
    obtain ⟨E, U, M, P, rfl, e1, e2, e3, e4, e5⟩ := chk_nat hc
    obtain ⟨K, rfl⟩ := Int.eq_ofNat_of_zero_le h0
    have hK : K < 8 := by omega
    have hB : (2 ^ K : Nat) ≤ 128 := by
      have : K = 0 ∨ K = 1 ∨ K = 2 ∨ K = 3 ∨ K = 4 ∨ K = 5 ∨ K = 6 ∨ K = 7 := by omega
      rcases this with h | h | h | h | h | h | h | h <;> rw [h] <;> decide
    have hpow : ((2 : Int) ^ ((K : Int)).toNat) = ((2 ^ K : Nat) : Int) := by simp
    obtain ⟨B, hBd⟩ : ∃ B, B = 2 ^ K := ⟨_, rfl⟩
    rw [← hBd] at hpow hB
    have bitB : ∀ i, B.testBit i = decide (K = i) := fun i => by rw [hBd]; exact pow_bit K i
    have hlU := less_le U B
    have hUB := or_le (less U B) B (by omega) (by omega)
    have hand : B &&& E ≤ 255 := by have := Nat.and_le_left (n := B) (m := E); omega
    have hls := less_le (B &&& E) (less U B)
    have hP' := or_le P (less (B &&& E) (less U B)) e4 (by omega)
    have hlM := less_le M B
    have ea : setR ⟨E, U, M, P⟩ (K : Int) false = ⟨E, ((less U B : Nat) : Int), M, P⟩ := by
      rw [setR, if_pos hz, lineR_ok hc h0 h1]
      simp only [setL, hpow]
      rw [i64_andNot U B (by omega) (by omega)]; simp
    have ca : chkL ⟨E, ((less U B : Nat) : Int), M, P⟩ = 0 := chk_of_nat e1 (by omega) e3 e4 e5
    have eb : setR ⟨E, ((less U B : Nat) : Int), M, P⟩ (K : Int) true = ⟨E, ((less U B ||| B : Nat) : Int), M, ((P ||| less (B &&& E) (less U B) : Nat) : Int)⟩ := by
      rw [setR, lineR_ok ca h0 h1, if_pos rfl]
      simp only [setL, hpow]
      rw [i64_or (less U B) B (by omega) (by omega), i64_and B E (by omega) (by omega), i64_andNot (B &&& E) (less U B) (by omega) (by omega), i64_or P _ (by omega) (by omega)]; simp
    have sub : less (P ||| less (B &&& E) (less U B)) E = 0 := by
      rw [less_zero]
      intro i hi
      rw [Nat.testBit_or, Bool.or_eq_true] at hi
      rcases hi with hi | hi
      · exact (less_zero P E).1 e5 i hi
      · rw [less_bit, Nat.testBit_and, Bool.and_eq_true, Bool.and_eq_true] at hi; exact hi.1.2
    have cb : chkL ⟨E, ((less U B ||| B : Nat) : Int), M, ((P ||| less (B &&& E) (less U B) : Nat) : Int)⟩ = 0 := chk_of_nat e1 hUB e3 hP' sub
    have ec : maskR ⟨E, ((less U B ||| B : Nat) : Int), M, ((P ||| less (B &&& E) (less U B) : Nat) : Int)⟩ (K : Int) false = ⟨E, ((less U B ||| B : Nat) : Int), ((less M B : Nat) : Int), ((P ||| less (B &&& E) (less U B) : Nat) : Int)⟩ := by
      rw [maskR, lineR_ok cb h0 h1, if_pos rfl]
      simp only [maskL, hpow]
      rw [i64_andNot M B (by omega) (by omega)]; simp
    have cc : chkL ⟨E, ((less U B ||| B : Nat) : Int), ((less M B : Nat) : Int), ((P ||| less (B &&& E) (less U B) : Nat) : Int)⟩ = 0 := chk_of_nat e1 hUB (by omega) hP' sub
    obtain ⟨P', hPd⟩ : ∃ P', P' = P ||| less (B &&& E) (less U B) := ⟨_, rfl⟩
    obtain ⟨U', hUd⟩ : ∃ U', U' = less U B ||| B := ⟨_, rfl⟩
    obtain ⟨M', hMd⟩ : ∃ M', M' = less M B := ⟨_, rfl⟩
    rw [ea, eb, ec]
    rw [← hPd] at hP' sub cb cc ⊢
    rw [← hUd] at hUB cb cc ⊢
    rw [← hMd] at hlM cc ⊢
    have rd := ready_nat hUB e1 (show M' ≤ 255 by omega) hP'
    have hitk : hit (readyL ⟨E, U', M', P'⟩) K = true := by
      rw [rd.1, hit_nat _ _ rd.2]
      unfold readyN
      rw [less_bit, Nat.testBit_or, less_bit]
      have m0 : M'.testBit K = false := by rw [hMd, less_bit, bitB]; simp
      have u1 : U'.testBit K = true := by rw [hUd, Nat.testBit_or, bitB]; simp
      rw [m0, u1]
      cases hE : E.testBit K
      · simp
      · have : P'.testBit K = true := by rw [hPd, Nat.testBit_or, less_bit, Nat.testBit_and, bitB, hE, less_bit, bitB]; simp
        rw [this]; simp
    obtain ⟨n, hn, hnk⟩ := firstHit_not hK hitk
    have hn8 := (firstHit_spec hn).1
    have hnx : nextR ⟨E, U', M', P'⟩ = ((n : Int), 0) := by rw [nextR, if_pos cc, hn]
    have htk : takeK ⟨E, U', M', P'⟩ = n := by rw [takeK, hnx, if_pos rfl]
    have htr : takeR ⟨E, U', M', P'⟩ = ⟨E, U', M', bits .andNot .i64 P' (2 ^ n)⟩ := by rw [takeR, hnx, if_pos rfl]; simp
    refine ⟨hz, by rw [lineR_ok ca h0 h1], by rw [lineR_ok cb h0 h1], n, _, rfl, hnx, by omega, by omega, htk, by rw [htr]; simp, by rw [htr], ?_⟩
    intro he
    rw [htr]
    have hEn : E.testBit n = false := by
      rw [← hit_nat E n e1]
      unfold hit
      simp only [Int.toNat_natCast] at he
      rw [he]; rfl
    have hPn : P'.testBit n = false := by
      cases hq : P'.testBit n
      · rfl
      · have := (less_zero P' E).1 sub n hq
        rw [hEn] at this; cases this
    have : bits .andNot .i64 (P' : Int) (2 ^ n) = P' := by
      have hp2 : ((2 : Int) ^ n) = ((2 ^ n : Nat) : Int) := by simp
      have hlt : 2 ^ n < 2 ^ 63 := Nat.pow_lt_pow_right (by decide) (by omega)
      rw [hp2, i64_andNot P' _ (by omega) hlt]
      congr 1
      apply Nat.eq_of_testBit_eq
      intro i
      rw [less_bit, pow_bit]
      by_cases hi : n = i
      · subst hi; rw [hPn]; rfl
      · simp [hi]
    rw [this]
  · left
    exact ⟨hz, by rw [setR, if_neg hz]⟩
end Go.Proofs.Ytddfgdodpjmjfaa.IrqLaw
