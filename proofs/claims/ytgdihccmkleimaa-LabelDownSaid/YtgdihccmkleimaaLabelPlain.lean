/- Labels: the lattice in plain numbers. No program here. -/
import Derived.Test.YtgdihccmkleimaaBits
namespace Go.Proofs.Ytgdihccmkleimaa.LabelLaw

structure Lab where
  l : Int
  k : Int

def okL (a : Lab) : Bool := decide (0 ≤ a.l) && decide (a.l ≤ 7) && decide (0 ≤ a.k) && decide (a.k ≤ 255)
theorem okL_iff (a : Lab) : okL a = true ↔ (0 ≤ a.l ∧ a.l ≤ 7 ∧ 0 ≤ a.k ∧ a.k ≤ 255) := by simp [okL, and_assoc]
def flowsB (a b : Lab) : Bool := decide (a.l ≤ b.l) && (bits .andNot .i64 a.k b.k == 0)
def joinL (a b : Lab) : Lab := ⟨max a.l b.l, bits .or .i64 a.k b.k⟩
def meetL (a b : Lab) : Lab := ⟨min a.l b.l, bits .and .i64 a.k b.k⟩

theorem flows_nat (a b : Lab) (A B : Nat) (ha : a.k = A) (hb : b.k = B) (h1 : A ≤ 255) (h2 : B ≤ 255) : flowsB a b = true ↔ (a.l ≤ b.l ∧ ∀ i, A.testBit i = true → B.testBit i = true) := by
  unfold flowsB
  rw [ha, hb, i64_andNot A B (by omega) (by omega)]
  have : (((less A B : Nat) : Int) == 0) = true ↔ less A B = 0 := by simp
  rw [Bool.and_eq_true, this, less_zero]
  simp

theorem bool_eq {a b : Bool} (h : a = true ↔ b = true) : a = b := by cases a <;> cases b <;> simp_all

theorem max_lt {A B : Nat} (h1 : A ≤ 255) (h2 : B ≤ 255) : A ||| B ≤ 255 := by have := or_lt A B 8 (by omega) (by omega); omega

theorem ok_join {a b : Lab} (ha : okL a = true) (hb : okL b = true) : okL (joinL a b) = true := by
  obtain ⟨a1, a2, a3, a4⟩ := (okL_iff a).1 ha
  obtain ⟨b1, b2, b3, b4⟩ := (okL_iff b).1 hb
  obtain ⟨A, hA⟩ := Int.eq_ofNat_of_zero_le a3
  obtain ⟨B, hB⟩ := Int.eq_ofNat_of_zero_le b3
  rw [okL_iff]
  simp only [joinL, hA, hB]
  rw [i64_or A B (by omega) (by omega)]
  have := max_lt (A := A) (B := B) (by omega) (by omega)
  omega
theorem ok_meet {a b : Lab} (ha : okL a = true) (hb : okL b = true) : okL (meetL a b) = true := by
  obtain ⟨a1, a2, a3, a4⟩ := (okL_iff a).1 ha
  obtain ⟨b1, b2, b3, b4⟩ := (okL_iff b).1 hb
  obtain ⟨A, hA⟩ := Int.eq_ofNat_of_zero_le a3
  obtain ⟨B, hB⟩ := Int.eq_ofNat_of_zero_le b3
  rw [okL_iff]
  simp only [meetL, hA, hB]
  rw [i64_and A B (by omega) (by omega)]
  have := Nat.and_le_left (n := A) (m := B)
  omega

theorem lattice {a b c : Lab} (ha : okL a = true) (hb : okL b = true) (hc : okL c = true) :
    (!flowsB a b || !flowsB b c || flowsB a c) = true ∧ (flowsB a b && flowsB b a) = (a.l == b.l && a.k == b.k) ∧ flowsB (joinL a b) c = (flowsB a c && flowsB b c) ∧ flowsB c (meetL a b) = (flowsB c a && flowsB c b) := by
  obtain ⟨a1, a2, a3, a4⟩ := (okL_iff a).1 ha
  obtain ⟨b1, b2, b3, b4⟩ := (okL_iff b).1 hb
  obtain ⟨c1, c2, c3, c4⟩ := (okL_iff c).1 hc
  obtain ⟨A, hA⟩ := Int.eq_ofNat_of_zero_le a3
  obtain ⟨B, hB⟩ := Int.eq_ofNat_of_zero_le b3
  obtain ⟨C, hC⟩ := Int.eq_ofNat_of_zero_le c3
  have hJ : (joinL a b).k = ((A ||| B : Nat) : Int) := by
    show bits .or .i64 a.k b.k = _
    rw [hA, hB]; exact i64_or A B (by omega) (by omega)
  have hM : (meetL a b).k = ((A &&& B : Nat) : Int) := by
    show bits .and .i64 a.k b.k = _
    rw [hA, hB]; exact i64_and A B (by omega) (by omega)
  have fab := flows_nat a b A B hA hB (by omega) (by omega)
  have fba := flows_nat b a B A hB hA (by omega) (by omega)
  have fbc := flows_nat b c B C hB hC (by omega) (by omega)
  have fac := flows_nat a c A C hA hC (by omega) (by omega)
  have fca := flows_nat c a C A hC hA (by omega) (by omega)
  have fcb := flows_nat c b C B hC hB (by omega) (by omega)
  have fjc := flows_nat (joinL a b) c _ C hJ hC (max_lt (by omega) (by omega)) (by omega)
  have fcm := flows_nat c (meetL a b) C _ hC hM (by omega) (by have := Nat.and_le_left (n := A) (m := B); omega)
  refine ⟨?_, ?_, ?_, ?_⟩
  · cases h1 : flowsB a b
    · rfl
    · cases h2 : flowsB b c
      · rfl
      · have h1' := fab.1 h1
        have h2' := fbc.1 h2
        have : flowsB a c = true := fac.2 ⟨by omega, fun i hi => h2'.2 i (h1'.2 i hi)⟩
        simp [this]
  · refine bool_eq ?_
    rw [Bool.and_eq_true, fab, fba, Bool.and_eq_true, beq_iff_eq, beq_iff_eq]
    constructor
    · rintro ⟨⟨h1, h2⟩, h3, h4⟩
      refine ⟨by omega, ?_⟩
      have : A = B := by
        apply Nat.eq_of_testBit_eq; intro i
        exact bool_eq ⟨h2 i, h4 i⟩
      rw [hA, hB, this]
    · rintro ⟨h1, h2⟩
      have : A = B := by rw [hA, hB] at h2; exact_mod_cast h2
      subst this
      exact ⟨⟨by omega, fun i h => h⟩, by omega, fun i h => h⟩
  · refine bool_eq ?_
    rw [Bool.and_eq_true, fjc, fac, fbc]
    simp only [joinL]
    constructor
    · rintro ⟨h1, h2⟩
      exact ⟨⟨by omega, fun i hi => h2 i (by rw [Nat.testBit_or, hi]; rfl)⟩, by omega, fun i hi => h2 i (by rw [Nat.testBit_or, hi]; simp)⟩
    · rintro ⟨⟨h1, h2⟩, h3, h4⟩
      refine ⟨by omega, fun i hi => ?_⟩
      rw [Nat.testBit_or, Bool.or_eq_true] at hi
      rcases hi with hi | hi
      · exact h2 i hi
      · exact h4 i hi
  · refine bool_eq ?_
    rw [Bool.and_eq_true, fcm, fca, fcb]
    simp only [meetL]
    constructor
    · rintro ⟨h1, h2⟩
      refine ⟨⟨by omega, fun i hi => ?_⟩, by omega, fun i hi => ?_⟩
      · have := h2 i hi; rw [Nat.testBit_and, Bool.and_eq_true] at this; exact this.1
      · have := h2 i hi; rw [Nat.testBit_and, Bool.and_eq_true] at this; exact this.2
    · rintro ⟨⟨h1, h2⟩, h3, h4⟩
      exact ⟨by omega, fun i hi => by rw [Nat.testBit_and, h2 i hi, h4 i hi]; rfl⟩
end Go.Proofs.Ytgdihccmkleimaa.LabelLaw
