/- Bits of numbers of 64 bits that are not negative. No program here. -/
import Derived.Laws.BitsLemmas
import Derived.Laws.Bits64
namespace Go.Proofs.YtjkephmfpoekgaaDoor

theorem wraps_i64 (n : Int) (h₀ : 0 ≤ n) (h₁ : n < 2 ^ 63) : IntKind.i64.wrap n = n := by rw [IntKind.wrap_i64]; omega

theorem i64_and (a b : Nat) (ha : a < 2 ^ 63) (hb : b < 2 ^ 63) : bits .and .i64 (a : Int) (b : Int) = ((a &&& b : Nat) : Int) :=
  (bits_nat .i64 63 (by decide) wraps_i64 a b ha hb).1
theorem i64_or (a b : Nat) (ha : a < 2 ^ 63) (hb : b < 2 ^ 63) : bits .or .i64 (a : Int) (b : Int) = ((a ||| b : Nat) : Int) :=
  (bits_nat .i64 63 (by decide) wraps_i64 a b ha hb).2

/-- a without the bits of b -/
def less (a b : Nat) : Nat := a ^^^ (a &&& b)
theorem less_bit (a b i : Nat) : (less a b).testBit i = (a.testBit i && !b.testBit i) := by
  simp [less]; cases a.testBit i <;> cases b.testBit i <;> rfl
theorem less_le (a b : Nat) : less a b ≤ a := by
  have h : less a b &&& a = less a b := by
    apply Nat.eq_of_testBit_eq; intro i
    rw [Nat.testBit_and, less_bit]; cases a.testBit i <;> cases b.testBit i <;> rfl
  rw [← h]; exact Nat.and_le_right
theorem i64_andNot (a b : Nat) (ha : a < 2 ^ 63) (_hb : b < 2 ^ 63) : bits .andNot .i64 (a : Int) (b : Int) = ((less a b : Nat) : Int) := by
  have hle := less_le a b
  have e : (BitVec.ofInt 64 (a : Int) &&& ~~~BitVec.ofInt 64 (b : Int)).toNat = less a b := by
    apply Nat.eq_of_testBit_eq
    intro i
    rw [less_bit, BitVec.testBit_toNat, BitVec.getLsbD_and, BitVec.getLsbD_not, BitVec.ofInt_natCast, BitVec.ofInt_natCast, BitVec.getLsbD_ofNat, BitVec.getLsbD_ofNat]
    by_cases hi : i < 64
    · simp [hi]
    · have : a.testBit i = false := Nat.testBit_lt_two_pow (Nat.lt_of_lt_of_le ha (Nat.pow_le_pow_right (by decide) (by omega)))
      simp [hi, this]
  show IntKind.i64.wrap ((BitVec.ofInt 64 (a : Int) &&& ~~~BitVec.ofInt 64 (b : Int)).toNat : Int) = _
  rw [e]
  exact wraps_i64 _ (Int.natCast_nonneg _) (by have : less a b < 2 ^ 63 := Nat.lt_of_le_of_lt hle ha; exact_mod_cast this)

theorem less_zero (a b : Nat) : less a b = 0 ↔ ∀ i, a.testBit i = true → b.testBit i = true := by
  constructor
  · intro h i ha
    have := less_bit a b i
    rw [h, ha] at this
    simpa using this.symm
  · intro h
    apply Nat.eq_of_testBit_eq
    intro i
    rw [less_bit, Nat.zero_testBit]
    cases ha : a.testBit i
    · rfl
    · rw [h i ha]; rfl
theorem or_lt (a b n : Nat) (ha : a < 2 ^ n) (hb : b < 2 ^ n) : a ||| b < 2 ^ n := Nat.or_lt_two_pow ha hb
theorem and_lt (a b n : Nat) (hb : b < 2 ^ n) : a &&& b < 2 ^ n := Nat.and_lt_two_pow _ hb
end Go.Proofs.YtjkephmfpoekgaaDoor
