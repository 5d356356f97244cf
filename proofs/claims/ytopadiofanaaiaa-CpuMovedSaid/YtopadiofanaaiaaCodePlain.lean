/- An instruction as a word of 32 bits, and back: in plain numbers. No program here. -/
import Derived.Test.YtopadiofanaaiaaBits
namespace Go.Proofs.Ytopadiofanaaiaa.CodeLaw

def word (o a b c : Nat) : Nat := ((o <<< 24 ||| a <<< 20) ||| b <<< 16) ||| c
theorem or_add (x y i : Nat) (hy : y < 2 ^ i) (hx : 2 ^ i ∣ x) : x ||| y = x + y := by
  obtain ⟨k, rfl⟩ := hx
  rw [Nat.mul_comm, ← Nat.shiftLeft_eq, ← Nat.shiftLeft_add_eq_or_of_lt hy]
theorem word_sum (o a b c : Nat) (ha : a < 16) (hb : b < 16) (hc : c < 65536) : word o a b c = o * 16777216 + a * 1048576 + b * 65536 + c := by
  unfold word
  simp only [Nat.shiftLeft_eq]
  rw [or_add (o * 2 ^ 24) (a * 2 ^ 20) 24 (by omega) ⟨o, by omega⟩]
  rw [or_add (o * 2 ^ 24 + a * 2 ^ 20) (b * 2 ^ 16) 20 (by omega) ⟨o * 16 + a, by omega⟩]
  rw [or_add (o * 2 ^ 24 + a * 2 ^ 20 + b * 2 ^ 16) c 16 (by omega) ⟨o * 256 + a * 16 + b, by omega⟩]
theorem and15 (n : Nat) : n &&& 15 = n % 16 := Nat.and_two_pow_sub_one_eq_mod n 4
end Go.Proofs.Ytopadiofanaaiaa.CodeLaw
