/- An instruction's word, its errors: in plain numbers. No program here. -/
import Derived.Test.YtopadiofanaaiaaCodeNames0
namespace Go.Proofs.Ytopadiofanaaiaa.CodeLaw

def okF (f a b c : Int) : Bool := !((bits .and .i64 f 1 == 0 && a != 0) || (bits .and .i64 f 2 == 0 && b != 0) || (bits .and .i64 f 4 == 0 && c != 0))
def inF (a b c : Int) : Prop := 0 ≤ a ∧ a < 8 ∧ 0 ≤ b ∧ b < 8 ∧ -32768 ≤ c ∧ c ≤ 32767
instance (a b c : Int) : Decidable (inF a b c) := by unfold inF; infer_instance
def wordZ (op a b c : Int) : Int := bits .or .u32 (bits .or .u32 (bits .or .u32 (op * 16777216) (a * 1048576)) (b * 65536)) (IntKind.u16.wrap c % 4294967296)
def encR (op a b c : Int) : Int × Int := if 1 ≤ op ∧ op ≤ 26 then (if inF a b c then (if okF (fldS op) a b c = true then (wordZ op a b c, 0) else (0, 3)) else (0, 1)) else (0, 4)
theorem encR_none {op a b c : Int} (h : ¬ (1 ≤ op ∧ op ≤ 26)) : encR op a b c = (0, 4) := by rw [encR, if_neg h]
theorem encR_out {op a b c : Int} (h : 1 ≤ op ∧ op ≤ 26) (hi : ¬ inF a b c) : encR op a b c = (0, 1) := by rw [encR, if_pos h, if_neg hi]
theorem encR_form {op a b c : Int} (h : 1 ≤ op ∧ op ≤ 26) (hi : inF a b c) (hf : ¬ okF (fldS op) a b c = true) : encR op a b c = (0, 3) := by rw [encR, if_pos h, if_pos hi, if_neg hf]
theorem encR_ok {op a b c : Int} (h : 1 ≤ op ∧ op ≤ 26) (hi : inF a b c) (hf : okF (fldS op) a b c = true) : encR op a b c = (wordZ op a b c, 0) := by rw [encR, if_pos h, if_pos hi, if_pos hf]
theorem encR_zero {op a b c : Int} (h : (encR op a b c).2 = 0) : (1 ≤ op ∧ op ≤ 26) ∧ inF a b c ∧ okF (fldS op) a b c = true := by
  unfold encR at h
  by_cases h1 : 1 ≤ op ∧ op ≤ 26
  · rw [if_pos h1] at h
    by_cases h2 : inF a b c
    · rw [if_pos h2] at h
      by_cases h3 : okF (fldS op) a b c = true
      · exact ⟨h1, h2, h3⟩
      · rw [if_neg h3] at h; cases h
    · rw [if_neg h2] at h; cases h
  · rw [if_neg h1] at h; cases h
theorem name_some {op : Int} (h : 1 ≤ op ∧ op ≤ 26) : (rowS op).1.toList.isEmpty = false := by
  rcases known_cases h with rfl | rfl | rfl | rfl | rfl | rfl | rfl | rfl | rfl | rfl | rfl | rfl | rfl | rfl | rfl | rfl | rfl | rfl | rfl | rfl | rfl | rfl | rfl | rfl | rfl | rfl <;> decide +kernel
theorem u16_wrap (c : Int) : IntKind.u16.wrap c = c % 65536 := by simp [IntKind.wrap, IntKind.bits, IntKind.signed]
theorem wraps_u32 (n : Int) (h₀ : 0 ≤ n) (h₁ : n < 2 ^ 32) : IntKind.u32.wrap n = n := by rw [IntKind.wrap_u32]; omega
theorem u32_or (a b : Nat) (ha : a < 2 ^ 32) (hb : b < 2 ^ 32) : bits .or .u32 (a : Int) (b : Int) = ((a ||| b : Nat) : Int) :=
  (bits_nat .u32 32 (by decide) wraps_u32 a b ha hb).2
theorem u32_and (a b : Nat) (ha : a < 2 ^ 32) (hb : b < 2 ^ 32) : bits .and .u32 (a : Int) (b : Int) = ((a &&& b : Nat) : Int) :=
  (bits_nat .u32 32 (by decide) wraps_u32 a b ha hb).1
theorem wordZ_sum {op a b c : Int} (h : 1 ≤ op ∧ op ≤ 26) (hi : inF a b c) : wordZ op a b c = op * 16777216 + a * 1048576 + b * 65536 + c % 65536 := by
  obtain ⟨a0, a1, b0, b1, c0, c1⟩ := hi
  obtain ⟨o, rfl⟩ : ∃ n : Nat, op = n := ⟨op.toNat, by omega⟩
  obtain ⟨x, rfl⟩ : ∃ n : Nat, a = n := ⟨a.toNat, by omega⟩
  obtain ⟨y, rfl⟩ : ∃ n : Nat, b = n := ⟨b.toNat, by omega⟩
  obtain ⟨z, hz⟩ : ∃ n : Nat, c % 65536 = n := ⟨(c % 65536).toNat, by omega⟩
  unfold wordZ
  rw [u16_wrap, hz]
  have e1 : (o : Int) * 16777216 = ((o * 16777216 : Nat) : Int) := by omega
  have e2 : (x : Int) * 1048576 = ((x * 1048576 : Nat) : Int) := by omega
  have e3 : (y : Int) * 65536 = ((y * 65536 : Nat) : Int) := by omega
  have e4 : (z : Int) % 4294967296 = ((z : Nat) : Int) := by omega
  have s1 : o * 16777216 ||| x * 1048576 = o * 16777216 + x * 1048576 := or_add _ _ 24 (by omega) ⟨o, by omega⟩
  have s2 : (o * 16777216 + x * 1048576) ||| y * 65536 = o * 16777216 + x * 1048576 + y * 65536 := or_add _ _ 20 (by omega) ⟨o * 16 + x, by omega⟩
  have s3 : (o * 16777216 + x * 1048576 + y * 65536) ||| z = o * 16777216 + x * 1048576 + y * 65536 + z := or_add _ _ 16 (by omega) ⟨o * 256 + x * 16 + y, by omega⟩
  rw [e1, e2, e3, e4, u32_or _ _ (by omega) (by omega), s1, u32_or _ _ (by omega) (by omega), s2, u32_or _ _ (by omega) (by omega), s3]
  omega

/-- the fields of a word -/
def fA (x : Int) : Int := bits .and .u32 (x / 1048576) 15
def fB (x : Int) : Int := bits .and .u32 (x / 65536) 15
theorem fA_is {x : Int} (h0 : 0 ≤ x) (h1 : x < 4294967296) : fA x = x / 1048576 % 16 := by
  obtain ⟨n, hn⟩ : ∃ n : Nat, x / 1048576 = n := ⟨(x / 1048576).toNat, by omega⟩
  rw [fA, hn, show (15 : Int) = ((15 : Nat) : Int) from rfl, u32_and _ _ (by omega) (by decide), and15]
  omega
theorem fB_is {x : Int} (h0 : 0 ≤ x) (h1 : x < 4294967296) : fB x = x / 65536 % 16 := by
  obtain ⟨n, hn⟩ : ∃ n : Nat, x / 65536 = n := ⟨(x / 65536).toNat, by omega⟩
  rw [fB, hn, show (15 : Int) = ((15 : Nat) : Int) from rfl, u32_and _ _ (by omega) (by decide), and15]
  omega
def fC (x : Int) : Int := (x + 32768) % 65536 - 32768
structure Ins where
  op : Int
  a : Int
  b : Int
  c : Int
  deriving DecidableEq
def fields (x : Int) : Ins := ⟨x / 16777216, x / 1048576 % 16, x / 65536 % 16, fC x⟩
def encI (i : Ins) : Int × Int := encR i.op i.a i.b i.c
def decOk (x : Int) : Bool := (encI (fields x)).2 == 0 && (encI (fields x)).1 == x
def decR (x : Int) : Ins × Int := if decOk x = true then (fields x, 0) else (⟨0, 0, 0, 0⟩, 3)
theorem back {i : Ins} (h : (encI i).2 = 0) : (0 ≤ (encI i).1 ∧ (encI i).1 < 4294967296) ∧ decR (encI i).1 = (i, 0) := by
  obtain ⟨h1, h2, h3⟩ := encR_zero h
  have he : encI i = (wordZ i.op i.a i.b i.c, 0) := encR_ok h1 h2 h3
  have hs := wordZ_sum h1 h2
  have h2' := h2
  obtain ⟨a0, a1, b0, b1, c0, c1⟩ := h2
  have hf : fields (encI i).1 = i := by
    obtain ⟨op, a, b, c⟩ := i
    rw [he]
    simp only at *
    rw [hs, fields, fC]
    congr 1 <;> omega
  refine ⟨by rw [he, hs]; omega, ?_⟩
  have hd : decOk (encI i).1 = true := by
    rw [decOk, hf, h]; simp
  rw [decR, if_pos hd, hf]
theorem forth {x : Int} (h : (decR x).2 = 0) : encI (decR x).1 = (x, 0) := by
  unfold decR at h ⊢
  by_cases hd : decOk x = true
  · rw [if_pos hd]
    unfold decOk at hd
    simp at hd
    exact Prod.ext hd.2 hd.1
  · rw [if_neg hd] at h; cases h
theorem decR_bad {x : Int} (h : (decR x).2 ≠ 0) : decR x = (⟨0, 0, 0, 0⟩, 3) := by
  unfold decR at h ⊢
  by_cases hd : decOk x = true
  · rw [if_pos hd] at h; exact absurd rfl h
  · rw [if_neg hd]
end Go.Proofs.Ytopadiofanaaiaa.CodeLaw
