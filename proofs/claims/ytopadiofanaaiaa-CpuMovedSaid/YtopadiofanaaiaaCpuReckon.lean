/- The walk of cpu.reckon. -/
import Derived.Test.YtopadiofanaaiaaCpuSpec
namespace Go.Proofs.Ytopadiofanaaiaa.CpuLaw
open Go.RowKit
set_option linter.unusedVariables false
set_option linter.unusedSimpArgs false
def mul33 (x y : Value) : Sem Value := binOp .mul 33 x y
theorem mul33_eq (x y : Value) : binOp .mul 33 x y = mul33 x y := rfl
def quo33 (x y : Value) : Sem Value := binOp .quo 33 x y
theorem quo33_eq (x y : Value) : binOp .quo 33 x y = quo33 x y := rfl
def and33 (x y : Value) : Sem Value := binOp .and 33 x y
theorem and33_eq (x y : Value) : binOp .and 33 x y = and33 x y := rfl
def xor33 (x y : Value) : Sem Value := binOp .xor 33 x y
theorem xor33_eq (x y : Value) : binOp .xor 33 x y = xor33 x y := rfl
theorem bit_lt {x y : Nat} (op : Nat → Nat → Nat) (h : op x y < 2 ^ 32) : op x y < 4294967296 := h
theorem mul_u32 {a b z : Nat} (h : a * b % 4294967296 = z) (w : World) : (mul33 (.int .u32 a) (.int .u32 b)).run Try.prog w = .ok (.int .u32 z) w := by
  have e : IntKind.u32.wrap ((a : Int) * b) = z := by
    rw [IntKind.wrap_u32, ← Int.natCast_mul]
    generalize a * b = n at *
    omega
  unfold mul33
  simp [go_sem, e]
theorem quo_u32 {a b z : Nat} (hb : b ≠ 0) (ha : a < 4294967296) (h : a / b = z) (w : World) : (quo33 (.int .u32 a) (.int .u32 b)).run Try.prog w = .ok (.int .u32 z) w := by
  have e0 : ((a : Int).tdiv b) = z := by rw [← h]; rfl
  have hz : z < 4294967296 := by have := Nat.div_le_self a b; omega
  have e : IntKind.u32.wrap (z : Int) = z := by rw [IntKind.wrap_u32]; omega
  unfold quo33
  simp [go_sem, hb, e0, e]
theorem and_u32 {x y z : Nat} (hx : x < 4294967296) (hy : y < 4294967296) (h : x &&& y = z) (w : World) : (and33 (.int .u32 x) (.int .u32 y)).run Try.prog w = .ok (.int .u32 z) w := by
  have e := CodeLaw.u32_and x y hx hy
  unfold and33
  simp [go_sem, e, h]
theorem u32_xor (a b : Nat) (ha : a < 2 ^ 32) (hb : b < 2 ^ 32) : bits .xor .u32 (a : Int) (b : Int) = ((a ^^^ b : Nat) : Int) := by
  show IntKind.u32.wrap ((BitVec.ofInt 32 (a : Int) ^^^ BitVec.ofInt 32 (b : Int)).toNat : Int) = _
  rw [BitVec.toNat_xor, BitVec.ofInt_natCast, BitVec.ofInt_natCast, BitVec.toNat_ofNat, BitVec.toNat_ofNat, Nat.mod_eq_of_lt ha, Nat.mod_eq_of_lt hb]
  exact CodeLaw.wraps_u32 _ (Int.natCast_nonneg _) (by have := Nat.xor_lt_two_pow ha hb; exact_mod_cast this)
theorem xor_u32 {x y z : Nat} (hx : x < 4294967296) (hy : y < 4294967296) (h : x ^^^ y = z) (w : World) : (xor33 (.int .u32 x) (.int .u32 y)).run Try.prog w = .ok (.int .u32 z) w := by
  have e := u32_xor x y hx hy
  unfold xor33
  simp [go_sem, e, h]
attribute [local go_sem ↓] sub33_eq add33_eq or33_eq shl33_eq shr33_eq mul33_eq quo33_eq and33_eq xor33_eq
set_option maxRecDepth 100000 in
theorem reckon_5 {w : World} {a b z : Nat} (H : ∀ w, (add33 (.int .u32 a) (.int .u32 b)).run Try.prog w = .ok (.int .u32 z) w) :
    Calls Try.prog 39 #[.int .i64 5, .int .u32 a, .int .u32 b] w fun e w' => e = .returned (.tuple #[.int .u32 z, .bool true]) ∧ w = w' := by
  go_enter Try.func39, Try.ntmps39
  go_wp2
  go_ret2
  exact ⟨rfl, rfl⟩
set_option maxRecDepth 100000 in
theorem reckon_6 {w : World} {a b z : Nat} (H : ∀ w, (sub33 (.int .u32 a) (.int .u32 b)).run Try.prog w = .ok (.int .u32 z) w) :
    Calls Try.prog 39 #[.int .i64 6, .int .u32 a, .int .u32 b] w fun e w' => e = .returned (.tuple #[.int .u32 z, .bool true]) ∧ w = w' := by
  go_enter Try.func39, Try.ntmps39
  go_wp2
  go_ret2
  exact ⟨rfl, rfl⟩
set_option maxRecDepth 100000 in
theorem reckon_7 {w : World} {a b z : Nat} (H : ∀ w, (mul33 (.int .u32 a) (.int .u32 b)).run Try.prog w = .ok (.int .u32 z) w) :
    Calls Try.prog 39 #[.int .i64 7, .int .u32 a, .int .u32 b] w fun e w' => e = .returned (.tuple #[.int .u32 z, .bool true]) ∧ w = w' := by
  go_enter Try.func39, Try.ntmps39
  go_wp2
  go_ret2
  exact ⟨rfl, rfl⟩
set_option maxRecDepth 100000 in
theorem reckon_8 {w : World} {a b z : Nat} (H : ∀ w, (quo33 (.int .u32 a) (.int .u32 b)).run Try.prog w = .ok (.int .u32 z) w) (hb : ((b : Int) == 0) = false) :
    Calls Try.prog 39 #[.int .i64 8, .int .u32 a, .int .u32 b] w fun e w' => e = .returned (.tuple #[.int .u32 z, .bool true]) ∧ w = w' := by
  go_enter Try.func39, Try.ntmps39
  go_wp2
  go_ret2
  exact ⟨rfl, rfl⟩
set_option maxRecDepth 100000 in
theorem reckon_9 {w : World} {a b z : Nat} (H : ∀ w, (and33 (.int .u32 a) (.int .u32 b)).run Try.prog w = .ok (.int .u32 z) w) :
    Calls Try.prog 39 #[.int .i64 9, .int .u32 a, .int .u32 b] w fun e w' => e = .returned (.tuple #[.int .u32 z, .bool true]) ∧ w = w' := by
  go_enter Try.func39, Try.ntmps39
  go_wp2
  go_ret2
  exact ⟨rfl, rfl⟩
set_option maxRecDepth 100000 in
theorem reckon_10 {w : World} {a b z : Nat} (H : ∀ w, (or33 (.int .u32 a) (.int .u32 b)).run Try.prog w = .ok (.int .u32 z) w) :
    Calls Try.prog 39 #[.int .i64 10, .int .u32 a, .int .u32 b] w fun e w' => e = .returned (.tuple #[.int .u32 z, .bool true]) ∧ w = w' := by
  go_enter Try.func39, Try.ntmps39
  go_wp2
  go_ret2
  exact ⟨rfl, rfl⟩
set_option maxRecDepth 100000 in
theorem reckon_11 {w : World} {a b z : Nat} (H : ∀ w, (xor33 (.int .u32 a) (.int .u32 b)).run Try.prog w = .ok (.int .u32 z) w) :
    Calls Try.prog 39 #[.int .i64 11, .int .u32 a, .int .u32 b] w fun e w' => e = .returned (.tuple #[.int .u32 z, .bool true]) ∧ w = w' := by
  go_enter Try.func39, Try.ntmps39
  go_wp2
  go_ret2
  exact ⟨rfl, rfl⟩
set_option maxRecDepth 100000 in
theorem reckon_12 {w : World} {a b z : Nat} (H : ∀ w, (shl33 (.int .u32 a) (.int .u32 ((b : Int) % 32))).run Try.prog w = .ok (.int .u32 z) w) :
    Calls Try.prog 39 #[.int .i64 12, .int .u32 a, .int .u32 b] w fun e w' => e = .returned (.tuple #[.int .u32 z, .bool true]) ∧ w = w' := by
  go_enter Try.func39, Try.ntmps39
  go_wp2
  go_ret2
  exact ⟨rfl, rfl⟩
set_option maxRecDepth 100000 in
theorem reckon_13 {w : World} {a b z : Nat} (H : ∀ w, (shr33 (.int .u32 a) (.int .u32 ((b : Int) % 32))).run Try.prog w = .ok (.int .u32 z) w) :
    Calls Try.prog 39 #[.int .i64 13, .int .u32 a, .int .u32 b] w fun e w' => e = .returned (.tuple #[.int .u32 z, .bool true]) ∧ w = w' := by
  go_enter Try.func39, Try.ntmps39
  go_wp2
  go_ret2
  exact ⟨rfl, rfl⟩
set_option maxRecDepth 100000 in
theorem reckon_zero {w : World} {a b : Nat} (hb : ((b : Int) == 0) = true) :
    Calls Try.prog 39 #[.int .i64 8, .int .u32 a, .int .u32 b] w fun e w' => e = .returned (.tuple #[.int .u32 0, .bool false]) ∧ w = w' := by
  go_enter Try.func39, Try.ntmps39
  go_wp2
  go_ret2
  exact ⟨rfl, rfl⟩
end Go.Proofs.Ytopadiofanaaiaa.CpuLaw
