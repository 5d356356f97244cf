/- The walks of load.word and bytes.Equal. -/
import Derived.Test.YtgdihccmkleimaaBootSmall
import Derived.Test.YtgdihccmkleimaaBits
import Derived.Laws.BytesArg
namespace Go.Proofs.Ytgdihccmkleimaa.BootLaw
open Go.RowKit
set_option linter.unusedVariables false
set_option linter.unusedSimpArgs false
def or85 (x y : Value) : Sem Value := binOp .or 85 x y
def shl85 (x y : Value) : Sem Value := binOp .shl 85 x y
def wide585 (x : Value) : Sem Value := convert 5 85 x
theorem wide585_eq (x : Value) : convert 5 85 x = wide585 x := rfl
theorem wide_u32 {x : Nat} (h : x < 256) (w : World) : (wide585 (.int .u8 x)).run Try.prog w = .ok (.int .u32 x) w := by
  have e : IntKind.u32.wrap (x : Int) = x := by rw [IntKind.wrap_u32]; omega
  unfold wide585
  simp [go_sem, e]
theorem or85_eq (x y : Value) : binOp .or 85 x y = or85 x y := rfl
theorem shl85_eq (x y : Value) : binOp .shl 85 x y = shl85 x y := rfl
theorem wraps_u32 (n : Int) (h₀ : 0 ≤ n) (h₁ : n < 2 ^ 32) : IntKind.u32.wrap n = n := by rw [IntKind.wrap_u32]; omega
theorem u32_or (a b : Nat) (ha : a < 2 ^ 32) (hb : b < 2 ^ 32) : bits .or .u32 (a : Int) (b : Int) = ((a ||| b : Nat) : Int) := by
  show IntKind.u32.wrap ((BitVec.ofInt 32 (a : Int) ||| BitVec.ofInt 32 (b : Int)).toNat : Int) = _
  rw [BitVec.toNat_or, BitVec.ofInt_natCast, BitVec.ofInt_natCast, BitVec.toNat_ofNat, BitVec.toNat_ofNat, Nat.mod_eq_of_lt ha, Nat.mod_eq_of_lt hb]
  exact wraps_u32 _ (Int.natCast_nonneg _) (by have := Nat.or_lt_two_pow ha hb; exact_mod_cast this)
theorem or_add (x y i : Nat) (hy : y < 2 ^ i) (hx : 2 ^ i ∣ x) : x ||| y = x + y := by
  obtain ⟨k, rfl⟩ := hx
  rw [Nat.mul_comm, ← Nat.shiftLeft_eq, ← Nat.shiftLeft_add_eq_or_of_lt hy]
theorem or_u32 {x y z : Nat} (hx : x < 4294967296) (hy : y < 4294967296) (h : x ||| y = z) (w : World) : (or85 (.int .u32 x) (.int .u32 y)).run Try.prog w = .ok (.int .u32 z) w := by
  have e := u32_or x y hx hy
  unfold or85
  simp [go_sem, e, h]
theorem shl_u32 {x z : Nat} (y k : Nat) (hk : (2 : Int) ^ y = k) (hx : x < 256) (hk2 : k ≤ 16777216) (hz : x * k = z) (hy : y < 32) (w : World) : (shl85 (.int .u32 x) (.int .u64 y)).run Try.prog w = .ok (.int .u32 z) w := by
  have hz2 : z < 4294967296 := by rw [← hz]; calc x * k ≤ x * 16777216 := Nat.mul_le_mul_left _ hk2
    _ < 4294967296 := by omega
  have e : ((x : Int) * 2 ^ y) % 4294967296 = z := by
    rw [hk, ← Int.natCast_mul, hz]
    omega
  unfold shl85
  simp [go_sem, IntKind.wrap, IntKind.bits, IntKind.signed]
  exact e
theorem t1 {x0 x1 : Nat} (h0 : x0 < 256) (h1 : x1 < 256) (w : World) : (or85 (.int .u32 x0) (.int .u32 ((x1 * 256 : Nat) : Int))).run Try.prog w = .ok (.int .u32 ((x0 + x1 * 256 : Nat) : Int)) w :=
  or_u32 (x := x0) (y := x1 * 256) (z := x0 + x1 * 256) (by omega) (by omega) (by rw [Nat.or_comm, or_add _ _ 8 (by omega) ⟨x1, by omega⟩]; omega) w
theorem t2 {x0 x1 x2 : Nat} (h0 : x0 < 256) (h1 : x1 < 256) (h2 : x2 < 256) (w : World) : (or85 (.int .u32 ((x0 + x1 * 256 : Nat) : Int)) (.int .u32 ((x2 * 65536 : Nat) : Int))).run Try.prog w = .ok (.int .u32 ((x0 + x1 * 256 + x2 * 65536 : Nat) : Int)) w :=
  or_u32 (x := x0 + x1 * 256) (y := x2 * 65536) (z := x0 + x1 * 256 + x2 * 65536) (by omega) (by omega) (by rw [Nat.or_comm, or_add _ _ 16 (by omega) ⟨x2, by omega⟩]; omega) w
theorem t3 {x0 x1 x2 x3 : Nat} (h0 : x0 < 256) (h1 : x1 < 256) (h2 : x2 < 256) (h3 : x3 < 256) (w : World) : (or85 (.int .u32 ((x0 + x1 * 256 + x2 * 65536 : Nat) : Int)) (.int .u32 ((x3 * 16777216 : Nat) : Int))).run Try.prog w = .ok (.int .u32 ((x0 + x1 * 256 + x2 * 65536 + x3 * 16777216 : Nat) : Int)) w :=
  or_u32 (x := x0 + x1 * 256 + x2 * 65536) (y := x3 * 16777216) (z := x0 + x1 * 256 + x2 * 65536 + x3 * 16777216) (by omega) (by omega) (by rw [Nat.or_comm, or_add _ _ 24 (by omega) ⟨x3, by omega⟩]; omega) w
attribute [local go_sem ↓] or85_eq shl85_eq wide585_eq
set_option maxRecDepth 100000 in
theorem word_walk {w : World} {b off n cap x0 x1 x2 x3 y1 y2 y3 z1 z2 z3 : Nat} (hn : 4 ≤ n) (c0 : w.cell? ⟨b, off, none⟩ = some (.int .u8 x0)) (c1 : w.cell? ⟨b, off + 1, none⟩ = some (.int .u8 x1)) (c2 : w.cell? ⟨b, off + 2, none⟩ = some (.int .u8 x2)) (c3 : w.cell? ⟨b, off + 3, none⟩ = some (.int .u8 x3))
    (v0 : ∀ w, (wide585 (.int .u8 x0)).run Try.prog w = .ok (.int .u32 x0) w) (v1 : ∀ w, (wide585 (.int .u8 x1)).run Try.prog w = .ok (.int .u32 x1) w) (v2 : ∀ w, (wide585 (.int .u8 x2)).run Try.prog w = .ok (.int .u32 x2) w) (v3 : ∀ w, (wide585 (.int .u8 x3)).run Try.prog w = .ok (.int .u32 x3) w)
    (s1 : ∀ w, (shl85 (.int .u32 x1) (.int .u64 8)).run Try.prog w = .ok (.int .u32 y1) w) (s2 : ∀ w, (shl85 (.int .u32 x2) (.int .u64 16)).run Try.prog w = .ok (.int .u32 y2) w) (s3 : ∀ w, (shl85 (.int .u32 x3) (.int .u64 24)).run Try.prog w = .ok (.int .u32 y3) w)
    (r1 : ∀ w, (or85 (.int .u32 x0) (.int .u32 y1)).run Try.prog w = .ok (.int .u32 z1) w) (r2 : ∀ w, (or85 (.int .u32 z1) (.int .u32 y2)).run Try.prog w = .ok (.int .u32 z2) w) (r3 : ∀ w, (or85 (.int .u32 z2) (.int .u32 y3)).run Try.prog w = .ok (.int .u32 z3) w) :
    Calls Try.prog 66 #[.slice (some ⟨b, off, none⟩) n cap] w fun e w' => e = .returned (.int .u32 z3) ∧ ∃ k, w' = w.drewN k := by
  have k0 : 0 < n := by omega
  have k1 : 1 < n := by omega
  have k2 : 2 < n := by omega
  have k3 : 3 < n := by omega
  have n0 : (0 : Int) < (n : Int) := by omega
  have n1 : (1 : Int) < (n : Int) := by omega
  have n2 : (2 : Int) < (n : Int) := by omega
  have n3 : (3 : Int) < (n : Int) := by omega
  go_enter Try.func66, Try.ntmps66
  go_wp2
  go_quiet (fail)
  go_wp2
  go_ret
  exact ⟨rfl, _, rfl⟩
/-- a word of four bytes, read back -/
theorem word_is {w : World} {v : Value} {l : List Int} {x : Nat} {r : List Int} (h : BS w v l) (hl : l = fourR x ++ r) (hx : x < 4294967296) : Calls Try.prog 66 #[v] w fun e w' => e = .returned (.int .u32 x) ∧ ∃ k, w' = w.drewN k := by
  obtain ⟨a, cap, rfl, hlc, hcap, hc⟩ := h
  rcases hc with h0 | ⟨b, off, rfl, hlt, hc⟩
  · rw [h0] at hl; simp [fourR] at hl
  · have hlen : l.length = 4 + r.length := by rw [hl]; simp [fourR]; omega
    have e0 : l.getD 0 0 = ((x % 256 : Nat) : Int) := by rw [hl]; simp [fourR]
    have e1 : l.getD 1 0 = ((x / 256 % 256 : Nat) : Int) := by rw [hl]; simp [fourR]
    have e2 : l.getD 2 0 = ((x / 65536 % 256 : Nat) : Int) := by rw [hl]; simp [fourR]
    have e3 : l.getD 3 0 = ((x / 16777216 : Nat) : Int) := by rw [hl]; simp [fourR]
    have c0 := hc 0 (by omega)
    have c1 := hc 1 (by omega)
    have c2 := hc 2 (by omega)
    have c3 := hc 3 (by omega)
    rw [e0, Nat.add_zero] at c0
    rw [e1] at c1
    rw [e2] at c2
    rw [e3] at c3
    have h0 : x % 256 < 256 := by omega
    have h1 : x / 256 % 256 < 256 := by omega
    have h2 : x / 65536 % 256 < 256 := by omega
    have h3 : x / 16777216 < 256 := by omega
    have := word_walk (n := l.length) (cap := cap) (by omega) c0 c1 c2 c3 (wide_u32 h0) (wide_u32 h1) (wide_u32 h2) (wide_u32 h3) (fun w => shl_u32 8 256 (by decide) h1 (by decide) rfl (by decide) w) (fun w => shl_u32 16 65536 (by decide) h2 (by decide) rfl (by decide) w) (fun w => shl_u32 24 16777216 (by decide) h3 (by decide) rfl (by decide) w) (t1 h0 h1) (t2 h0 h1 h2) (t3 h0 h1 h2 h3)
    rw [show x % 256 + x / 256 % 256 * 256 + x / 65536 % 256 * 65536 + x / 16777216 * 16777216 = x by omega] at this
    exact this
theorem conv_str {w : World} {v : Value} {l : List Int} (h : BS w v l) (h0 : l ≠ []) : (convert 24 9 v).run Try.prog w = .ok (.string (strOfNums l)) w := by
  obtain ⟨a, cap, rfl, hlc, hcap, hc⟩ := h
  rcases hc with h | ⟨b, off, rfl, hlt, hc⟩
  · exact absurd h h0
  · exact run_convert_bytes_arg w 24 5 Try.underlying24 Try.underlying5 b off l.length cap l rfl hc 9 Try.underlying9
set_option maxRecDepth 100000 in
theorem equal_is {w : World} {v v' : Value} {l : List Int} (h : BS w v l) (h' : BS w v' l) (h0 : l ≠ []) : Calls Try.prog 69 #[v, v'] w fun e w' => e = .returned (.bool true) ∧ w' = w := by
  have c1 := conv_str h h0
  have c2 := conv_str h' h0
  obtain ⟨a, cap, rfl, hlc, hcap, hc⟩ := h
  obtain ⟨a', cap', rfl, hlc', hcap', hc'⟩ := h'
  clear hc hc' h0
  go_enter Try.func69, Try.ntmps69
  go_wp2
  go_ret
  exact ⟨by simp, rfl⟩
end Go.Proofs.Ytgdihccmkleimaa.BootLaw
