/- The walks of a room of memory: Load and Store of a byte that may not be had. -/
import Derived.Test.YtopadiofanaaiaaCpuBus
namespace Go.Proofs.Ytopadiofanaaiaa.CpuLaw
open Go.RowKit
set_option linter.unusedVariables false
set_option linter.unusedSimpArgs false
attribute [local go_sem ↓] sub33_eq add33_eq wide_eq wideN_eq
set_option maxRecDepth 100000 in
set_option maxHeartbeats 400000 in
theorem load_idx {w : World} {b a k : Nat} {m : M} {want : Int} {cap : Nat} {p : Option Addr} (c1 : w.cell? ⟨b, 1, none⟩ = some (.slice p m.n cap)) (c0 : w.cell? ⟨b, 0, none⟩ = some (.int .u32 m.at')) (c2 : w.cell? ⟨b, 2, none⟩ = some (.int .i64 m.may)) (hle : decide (m.n ≤ k) = true) (hlei : decide ((m.n : Int) ≤ (k : Int)) = true) (hlti : ¬ (k : Int) < (m.n : Int)) (hki : (m.n : Int) ≤ (k : Int)) (hkn : m.n ≤ k) (hw1 : ∀ w, (wide (.int .u32 k)).run Try.prog w = .ok (.int .u64 k) w) (hw2 : ∀ w, (wideN (.int .i64 m.n)).run Try.prog w = .ok (.int .u64 m.n) w) (hsub : ∀ w, (sub33 (.int .u32 a) (.int .u32 m.at')).run Try.prog w = .ok (.int .u32 k) w) :
    Calls Try.prog 62 #[.pointer (some ⟨b, 0, none⟩), .int .u32 a, .int .i64 want] w fun e w' => e = .returned (.tuple #[.int .u8 0, .int .i64 11]) ∧ w' = w := by
  go_enter Try.func62, Try.ntmps62
  go_wp2
  go_ret2
  exact ⟨rfl, rfl⟩
set_option maxRecDepth 100000 in
set_option maxHeartbeats 400000 in
theorem load_bit {w : World} {b c a k : Nat} {m : M} {want : Int} {cap : Nat} (c1 : w.cell? ⟨b, 1, none⟩ = some (.slice (some ⟨c, 0, none⟩) m.n cap)) (c0 : w.cell? ⟨b, 0, none⟩ = some (.int .u32 m.at')) (c2 : w.cell? ⟨b, 2, none⟩ = some (.int .i64 m.may)) (hw : (bits .andNot .i64 want m.may != 0) = true) (hlt : k < m.n) (hlti : (k : Int) < (m.n : Int)) (hle : decide (m.n ≤ k) = false) (hlei : decide ((m.n : Int) ≤ (k : Int)) = false) (hw1 : ∀ w, (wide (.int .u32 k)).run Try.prog w = .ok (.int .u64 k) w) (hw2 : ∀ w, (wideN (.int .i64 m.n)).run Try.prog w = .ok (.int .u64 m.n) w) (hsub : ∀ w, (sub33 (.int .u32 a) (.int .u32 m.at')).run Try.prog w = .ok (.int .u32 k) w) :
    Calls Try.prog 62 #[.pointer (some ⟨b, 0, none⟩), .int .u32 a, .int .i64 want] w fun e w' => e = .returned (.tuple #[.int .u8 0, .int .i64 11]) ∧ w' = w := by
  go_enter Try.func62, Try.ntmps62
  go_wp2
  go_ret2
  exact ⟨rfl, rfl⟩
set_option maxRecDepth 100000 in
set_option maxHeartbeats 400000 in
theorem store_idx {w : World} {b a k : Nat} {m : M} {dum : Int} {cap : Nat} {p : Option Addr} {x : Nat} (c1 : w.cell? ⟨b, 1, none⟩ = some (.slice p m.n cap)) (c0 : w.cell? ⟨b, 0, none⟩ = some (.int .u32 m.at')) (c2 : w.cell? ⟨b, 2, none⟩ = some (.int .i64 m.may)) (hle : decide (m.n ≤ k) = true) (hlei : decide ((m.n : Int) ≤ (k : Int)) = true) (hlti : ¬ (k : Int) < (m.n : Int)) (hki : (m.n : Int) ≤ (k : Int)) (hkn : m.n ≤ k) (hw1 : ∀ w, (wide (.int .u32 k)).run Try.prog w = .ok (.int .u64 k) w) (hw2 : ∀ w, (wideN (.int .i64 m.n)).run Try.prog w = .ok (.int .u64 m.n) w) (hsub : ∀ w, (sub33 (.int .u32 a) (.int .u32 m.at')).run Try.prog w = .ok (.int .u32 k) w) :
    Calls Try.prog 63 #[.pointer (some ⟨b, 0, none⟩), .int .u32 a, .int .u8 x] w fun e w' => e = .returned (.int .i64 11) ∧ w' = w := by
  go_enter Try.func63, Try.ntmps63
  go_wp2
  go_ret
  exact ⟨rfl, rfl⟩
set_option maxRecDepth 100000 in
set_option maxHeartbeats 400000 in
theorem store_bit {w : World} {b c a k : Nat} {m : M} {dum : Int} {cap : Nat} {x : Nat} (c1 : w.cell? ⟨b, 1, none⟩ = some (.slice (some ⟨c, 0, none⟩) m.n cap)) (c0 : w.cell? ⟨b, 0, none⟩ = some (.int .u32 m.at')) (c2 : w.cell? ⟨b, 2, none⟩ = some (.int .i64 m.may)) (hw : (bits .and .i64 m.may 2 == 0) = true) (hlt : k < m.n) (hlti : (k : Int) < (m.n : Int)) (hle : decide (m.n ≤ k) = false) (hlei : decide ((m.n : Int) ≤ (k : Int)) = false) (hw1 : ∀ w, (wide (.int .u32 k)).run Try.prog w = .ok (.int .u64 k) w) (hw2 : ∀ w, (wideN (.int .i64 m.n)).run Try.prog w = .ok (.int .u64 m.n) w) (hsub : ∀ w, (sub33 (.int .u32 a) (.int .u32 m.at')).run Try.prog w = .ok (.int .u32 k) w) :
    Calls Try.prog 63 #[.pointer (some ⟨b, 0, none⟩), .int .u32 a, .int .u8 x] w fun e w' => e = .returned (.int .i64 11) ∧ w' = w := by
  go_enter Try.func63, Try.ntmps63
  go_wp2
  go_ret
  exact ⟨rfl, rfl⟩
theorem load_no {w : World} {b c a : Nat} {m : M} {want : Int} (h : Room w b c m) (hc : ¬ can m a want) :
    Calls Try.prog 62 #[.pointer (some ⟨b, 0, none⟩), .int .u32 a, .int .i64 want] w fun e w' => e = .returned (.tuple #[.int .u8 0, .int .i64 11]) ∧ w' = w := by
  obtain ⟨pt, cap, c1, hp⟩ := h.c1
  have hk : idx m a < 4294967296 := Nat.mod_lt _ (by decide)
  by_cases q : idx m a < m.n
  · have hw : bits .andNot .i64 want m.may ≠ 0 := fun e => hc ⟨q, e⟩
    obtain rfl := hp (Nat.lt_of_le_of_lt (Nat.zero_le _) q)
    exact load_bit c1 h.c0 h.c2 (by simpa using hw) q (Int.ofNat_lt.2 q) (decide_eq_false (Nat.not_le.2 q)) (decide_eq_false (by have := Int.ofNat_lt.2 q; omega)) (wide_u64 hk) (wideN_u64 h.nl) (sub_u32 (idx_is h.al))
  · have q' := Nat.le_of_not_lt q
    have q2 := Int.ofNat_le.2 q'
    exact load_idx c1 h.c0 h.c2 (decide_eq_true q') (decide_eq_true q2) (fun e => q (Int.ofNat_lt.1 e)) q2 q' (wide_u64 hk) (wideN_u64 h.nl) (sub_u32 (idx_is h.al))
theorem store_no {w : World} {b c a x : Nat} {m : M} (h : Room w b c m) (hc : ¬ canS m a) :
    Calls Try.prog 63 #[.pointer (some ⟨b, 0, none⟩), .int .u32 a, .int .u8 x] w fun e w' => e = .returned (.int .i64 11) ∧ w' = w := by
  obtain ⟨pt, cap, c1, hp⟩ := h.c1
  have hk : idx m a < 4294967296 := Nat.mod_lt _ (by decide)
  by_cases q : idx m a < m.n
  · have hw : bits .and .i64 m.may 2 = 0 := by
      by_cases e : bits .and .i64 m.may 2 = 0
      · exact e
      · exact absurd ⟨q, e⟩ hc
    obtain rfl := hp (Nat.lt_of_le_of_lt (Nat.zero_le _) q)
    exact store_bit (dum := 0) c1 h.c0 h.c2 (by rw [hw]; rfl) q (Int.ofNat_lt.2 q) (decide_eq_false (Nat.not_le.2 q)) (decide_eq_false (by have := Int.ofNat_lt.2 q; omega)) (wide_u64 hk) (wideN_u64 h.nl) (sub_u32 (idx_is h.al))
  · have q' := Nat.le_of_not_lt q
    have q2 := Int.ofNat_le.2 q'
    exact store_idx (dum := 0) c1 h.c0 h.c2 (decide_eq_true q') (decide_eq_true q2) (fun e => q (Int.ofNat_lt.1 e)) q2 q' (wide_u64 hk) (wideN_u64 h.nl) (sub_u32 (idx_is h.al))
end Go.Proofs.Ytopadiofanaaiaa.CpuLaw
