/- The walks of a room of memory: Load and Store of a byte. -/
import Derived.Test.YtopadiofanaaiaaBase
import Derived.Test.YtopadiofanaaiaaCommon
import Derived.WalkSmall
import Derived.BigQuiet
import Derived.BigRegion
namespace Go.Proofs.Ytopadiofanaaiaa.CpuLaw
open Go.RowKit
set_option linter.unusedVariables false
set_option linter.unusedSimpArgs false
/-- a room of memory: where it begins, its bytes, what may be done -/
structure M where
  at' : Nat
  n : Nat
  f : Nat → Nat
  may : Int
/-- the room in block b, its bytes in block c -/
structure Room (w : World) (b c : Nat) (m : M) : Prop where
  bl : b < w.heap.size
  cl : c < w.heap.size
  ne : b ≠ c
  fz : ∀ i, i < m.n → w.frozen? ⟨c, i, none⟩ = false
  al : m.at' < 4294967296
  nl : m.n < 9223372036854775808
  fl : ∀ i, m.f i < 256
  c0 : w.cell? ⟨b, 0, none⟩ = some (.int .u32 m.at')
  c1 : ∃ p cap, w.cell? ⟨b, 1, none⟩ = some (.slice p m.n cap) ∧ (0 < m.n → p = some ⟨c, 0, none⟩)
  c2 : w.cell? ⟨b, 2, none⟩ = some (.int .i64 m.may)
  d : ∀ i, i < m.n → w.cell? ⟨c, i, none⟩ = some (.int .u8 (m.f i))
theorem Room.keep {w w' : World} {b c : Nat} {m : M} (h : Room w b c m) (hb : Below w.heap.size w w') : Room w' b c m := by
  obtain ⟨pt, cap, h1, hp⟩ := h.c1
  exact ⟨Nat.lt_of_lt_of_le h.bl hb.size, Nat.lt_of_lt_of_le h.cl hb.size, h.ne, fun i hi => (hb.frozen (p := ⟨c, i, none⟩) h.cl).trans (h.fz i hi), h.al, h.nl, h.fl, (hb.cell (p := ⟨b, _, none⟩) h.bl).trans h.c0, ⟨pt, cap, (hb.cell (p := ⟨b, _, none⟩) h.bl).trans h1, hp⟩, (hb.cell (p := ⟨b, _, none⟩) h.bl).trans h.c2, fun i hi => (hb.cell (p := ⟨c, _, none⟩) h.cl).trans (h.d i hi)⟩
def idx (m : M) (a : Nat) : Nat := (a + 4294967296 - m.at') % 4294967296
/-- may a byte be had? -/
def can (m : M) (a : Nat) (want : Int) : Prop := idx m a < m.n ∧ bits .andNot .i64 want m.may = 0
instance (m : M) (a : Nat) (want : Int) : Decidable (can m a want) := by unfold can; infer_instance
def sub33 (x y : Value) : Sem Value := binOp .sub 33 x y
def add33 (x y : Value) : Sem Value := binOp .add 33 x y
theorem sub33_eq (x y : Value) : binOp .sub 33 x y = sub33 x y := rfl
theorem add33_eq (x y : Value) : binOp .add 33 x y = add33 x y := rfl
theorem sub_u32 {a b k : Nat} (h : ((a : Int) - (b : Int)) % 4294967296 = (k : Int)) (w : World) : (sub33 (.int .u32 a) (.int .u32 b)).run Try.prog w = .ok (.int .u32 k) w := by
  have e : IntKind.u32.wrap ((a : Int) - b) = k := by rw [IntKind.wrap_u32]; exact h
  unfold sub33
  simp [go_sem, e]
theorem add_u32 {a b k : Nat} (h : ((a : Int) + (b : Int)) % 4294967296 = (k : Int)) (w : World) : (add33 (.int .u32 a) (.int .u32 b)).run Try.prog w = .ok (.int .u32 k) w := by
  have e : IntKind.u32.wrap ((a : Int) + b) = k := by rw [IntKind.wrap_u32]; exact h
  unfold add33
  simp [go_sem, e]
def wide (x : Value) : Sem Value := convert 33 114 x
def wideN (x : Value) : Sem Value := convert 3 114 x
theorem wide_eq (x : Value) : convert 33 114 x = wide x := rfl
theorem wideN_eq (x : Value) : convert 3 114 x = wideN x := rfl
theorem wide_u64 {k : Nat} (h : k < 4294967296) (w : World) : (wide (.int .u32 k)).run Try.prog w = .ok (.int .u64 k) w := by
  have e : IntKind.u64.wrap (k : Int) = k := by rw [IntKind.wrap_u64]; omega
  unfold wide
  simp [go_sem, e]
theorem wideN_u64 {k : Nat} (h : k < 9223372036854775808) (w : World) : (wideN (.int .i64 k)).run Try.prog w = .ok (.int .u64 k) w := by
  have e : IntKind.u64.wrap (k : Int) = k := by rw [IntKind.wrap_u64]; omega
  unfold wideN
  simp [go_sem, e]
attribute [local go_sem ↓] sub33_eq add33_eq wide_eq wideN_eq
set_option maxRecDepth 100000 in
set_option maxHeartbeats 400000 in
theorem load_walk {w : World} {b c a k : Nat} {m : M} {want : Int} {cap : Nat} (c1 : w.cell? ⟨b, 1, none⟩ = some (.slice (some ⟨c, 0, none⟩) m.n cap)) (c0 : w.cell? ⟨b, 0, none⟩ = some (.int .u32 m.at')) (c2 : w.cell? ⟨b, 2, none⟩ = some (.int .i64 m.may)) (d : w.cell? ⟨c, k, none⟩ = some (.int .u8 (m.f k))) (hw : (bits .andNot .i64 want m.may != 0) = false) (hlt : k < m.n) (hw1 : ∀ w, (wide (.int .u32 k)).run Try.prog w = .ok (.int .u64 k) w) (hw2 : ∀ w, (wideN (.int .i64 m.n)).run Try.prog w = .ok (.int .u64 m.n) w) (hlti : (k : Int) < (m.n : Int)) (hle : decide (m.n ≤ k) = false) (hlei : decide ((m.n : Int) ≤ (k : Int)) = false) (hsub : ∀ w, (sub33 (.int .u32 a) (.int .u32 m.at')).run Try.prog w = .ok (.int .u32 k) w) :
    Calls Try.prog 62 #[.pointer (some ⟨b, 0, none⟩), .int .u32 a, .int .i64 want] w fun e w' => e = .returned (.tuple #[.int .u8 (m.f k), .int .i64 0]) ∧ w' = w := by
  go_enter Try.func62, Try.ntmps62
  go_wp2
  go_ret2
  exact ⟨rfl, rfl⟩
set_option maxRecDepth 100000 in
set_option maxHeartbeats 400000 in
theorem store_walk {w : World} {b c a k : Nat} {m : M} {cap : Nat} (c1 : w.cell? ⟨b, 1, none⟩ = some (.slice (some ⟨c, 0, none⟩) m.n cap)) (c0 : w.cell? ⟨b, 0, none⟩ = some (.int .u32 m.at')) (c2 : w.cell? ⟨b, 2, none⟩ = some (.int .i64 m.may)) {x u : Nat} (fz : w.frozen? ⟨c, k, none⟩ = false) (d : w.cell? ⟨c, k, none⟩ = some (.int .u8 u)) (hw : (bits .and .i64 m.may 2 == 0) = false) (hlt : k < m.n) (hw1 : ∀ w, (wide (.int .u32 k)).run Try.prog w = .ok (.int .u64 k) w) (hw2 : ∀ w, (wideN (.int .i64 m.n)).run Try.prog w = .ok (.int .u64 m.n) w) (hlti : (k : Int) < (m.n : Int)) (hle : decide (m.n ≤ k) = false) (hlei : decide ((m.n : Int) ≤ (k : Int)) = false) (hsub : ∀ w, (sub33 (.int .u32 a) (.int .u32 m.at')).run Try.prog w = .ok (.int .u32 k) w) :
    Calls Try.prog 63 #[.pointer (some ⟨b, 0, none⟩), .int .u32 a, .int .u8 x] w fun e w' => e = .returned (.int .i64 0) ∧ w' = w.setCell ⟨c, k, none⟩ (.int .u8 x) := by
  go_enter Try.func63, Try.ntmps63
  go_wp2
  go_ret
  exact ⟨rfl, rfl⟩
theorem idx_is {a p : Nat} (hp : p < 4294967296) : ((a : Int) - (p : Int)) % 4294967296 = (((a + 4294967296 - p) % 4294967296 : Nat) : Int) := by omega
theorem load_yes {w : World} {b c a : Nat} {m : M} {want : Int} (h : Room w b c m) (hc : can m a want) :
    Calls Try.prog 62 #[.pointer (some ⟨b, 0, none⟩), .int .u32 a, .int .i64 want] w fun e w' => e = .returned (.tuple #[.int .u8 (m.f (idx m a)), .int .i64 0]) ∧ w' = w := by
  obtain ⟨pt, cap, c1, hp⟩ := h.c1
  obtain rfl := hp (Nat.lt_of_le_of_lt (Nat.zero_le _) hc.1)
  exact load_walk c1 h.c0 h.c2 (h.d _ hc.1) (by rw [hc.2]; rfl) hc.1 (wide_u64 (Nat.mod_lt _ (by decide))) (wideN_u64 h.nl) (Int.ofNat_lt.2 hc.1) (decide_eq_false (Nat.not_le.2 hc.1)) (decide_eq_false (by have := Int.ofNat_lt.2 hc.1; omega)) (sub_u32 (idx_is h.al))
def canS (m : M) (a : Nat) : Prop := idx m a < m.n ∧ bits .and .i64 m.may 2 ≠ 0
def setM (m : M) (k x : Nat) : M := { m with f := fun i => if i = k then x else m.f i }
theorem Room.store {w : World} {b c : Nat} {m : M} (h : Room w b c m) {k x : Nat} (hk : k < m.n) (hx : x < 256) : Room (w.setCell ⟨c, k, none⟩ (.int .u8 x)) b c (setM m k x) := by
  have e : ∀ i, (w.setCell ⟨c, k, none⟩ (.int .u8 x)).cell? ⟨b, i, none⟩ = w.cell? ⟨b, i, none⟩ := fun i => World.cell?_setCell_other _ _ _ _ (by intro e; exact h.ne (by simpa using (congrArg Addr.block e).symm))
  obtain ⟨pt, cap, h1, hp⟩ := h.c1
  refine ⟨by simpa using h.bl, by simpa using h.cl, h.ne, fun i hi => by rw [World.frozen?_setCell]; exact h.fz i hi, h.al, h.nl, fun i => ?_, by rw [e]; exact h.c0, ⟨pt, cap, by rw [e]; exact h1, hp⟩, by rw [e]; exact h.c2, fun i hi => ?_⟩
  · show (if i = k then x else m.f i) < 256
    split
    · exact hx
    · exact h.fl i
  · show _ = some (Value.int .u8 ((if i = k then x else m.f i : Nat) : Int))
    by_cases q : i = k
    · subst q
      rw [if_pos rfl]
      have := h.d i hk
      simp [go_sem, this]
    · rw [if_neg q, World.cell?_setCell_other _ _ _ _ (by intro e2; exact q (by simpa using (congrArg Addr.off e2).symm))]
      exact h.d i hi
theorem store_yes {w : World} {b c a x : Nat} {m : M} (h : Room w b c m) (hc : canS m a) (hx : x < 256) :
    Calls Try.prog 63 #[.pointer (some ⟨b, 0, none⟩), .int .u32 a, .int .u8 x] w fun e w' => e = .returned (.int .i64 0) ∧ w' = w.setCell ⟨c, idx m a, none⟩ (.int .u8 x) ∧ Room w' b c (setM m (idx m a) x) := by
  obtain ⟨pt, cap, c1, hp⟩ := h.c1
  obtain rfl := hp (Nat.lt_of_le_of_lt (Nat.zero_le _) hc.1)
  refine (store_walk c1 h.c0 h.c2 (h.fz _ hc.1) (h.d _ hc.1) (by simpa using hc.2) hc.1 (wide_u64 (Nat.mod_lt _ (by decide))) (wideN_u64 h.nl) (Int.ofNat_lt.2 hc.1) (decide_eq_false (Nat.not_le.2 hc.1)) (decide_eq_false (by have := Int.ofNat_lt.2 hc.1; omega)) (sub_u32 (idx_is h.al))).mono ?_
  rintro e w' ⟨rfl, rfl⟩
  exact ⟨rfl, rfl, h.store hc.1 hx⟩
end Go.Proofs.Ytopadiofanaaiaa.CpuLaw
