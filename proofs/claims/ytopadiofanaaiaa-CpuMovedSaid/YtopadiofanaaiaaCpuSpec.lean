/- What fetch and put compute, and what they leave as it was. -/
import Derived.Test.YtopadiofanaaiaaCpuPut
namespace Go.Proofs.Ytopadiofanaaiaa.CpuLaw
open Go.RowKit
set_option linter.unusedVariables false
set_option linter.unusedSimpArgs false
/-- all blocks but c that were there are as they were -/
structure Off (c : Nat) (w w' : World) : Prop where
  size : w.heap.size ≤ w'.heap.size
  keep : ∀ k, k < w.heap.size → k ≠ c → w'.heap[k]? = w.heap[k]?
  low : ∀ B, B ≤ c → B ≤ w.heap.size → Below B w w'
theorem Off.refl (c : Nat) (w : World) : Off c w w := ⟨Nat.le_refl _, fun _ _ _ => rfl, fun B _ _ => Below.refl B w⟩
theorem Off.trans {c : Nat} {w w1 w2 : World} (h : Off c w w1) (k : Off c w1 w2) : Off c w w2 :=
  ⟨Nat.le_trans h.size k.size, fun i hi hc => (k.keep i (Nat.lt_of_lt_of_le hi h.size) hc).trans (h.keep i hi hc), fun B hB hs => (h.low B hB hs).trans (k.low B hB (Nat.le_trans hs h.size))⟩
theorem Off.of {c : Nat} {w w' : World} (h : Below w.heap.size w w') : Off c w w' := ⟨h.size, fun k hk _ => h.block k hk, fun B _ hs => h.mono hs⟩
theorem Off.ofB {c B : Nat} {w w' : World} (hB : w.heap.size ≤ B) (h : Below B w w') : Off c w w' := .of (h.mono hB)
theorem Off.set {c i : Nat} (w : World) (v : Value) : Off c w (w.setCell ⟨c, i, none⟩ v) :=
  ⟨by simp [World.setCell], fun k _ hc => Below.heap_setCell _ _ _ _ hc, fun B hB _ => (Below.refl B w).setCell hB v⟩
theorem Off.cell {c : Nat} {w w' : World} (h : Off c w w') {p : Addr} (hp : p.block < w.heap.size) (hc : p.block ≠ c) : w'.cell? p = w.cell? p := World.cell?_of_block (w := w) (h.keep _ hp hc)
theorem Off.frozen {c : Nat} {w w' : World} (h : Off c w w') {p : Addr} (hp : p.block < w.heap.size) (hc : p.block ≠ c) : w'.frozen? p = w.frozen? p := World.frozen?_of_block (w := w) (h.keep _ hp hc)
/-- a store to a block that is neither of the room's -/
theorem Room.other {w : World} {b c n i : Nat} {m : M} {v : Value} (h : Room w b c m) (hb : n ≠ b) (hc : n ≠ c) : Room (w.setCell ⟨n, i, none⟩ v) b c m := by
  have e : ∀ j, (w.setCell ⟨n, i, none⟩ v).cell? ⟨b, j, none⟩ = w.cell? ⟨b, j, none⟩ := fun j => World.cell?_setCell_other _ _ _ _ (by intro e; exact hb (by simpa using (congrArg Addr.block e)))
  have e2 : ∀ j, (w.setCell ⟨n, i, none⟩ v).cell? ⟨c, j, none⟩ = w.cell? ⟨c, j, none⟩ := fun j => World.cell?_setCell_other _ _ _ _ (by intro e; exact hc (by simpa using (congrArg Addr.block e)))
  obtain ⟨pt, cap, h1, hp⟩ := h.c1
  exact ⟨by simpa using h.bl, by simpa using h.cl, h.ne, fun i hi => by rw [World.frozen?_setCell]; exact h.fz i hi, h.al, h.nl, h.fl, by rw [e]; exact h.c0, ⟨pt, cap, by rw [e]; exact h1, hp⟩, by rw [e]; exact h.c2, fun i hi => by rw [e2]; exact h.d i hi⟩
def up (a k : Nat) : Nat := (a + k) % 4294967296
def byteAt (m : M) (a : Nat) : Nat := m.f (idx m a)
def wordAt (m : M) (a : Nat) : Nat := byteAt m a + byteAt m (up a 1) * 256 + byteAt m (up a 2) * 65536 + byteAt m (up a 3) * 16777216
/-- the first of four that fails, or what comes of all -/
def first4 {α : Type} (p0 p1 p2 p3 : Prop) [Decidable p0] [Decidable p1] [Decidable p2] [Decidable p3] (f0 f1 f2 f3 r : α) : α :=
  if p0 then if p1 then if p2 then if p3 then r else f3 else f2 else f1 else f0
def fetchF (m : M) (a : Nat) (want : Int) : Nat × Int × Nat :=
  if a % 4 = 0 then first4 (can m a want) (can m (up a 1) want) (can m (up a 2) want) (can m (up a 3) want) (0, 2, a) (0, 2, up a 1) (0, 2, up a 2) (0, 2, up a 3) (wordAt m a, 0, 0) else (0, 2, a)
theorem up_u32 (a k : Nat) (w : World) : (add33 (.int .u32 a) (.int .u32 k)).run Try.prog w = .ok (.int .u32 (up a k)) w := add_u32 (by unfold up; omega) w
theorem up_zero {a : Nat} (h : a < 4294967296) : up a 0 = a := by unfold up; omega
theorem up_lt (a k : Nat) : up a k < 4294967296 := Nat.mod_lt _ (by decide)
theorem wideB_u32 {x : Nat} (h : x < 4294967296) (w : World) : (wideB (.int .u8 x)).run Try.prog w = .ok (.int .u32 x) w := by
  have e : IntKind.u32.wrap (x : Int) = x := by rw [IntKind.wrap_u32]; omega
  unfold wideB
  simp [go_sem, e]
theorem or_u32 {x y z : Nat} (hx : x < 4294967296) (hy : y < 4294967296) (h : x ||| y = z) (w : World) : (or33 (.int .u32 x) (.int .u32 y)).run Try.prog w = .ok (.int .u32 z) w := by
  have e := CodeLaw.u32_or x y hx hy
  unfold or33
  simp [go_sem, e, h]
theorem shl_u32 {x y k z : Nat} (hy : y < 32) (h : ((x : Int) * 2 ^ y) % 4294967296 = z) (w : World) : (shl33 (.int .u32 x) (.int .u32 y)).run Try.prog w = .ok (.int .u32 z) w := by
  unfold shl33
  simp [go_sem, IntKind.wrap, IntKind.bits, IntKind.signed]
  exact h
theorem shr_u32 {x y k z : Nat} (hy : y < 32) (h : x / 2 ^ y = z) (w : World) : (shr33 (.int .u32 x) (.int .u32 y)).run Try.prog w = .ok (.int .u32 z) w := by
  unfold shr33
  simp [go_sem]
  rw [← h]
  norm_cast
theorem narrow_u8 {x z : Nat} (h : x % 256 = z) (w : World) : (narrow (.int .u32 x)).run Try.prog w = .ok (.int .u8 z) w := by
  have e : IntKind.u8.wrap (x : Int) = z := by simp [IntKind.wrap, IntKind.bits, IntKind.signed]; omega
  unfold narrow
  simp [go_sem, e]
theorem v_ok {x : Nat} (hx : x < 256) (w : World) : (wideB (.int .u8 x)).run Try.prog w = .ok (.int .u32 x) w := wideB_u32 (by omega) w
theorem s_ok {x : Nat} (y z k : Nat) (hx : x < 256) (hy : y ≤ 24) (hk : 2 ^ y = k) (hz : x * k = z) (w : World) : (shl33 (.int .u32 x) (.int .u32 y)).run Try.prog w = .ok (.int .u32 z) w := by
  refine shl_u32 (k := 0) (by omega) ?_ w
  have : x * 2 ^ y < 256 * 2 ^ 24 := Nat.mul_lt_mul_of_lt_of_le hx (Nat.pow_le_pow_right (by decide) hy) (by decide)
  have e : ((x : Int) * 2 ^ y) = ((x * 2 ^ y : Nat) : Int) := by norm_cast
  rw [e]
  rw [hk] at *
  rw [hz] at *
  omega
theorem t0_ok {x0 : Nat} (h0 : x0 < 256) (w : World) : (or33 (.int .u32 0) (.int .u32 x0)).run Try.prog w = .ok (.int .u32 x0) w := or_u32 (x := 0) (y := x0) (z := x0) (by omega) (by omega) (by simp) w
theorem t1_ok {x0 x1 : Nat} (h0 : x0 < 256) (h1 : x1 < 256) (w : World) : (or33 (.int .u32 x0) (.int .u32 ((x1 * 256 : Nat) : Int))).run Try.prog w = .ok (.int .u32 ((x0 + x1 * 256 : Nat) : Int)) w :=
  or_u32 (x := x0) (y := x1 * 256) (z := x0 + x1 * 256) (by omega) (by omega) (by rw [Nat.or_comm, CodeLaw.or_add _ _ 8 (by omega) ⟨x1, by omega⟩]; omega) w
theorem t2_ok {x0 x1 x2 : Nat} (h0 : x0 < 256) (h1 : x1 < 256) (h2 : x2 < 256) (w : World) : (or33 (.int .u32 ((x0 + x1 * 256 : Nat) : Int)) (.int .u32 ((x2 * 65536 : Nat) : Int))).run Try.prog w = .ok (.int .u32 ((x0 + x1 * 256 + x2 * 65536 : Nat) : Int)) w :=
  or_u32 (x := x0 + x1 * 256) (y := x2 * 65536) (z := x0 + x1 * 256 + x2 * 65536) (by omega) (by omega) (by rw [Nat.or_comm, CodeLaw.or_add _ _ 16 (by omega) ⟨x2, by omega⟩]; omega) w
theorem t3_ok {x0 x1 x2 x3 : Nat} (h0 : x0 < 256) (h1 : x1 < 256) (h2 : x2 < 256) (h3 : x3 < 256) (w : World) : (or33 (.int .u32 ((x0 + x1 * 256 + x2 * 65536 : Nat) : Int)) (.int .u32 ((x3 * 16777216 : Nat) : Int))).run Try.prog w = .ok (.int .u32 ((x0 + x1 * 256 + x2 * 65536 + x3 * 16777216 : Nat) : Int)) w :=
  or_u32 (x := x0 + x1 * 256 + x2 * 65536) (y := x3 * 16777216) (z := x0 + x1 * 256 + x2 * 65536 + x3 * 16777216) (by omega) (by omega) (by rw [Nat.or_comm, CodeLaw.or_add _ _ 24 (by omega) ⟨x3, by omega⟩]; omega) w
section
variable {w : World} {b a a1 a2 a3 x0 x1 x2 x3 : Nat} {want : Int}
abbrev Dk (a k : Nat) (a1 : Nat) : Prop := ∀ w, (add33 (.int .u32 a) (.int .u32 k)).run Try.prog w = .ok (.int .u32 a1) w
abbrev LoadYes (w : World) (b a : Nat) (want : Int) (x : Nat) : Prop := ∀ o, Calls Try.prog 62 #[.pointer (some ⟨b, 0, none⟩), .int .u32 a, .int .i64 want] (w.alloc o) fun e w' => e = .returned (.tuple #[.int .u8 x, .int .i64 0]) ∧ w' = w.alloc o
abbrev LoadNo (w : World) (b a : Nat) (want : Int) : Prop := ∀ o, Calls Try.prog 62 #[.pointer (some ⟨b, 0, none⟩), .int .u32 a, .int .i64 want] (w.alloc o) fun e w' => e = .returned (.tuple #[.int .u8 0, .int .i64 11]) ∧ w' = w.alloc o
abbrev Fetched (w : World) (b a : Nat) (want : Int) (r : Nat × Int × Nat) : Prop := Calls Try.prog 38 #[bus b, .int .u32 a, .int .i64 want] w fun e w' => e = .returned (.tuple #[.int .u32 r.1, trap r.2.1 r.2.2]) ∧ Below w.heap.size w w'
theorem glue4 (h4 : ((a : Int) % 4 != 0) = false) (d0 : Dk a 0 a) (d1 : Dk a 1 a1) (d2 : Dk a 2 a2) (d3 : Dk a 3 a3) (h0 : x0 < 256) (h1 : x1 < 256) (h2 : x2 < 256) (h3 : x3 < 256) (H0 : LoadYes w b a want x0) (H1 : LoadYes w b a1 want x1) (H2 : LoadYes w b a2 want x2) (H3 : LoadYes w b a3 want x3) : Fetched w b a want (x0 + x1 * 256 + x2 * 65536 + x3 * 16777216, 0, 0) :=
  fetch_walk h4 d0 (v_ok h0) (s_ok 0 x0 1 h0 (by decide) rfl (by omega)) (t0_ok h0) H0 d1 (v_ok h1) (s_ok 8 _ 256 h1 (by decide) rfl rfl) (t1_ok h0 h1) H1 d2 (v_ok h2) (s_ok 16 _ 65536 h2 (by decide) rfl rfl) (t2_ok h0 h1 h2) H2 d3 (v_ok h3) (s_ok 24 _ 16777216 h3 (by decide) rfl rfl) (t3_ok h0 h1 h2 h3) H3
theorem glue3 (h4 : ((a : Int) % 4 != 0) = false) (d0 : Dk a 0 a) (d1 : Dk a 1 a1) (d2 : Dk a 2 a2) (d3 : Dk a 3 a3) (h0 : x0 < 256) (h1 : x1 < 256) (h2 : x2 < 256) (H0 : LoadYes w b a want x0) (H1 : LoadYes w b a1 want x1) (H2 : LoadYes w b a2 want x2) (H3 : LoadNo w b a3 want) : Fetched w b a want (0, 2, a3) :=
  fetch_no3 h4 d0 (v_ok h0) (s_ok 0 x0 1 h0 (by decide) rfl (by omega)) (t0_ok h0) H0 d1 (v_ok h1) (s_ok 8 _ 256 h1 (by decide) rfl rfl) (t1_ok h0 h1) H1 d2 (v_ok h2) (s_ok 16 _ 65536 h2 (by decide) rfl rfl) (t2_ok h0 h1 h2) H2 d3 H3
theorem glue2 (h4 : ((a : Int) % 4 != 0) = false) (d0 : Dk a 0 a) (d1 : Dk a 1 a1) (d2 : Dk a 2 a2) (h0 : x0 < 256) (h1 : x1 < 256) (H0 : LoadYes w b a want x0) (H1 : LoadYes w b a1 want x1) (H2 : LoadNo w b a2 want) : Fetched w b a want (0, 2, a2) :=
  fetch_no2 h4 d0 (v_ok h0) (s_ok 0 x0 1 h0 (by decide) rfl (by omega)) (t0_ok h0) H0 d1 (v_ok h1) (s_ok 8 _ 256 h1 (by decide) rfl rfl) (t1_ok h0 h1) H1 d2 H2
theorem glue1 (h4 : ((a : Int) % 4 != 0) = false) (d0 : Dk a 0 a) (d1 : Dk a 1 a1) (h0 : x0 < 256) (H0 : LoadYes w b a want x0) (H1 : LoadNo w b a1 want) : Fetched w b a want (0, 2, a1) :=
  fetch_no1 h4 d0 (v_ok h0) (s_ok 0 x0 1 h0 (by decide) rfl (by omega)) (t0_ok h0) H0 d1 H1
end
theorem fetch_any {w : World} {b a a1 a2 a3 x0 x1 x2 x3 : Nat} {want : Int} {p0 p1 p2 p3 : Prop} [Decidable p0] [Decidable p1] [Decidable p2] [Decidable p3] (h4 : ((a : Int) % 4 != 0) = false) (d0 : Dk a 0 a) (d1 : Dk a 1 a1) (d2 : Dk a 2 a2) (d3 : Dk a 3 a3)
    (h0 : x0 < 256) (h1 : x1 < 256) (h2 : x2 < 256) (h3 : x3 < 256) (Y0 : p0 → LoadYes w b a want x0) (N0 : ¬ p0 → LoadNo w b a want) (Y1 : p1 → LoadYes w b a1 want x1) (N1 : ¬ p1 → LoadNo w b a1 want) (Y2 : p2 → LoadYes w b a2 want x2) (N2 : ¬ p2 → LoadNo w b a2 want) (Y3 : p3 → LoadYes w b a3 want x3) (N3 : ¬ p3 → LoadNo w b a3 want) :
    Fetched w b a want (first4 p0 p1 p2 p3 (0, 2, a) (0, 2, a1) (0, 2, a2) (0, 2, a3) (x0 + x1 * 256 + x2 * 65536 + x3 * 16777216, 0, 0)) := by
  unfold first4
  by_cases c0 : p0
  · rw [if_pos c0]
    by_cases c1 : p1
    · rw [if_pos c1]
      by_cases c2 : p2
      · rw [if_pos c2]
        by_cases c3 : p3
        · rw [if_pos c3]
          exact glue4 h4 d0 d1 d2 d3 h0 h1 h2 h3 (Y0 c0) (Y1 c1) (Y2 c2) (Y3 c3)
        · rw [if_neg c3]
          exact glue3 h4 d0 d1 d2 d3 h0 h1 h2 (Y0 c0) (Y1 c1) (Y2 c2) (N3 c3)
      · rw [if_neg c2]
        exact glue2 h4 d0 d1 d2 h0 h1 (Y0 c0) (Y1 c1) (N2 c2)
    · rw [if_neg c1]
      exact glue1 h4 d0 d1 h0 (Y0 c0) (N1 c1)
  · rw [if_neg c0]
    exact fetch_no0 h4 d0 (N0 c0)
theorem dk_zero {a : Nat} (ha : a < 4294967296) : Dk a 0 a := fun w => add_u32 (by omega) w
theorem rem4 {a : Nat} (h : a % 4 = 0) : ((a : Int) % 4 != 0) = false := by simp; omega
theorem rem4' {a : Nat} (h : ¬ a % 4 = 0) : ((a : Int) % 4 != 0) = true := by simp; omega
theorem Room.yes {w : World} {b c : Nat} {m : M} (h : Room w b c m) (want : Int) (a : Nat) (hc : can m a want) : LoadYes w b a want (byteAt m a) := fun o => load_yes (h.keep ((Below.refl _ _).alloc (Nat.le_refl _) o)) hc
theorem Room.no {w : World} {b c : Nat} {m : M} (h : Room w b c m) (want : Int) (a : Nat) (hc : ¬ can m a want) : LoadNo w b a want := fun o => load_no (h.keep ((Below.refl _ _).alloc (Nat.le_refl _) o)) hc
theorem Room.byte {w : World} {b c : Nat} {m : M} (h : Room w b c m) (a : Nat) : byteAt m a < 256 := h.fl _
theorem fetch_is {w : World} {b c a : Nat} {m : M} {want : Int} (h : Room w b c m) (ha : a < 4294967296) : Fetched w b a want (fetchF m a want) := by
  unfold fetchF
  by_cases h4 : a % 4 = 0
  · rw [if_pos h4]
    exact fetch_any (rem4 h4) (dk_zero ha) (up_u32 a 1) (up_u32 a 2) (up_u32 a 3) (h.byte a) (h.byte (up a 1)) (h.byte (up a 2)) (h.byte (up a 3)) (h.yes want a) (h.no want a) (h.yes want (up a 1)) (h.no want (up a 1)) (h.yes want (up a 2)) (h.no want (up a 2)) (h.yes want (up a 3)) (h.no want (up a 3))
  · rw [if_neg h4]
    exact fetch_bad (rem4' h4)
end Go.Proofs.Ytopadiofanaaiaa.CpuLaw
