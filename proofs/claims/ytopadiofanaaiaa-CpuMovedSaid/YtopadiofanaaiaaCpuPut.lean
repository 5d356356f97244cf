/- The walk of cpu.put: a word of four bytes, or a fault. -/
import Derived.Test.YtopadiofanaaiaaCpuFetch
namespace Go.Proofs.Ytopadiofanaaiaa.CpuLaw
open Go.RowKit
set_option linter.unusedVariables false
set_option linter.unusedSimpArgs false
def shr33 (x y : Value) : Sem Value := binOp .shr 33 x y
def narrow (x : Value) : Sem Value := convert 33 5 x
theorem shr33_eq (x y : Value) : binOp .shr 33 x y = shr33 x y := rfl
theorem narrow_eq (x : Value) : convert 33 5 x = narrow x := rfl
attribute [local go_sem ↓] sub33_eq add33_eq wide_eq wideN_eq or33_eq shl33_eq wideB_eq shr33_eq narrow_eq
theorem meth_store (b : Nat) (w : World) : (method 216 66 (.pointer (some ⟨b, 0, none⟩)) "Store").run Try.prog w = .ok (63, .pointer (some ⟨b, 0, none⟩)) w := by kernel_rfl
/-- the trap's cells, new and not frozen -/
structure Slot (n : Nat) (k : Int) (a : Nat) (w : World) : Prop where
  lt : n < w.heap.size
  c0 : w.cell? ⟨n, 0, none⟩ = some (.int .i64 k)
  c1 : w.cell? ⟨n, 1, none⟩ = some (.int .u32 a)
  fz : ∀ i, w.frozen? ⟨n, i, none⟩ = false
set_option maxRecDepth 100000 in
set_option maxHeartbeats 1000000 in
theorem put_no0 {w : World} {b a x y0 z0 : Nat} {P : Nat → World → Prop} (h4 : ((a : Int) % 4 != 0) = false) (hP0 : P 0 (w.alloc (.cells #[.int .i64 0, .int .u32 0] 63))) (hP : ∀ j w1, P j w1 → Slot w.heap.size 0 0 w1)
    (d0 : ∀ w, (add33 (.int .u32 a) (.int .u32 0)).run Try.prog w = .ok (.int .u32 a) w) (s0 : ∀ w, (shr33 (.int .u32 x) (.int .u32 0)).run Try.prog w = .ok (.int .u32 y0) w) (v0 : ∀ w, (narrow (.int .u32 y0)).run Try.prog w = .ok (.int .u8 z0) w)
    (H0 : ∀ w1, P 0 w1 → Calls Try.prog 63 #[.pointer (some ⟨b, 0, none⟩), .int .u32 a, .int .u8 z0] w1 fun e w' => e = .returned (.int .i64 11) ∧ w' = w1)
    : Calls Try.prog 46 #[bus b, .int .u32 a, .int .u32 x] w fun e w' => e = .returned (trap 2 a) ∧ ∃ w1, P 0 w1 ∧ w' = (w1.setCell ⟨w.heap.size, 0, none⟩ (.int .i64 2)).setCell ⟨w.heap.size, 1, none⟩ (.int .u32 a) := by
  have hm := meth_store b
  have G0 := Lib.hid H0
  have GP := Lib.hid hP0
  have hQ := Lib.hid hP
  clear hP hP0 H0
  go_enter Try.func46, Try.ntmps46
  go_wp2_with fail
  refine wp_loop_rounds 5 ?_
  rw [rounds_succ]
  go_wp2_with fail
  refine (G0.out _ GP.out).mono ?_
  rintro e w' ⟨rfl, rfl⟩
  go_wp2_with fail
  exact bodyPost_ret (v := trap 2 a) (by simp [results, Try.results46, go_sem]) rfl ⟨rfl, _, GP.out, by simp [go_sem]⟩
set_option maxRecDepth 100000 in
set_option maxHeartbeats 1000000 in
theorem put_no1 {w : World} {b a a1 x y0 y1 z0 z1 : Nat} {P : Nat → World → Prop} (h4 : ((a : Int) % 4 != 0) = false) (hP0 : P 0 (w.alloc (.cells #[.int .i64 0, .int .u32 0] 63))) (hP : ∀ j w1, P j w1 → Slot w.heap.size 0 0 w1)
    (d0 : ∀ w, (add33 (.int .u32 a) (.int .u32 0)).run Try.prog w = .ok (.int .u32 a) w) (s0 : ∀ w, (shr33 (.int .u32 x) (.int .u32 0)).run Try.prog w = .ok (.int .u32 y0) w) (v0 : ∀ w, (narrow (.int .u32 y0)).run Try.prog w = .ok (.int .u8 z0) w)
    (H0 : ∀ w1, P 0 w1 → Calls Try.prog 63 #[.pointer (some ⟨b, 0, none⟩), .int .u32 a, .int .u8 z0] w1 fun e w' => e = .returned (.int .i64 0) ∧ P 1 w')
    (d1 : ∀ w, (add33 (.int .u32 a) (.int .u32 1)).run Try.prog w = .ok (.int .u32 a1) w) (s1 : ∀ w, (shr33 (.int .u32 x) (.int .u32 8)).run Try.prog w = .ok (.int .u32 y1) w) (v1 : ∀ w, (narrow (.int .u32 y1)).run Try.prog w = .ok (.int .u8 z1) w)
    (H1 : ∀ w1, P 1 w1 → Calls Try.prog 63 #[.pointer (some ⟨b, 0, none⟩), .int .u32 a1, .int .u8 z1] w1 fun e w' => e = .returned (.int .i64 11) ∧ w' = w1)
    : Calls Try.prog 46 #[bus b, .int .u32 a, .int .u32 x] w fun e w' => e = .returned (trap 2 a1) ∧ ∃ w1, P 1 w1 ∧ w' = (w1.setCell ⟨w.heap.size, 0, none⟩ (.int .i64 2)).setCell ⟨w.heap.size, 1, none⟩ (.int .u32 a1) := by
  have hm := meth_store b
  have g0 : ∀ w, (add33 (.int .u32 0) (.int .u32 1)).run Try.prog w = .ok (.int .u32 1) w := step_u32 0 1 rfl (by decide)
  have G0 := Lib.hid H0
  have G1 := Lib.hid H1
  have GP := Lib.hid hP0
  have hQ := Lib.hid hP
  clear hP hP0 H0 H1
  go_enter Try.func46, Try.ntmps46
  go_wp2_with fail
  refine wp_loop_rounds 5 ?_
  rw [rounds_succ]
  go_wp2_with fail
  refine (G0.out _ GP.out).mono ?_
  rintro e w0 ⟨rfl, p0'⟩
  have p0 := Lib.hid p0'
  clear p0'
  go_wp2_with fail
  rw [rounds_succ]
  go_wp2_with fail
  refine (G1.out _ p0.out).mono ?_
  rintro e w' ⟨rfl, rfl⟩
  have q := hQ.out _ _ p0.out
  have q0 := q.c0
  have q1 := q.c1
  have qf := q.fz
  clear q
  go_wp2_with fail
  exact bodyPost_ret (v := trap 2 a1) (by simp [results, Try.results46, go_sem, q0, q1, qf]) rfl ⟨rfl, _, p0.out, rfl⟩
set_option maxRecDepth 100000 in
set_option maxHeartbeats 1000000 in
theorem put_no2 {w : World} {b a a1 a2 x y0 y1 y2 z0 z1 z2 : Nat} {P : Nat → World → Prop} (h4 : ((a : Int) % 4 != 0) = false) (hP0 : P 0 (w.alloc (.cells #[.int .i64 0, .int .u32 0] 63))) (hP : ∀ j w1, P j w1 → Slot w.heap.size 0 0 w1)
    (d0 : ∀ w, (add33 (.int .u32 a) (.int .u32 0)).run Try.prog w = .ok (.int .u32 a) w) (s0 : ∀ w, (shr33 (.int .u32 x) (.int .u32 0)).run Try.prog w = .ok (.int .u32 y0) w) (v0 : ∀ w, (narrow (.int .u32 y0)).run Try.prog w = .ok (.int .u8 z0) w)
    (H0 : ∀ w1, P 0 w1 → Calls Try.prog 63 #[.pointer (some ⟨b, 0, none⟩), .int .u32 a, .int .u8 z0] w1 fun e w' => e = .returned (.int .i64 0) ∧ P 1 w')
    (d1 : ∀ w, (add33 (.int .u32 a) (.int .u32 1)).run Try.prog w = .ok (.int .u32 a1) w) (s1 : ∀ w, (shr33 (.int .u32 x) (.int .u32 8)).run Try.prog w = .ok (.int .u32 y1) w) (v1 : ∀ w, (narrow (.int .u32 y1)).run Try.prog w = .ok (.int .u8 z1) w)
    (H1 : ∀ w1, P 1 w1 → Calls Try.prog 63 #[.pointer (some ⟨b, 0, none⟩), .int .u32 a1, .int .u8 z1] w1 fun e w' => e = .returned (.int .i64 0) ∧ P 2 w')
    (d2 : ∀ w, (add33 (.int .u32 a) (.int .u32 2)).run Try.prog w = .ok (.int .u32 a2) w) (s2 : ∀ w, (shr33 (.int .u32 x) (.int .u32 16)).run Try.prog w = .ok (.int .u32 y2) w) (v2 : ∀ w, (narrow (.int .u32 y2)).run Try.prog w = .ok (.int .u8 z2) w)
    (H2 : ∀ w1, P 2 w1 → Calls Try.prog 63 #[.pointer (some ⟨b, 0, none⟩), .int .u32 a2, .int .u8 z2] w1 fun e w' => e = .returned (.int .i64 11) ∧ w' = w1)
    : Calls Try.prog 46 #[bus b, .int .u32 a, .int .u32 x] w fun e w' => e = .returned (trap 2 a2) ∧ ∃ w1, P 2 w1 ∧ w' = (w1.setCell ⟨w.heap.size, 0, none⟩ (.int .i64 2)).setCell ⟨w.heap.size, 1, none⟩ (.int .u32 a2) := by
  have hm := meth_store b
  have g0 : ∀ w, (add33 (.int .u32 0) (.int .u32 1)).run Try.prog w = .ok (.int .u32 1) w := step_u32 0 1 rfl (by decide)
  have g1 : ∀ w, (add33 (.int .u32 1) (.int .u32 1)).run Try.prog w = .ok (.int .u32 2) w := step_u32 1 2 rfl (by decide)
  have G0 := Lib.hid H0
  have G1 := Lib.hid H1
  have G2 := Lib.hid H2
  have GP := Lib.hid hP0
  have hQ := Lib.hid hP
  clear hP hP0 H0 H1 H2
  go_enter Try.func46, Try.ntmps46
  go_wp2_with fail
  refine wp_loop_rounds 5 ?_
  rw [rounds_succ]
  go_wp2_with fail
  refine (G0.out _ GP.out).mono ?_
  rintro e w0 ⟨rfl, p0'⟩
  have p0 := Lib.hid p0'
  clear p0'
  go_wp2_with fail
  rw [rounds_succ]
  go_wp2_with fail
  refine (G1.out _ p0.out).mono ?_
  rintro e w1 ⟨rfl, p1'⟩
  have p1 := Lib.hid p1'
  clear p1'
  go_wp2_with fail
  rw [rounds_succ]
  go_wp2_with fail
  refine (G2.out _ p1.out).mono ?_
  rintro e w' ⟨rfl, rfl⟩
  have q := hQ.out _ _ p1.out
  have q0 := q.c0
  have q1 := q.c1
  have qf := q.fz
  clear q
  go_wp2_with fail
  exact bodyPost_ret (v := trap 2 a2) (by simp [results, Try.results46, go_sem, q0, q1, qf]) rfl ⟨rfl, _, p1.out, rfl⟩
set_option maxRecDepth 100000 in
set_option maxHeartbeats 1000000 in
theorem put_no3 {w : World} {b a a1 a2 a3 x y0 y1 y2 y3 z0 z1 z2 z3 : Nat} {P : Nat → World → Prop} (h4 : ((a : Int) % 4 != 0) = false) (hP0 : P 0 (w.alloc (.cells #[.int .i64 0, .int .u32 0] 63))) (hP : ∀ j w1, P j w1 → Slot w.heap.size 0 0 w1)
    (d0 : ∀ w, (add33 (.int .u32 a) (.int .u32 0)).run Try.prog w = .ok (.int .u32 a) w) (s0 : ∀ w, (shr33 (.int .u32 x) (.int .u32 0)).run Try.prog w = .ok (.int .u32 y0) w) (v0 : ∀ w, (narrow (.int .u32 y0)).run Try.prog w = .ok (.int .u8 z0) w)
    (H0 : ∀ w1, P 0 w1 → Calls Try.prog 63 #[.pointer (some ⟨b, 0, none⟩), .int .u32 a, .int .u8 z0] w1 fun e w' => e = .returned (.int .i64 0) ∧ P 1 w')
    (d1 : ∀ w, (add33 (.int .u32 a) (.int .u32 1)).run Try.prog w = .ok (.int .u32 a1) w) (s1 : ∀ w, (shr33 (.int .u32 x) (.int .u32 8)).run Try.prog w = .ok (.int .u32 y1) w) (v1 : ∀ w, (narrow (.int .u32 y1)).run Try.prog w = .ok (.int .u8 z1) w)
    (H1 : ∀ w1, P 1 w1 → Calls Try.prog 63 #[.pointer (some ⟨b, 0, none⟩), .int .u32 a1, .int .u8 z1] w1 fun e w' => e = .returned (.int .i64 0) ∧ P 2 w')
    (d2 : ∀ w, (add33 (.int .u32 a) (.int .u32 2)).run Try.prog w = .ok (.int .u32 a2) w) (s2 : ∀ w, (shr33 (.int .u32 x) (.int .u32 16)).run Try.prog w = .ok (.int .u32 y2) w) (v2 : ∀ w, (narrow (.int .u32 y2)).run Try.prog w = .ok (.int .u8 z2) w)
    (H2 : ∀ w1, P 2 w1 → Calls Try.prog 63 #[.pointer (some ⟨b, 0, none⟩), .int .u32 a2, .int .u8 z2] w1 fun e w' => e = .returned (.int .i64 0) ∧ P 3 w')
    (d3 : ∀ w, (add33 (.int .u32 a) (.int .u32 3)).run Try.prog w = .ok (.int .u32 a3) w) (s3 : ∀ w, (shr33 (.int .u32 x) (.int .u32 24)).run Try.prog w = .ok (.int .u32 y3) w) (v3 : ∀ w, (narrow (.int .u32 y3)).run Try.prog w = .ok (.int .u8 z3) w)
    (H3 : ∀ w1, P 3 w1 → Calls Try.prog 63 #[.pointer (some ⟨b, 0, none⟩), .int .u32 a3, .int .u8 z3] w1 fun e w' => e = .returned (.int .i64 11) ∧ w' = w1)
    : Calls Try.prog 46 #[bus b, .int .u32 a, .int .u32 x] w fun e w' => e = .returned (trap 2 a3) ∧ ∃ w1, P 3 w1 ∧ w' = (w1.setCell ⟨w.heap.size, 0, none⟩ (.int .i64 2)).setCell ⟨w.heap.size, 1, none⟩ (.int .u32 a3) := by
  have hm := meth_store b
  have g0 : ∀ w, (add33 (.int .u32 0) (.int .u32 1)).run Try.prog w = .ok (.int .u32 1) w := step_u32 0 1 rfl (by decide)
  have g1 : ∀ w, (add33 (.int .u32 1) (.int .u32 1)).run Try.prog w = .ok (.int .u32 2) w := step_u32 1 2 rfl (by decide)
  have g2 : ∀ w, (add33 (.int .u32 2) (.int .u32 1)).run Try.prog w = .ok (.int .u32 3) w := step_u32 2 3 rfl (by decide)
  have G0 := Lib.hid H0
  have G1 := Lib.hid H1
  have G2 := Lib.hid H2
  have G3 := Lib.hid H3
  have GP := Lib.hid hP0
  have hQ := Lib.hid hP
  clear hP hP0 H0 H1 H2 H3
  go_enter Try.func46, Try.ntmps46
  go_wp2_with fail
  refine wp_loop_rounds 5 ?_
  rw [rounds_succ]
  go_wp2_with fail
  refine (G0.out _ GP.out).mono ?_
  rintro e w0 ⟨rfl, p0'⟩
  have p0 := Lib.hid p0'
  clear p0'
  go_wp2_with fail
  rw [rounds_succ]
  go_wp2_with fail
  refine (G1.out _ p0.out).mono ?_
  rintro e w1 ⟨rfl, p1'⟩
  have p1 := Lib.hid p1'
  clear p1'
  go_wp2_with fail
  rw [rounds_succ]
  go_wp2_with fail
  refine (G2.out _ p1.out).mono ?_
  rintro e w2 ⟨rfl, p2'⟩
  have p2 := Lib.hid p2'
  clear p2'
  go_wp2_with fail
  rw [rounds_succ]
  go_wp2_with fail
  refine (G3.out _ p2.out).mono ?_
  rintro e w' ⟨rfl, rfl⟩
  have q := hQ.out _ _ p2.out
  have q0 := q.c0
  have q1 := q.c1
  have qf := q.fz
  clear q
  go_wp2_with fail
  exact bodyPost_ret (v := trap 2 a3) (by simp [results, Try.results46, go_sem, q0, q1, qf]) rfl ⟨rfl, _, p2.out, rfl⟩
set_option maxRecDepth 100000 in
set_option maxHeartbeats 1000000 in
theorem put_walk {w : World} {b a a1 a2 a3 x y0 y1 y2 y3 z0 z1 z2 z3 : Nat} {P : Nat → World → Prop} (h4 : ((a : Int) % 4 != 0) = false) (hP0 : P 0 (w.alloc (.cells #[.int .i64 0, .int .u32 0] 63))) (hP : ∀ j w1, P j w1 → Slot w.heap.size 0 0 w1)
    (d0 : ∀ w, (add33 (.int .u32 a) (.int .u32 0)).run Try.prog w = .ok (.int .u32 a) w) (s0 : ∀ w, (shr33 (.int .u32 x) (.int .u32 0)).run Try.prog w = .ok (.int .u32 y0) w) (v0 : ∀ w, (narrow (.int .u32 y0)).run Try.prog w = .ok (.int .u8 z0) w)
    (H0 : ∀ w1, P 0 w1 → Calls Try.prog 63 #[.pointer (some ⟨b, 0, none⟩), .int .u32 a, .int .u8 z0] w1 fun e w' => e = .returned (.int .i64 0) ∧ P 1 w')
    (d1 : ∀ w, (add33 (.int .u32 a) (.int .u32 1)).run Try.prog w = .ok (.int .u32 a1) w) (s1 : ∀ w, (shr33 (.int .u32 x) (.int .u32 8)).run Try.prog w = .ok (.int .u32 y1) w) (v1 : ∀ w, (narrow (.int .u32 y1)).run Try.prog w = .ok (.int .u8 z1) w)
    (H1 : ∀ w1, P 1 w1 → Calls Try.prog 63 #[.pointer (some ⟨b, 0, none⟩), .int .u32 a1, .int .u8 z1] w1 fun e w' => e = .returned (.int .i64 0) ∧ P 2 w')
    (d2 : ∀ w, (add33 (.int .u32 a) (.int .u32 2)).run Try.prog w = .ok (.int .u32 a2) w) (s2 : ∀ w, (shr33 (.int .u32 x) (.int .u32 16)).run Try.prog w = .ok (.int .u32 y2) w) (v2 : ∀ w, (narrow (.int .u32 y2)).run Try.prog w = .ok (.int .u8 z2) w)
    (H2 : ∀ w1, P 2 w1 → Calls Try.prog 63 #[.pointer (some ⟨b, 0, none⟩), .int .u32 a2, .int .u8 z2] w1 fun e w' => e = .returned (.int .i64 0) ∧ P 3 w')
    (d3 : ∀ w, (add33 (.int .u32 a) (.int .u32 3)).run Try.prog w = .ok (.int .u32 a3) w) (s3 : ∀ w, (shr33 (.int .u32 x) (.int .u32 24)).run Try.prog w = .ok (.int .u32 y3) w) (v3 : ∀ w, (narrow (.int .u32 y3)).run Try.prog w = .ok (.int .u8 z3) w)
    (H3 : ∀ w1, P 3 w1 → Calls Try.prog 63 #[.pointer (some ⟨b, 0, none⟩), .int .u32 a3, .int .u8 z3] w1 fun e w' => e = .returned (.int .i64 0) ∧ P 4 w')
    : Calls Try.prog 46 #[bus b, .int .u32 a, .int .u32 x] w fun e w' => e = .returned (trap 0 0) ∧ ∃ w1, P 4 w1 ∧ w' = (w1.setCell ⟨w.heap.size, 0, none⟩ (.int .i64 0)).setCell ⟨w.heap.size, 1, none⟩ (.int .u32 0) := by
  have hm := meth_store b
  have g0 : ∀ w, (add33 (.int .u32 0) (.int .u32 1)).run Try.prog w = .ok (.int .u32 1) w := step_u32 0 1 rfl (by decide)
  have g1 : ∀ w, (add33 (.int .u32 1) (.int .u32 1)).run Try.prog w = .ok (.int .u32 2) w := step_u32 1 2 rfl (by decide)
  have g2 : ∀ w, (add33 (.int .u32 2) (.int .u32 1)).run Try.prog w = .ok (.int .u32 3) w := step_u32 2 3 rfl (by decide)
  have g3 : ∀ w, (add33 (.int .u32 3) (.int .u32 1)).run Try.prog w = .ok (.int .u32 4) w := step_u32 3 4 rfl (by decide)
  have G0 := Lib.hid H0
  have G1 := Lib.hid H1
  have G2 := Lib.hid H2
  have G3 := Lib.hid H3
  have GP := Lib.hid hP0
  have hQ := Lib.hid hP
  clear hP hP0 H0 H1 H2 H3
  go_enter Try.func46, Try.ntmps46
  go_wp2_with fail
  refine wp_loop_rounds 5 ?_
  rw [rounds_succ]
  go_wp2_with fail
  refine (G0.out _ GP.out).mono ?_
  rintro e w0 ⟨rfl, p0'⟩
  have p0 := Lib.hid p0'
  clear p0'
  go_wp2_with fail
  rw [rounds_succ]
  go_wp2_with fail
  refine (G1.out _ p0.out).mono ?_
  rintro e w1 ⟨rfl, p1'⟩
  have p1 := Lib.hid p1'
  clear p1'
  go_wp2_with fail
  rw [rounds_succ]
  go_wp2_with fail
  refine (G2.out _ p1.out).mono ?_
  rintro e w2 ⟨rfl, p2'⟩
  have p2 := Lib.hid p2'
  clear p2'
  go_wp2_with fail
  rw [rounds_succ]
  go_wp2_with fail
  refine (G3.out _ p2.out).mono ?_
  rintro e w3 ⟨rfl, p3'⟩
  have p3 := Lib.hid p3'
  clear p3'
  have q := hQ.out _ _ p3.out
  have q0 := q.c0
  have q1 := q.c1
  have qf := q.fz
  clear q
  go_wp2_with fail
  rw [rounds_succ]
  go_wp2_with fail
  exact bodyPost_ret (v := trap 0 0) (by simp [results, Try.results46, go_sem, q0, q1, qf]) rfl ⟨rfl, _, p3.out, rfl⟩
set_option maxRecDepth 100000 in
set_option maxHeartbeats 1000000 in
theorem put_bad {w : World} {b a x : Nat} (h4 : ((a : Int) % 4 != 0) = true) : Calls Try.prog 46 #[bus b, .int .u32 a, .int .u32 x] w fun e w' => e = .returned (trap 2 a) ∧ Below w.heap.size w w' := by
  go_enter Try.func46, Try.ntmps46
  go_wp2_with fail
  refine bodyPost_ret (v := trap 2 a) (by simp [results, Try.results46, go_sem]) rfl ⟨rfl, ?_⟩
  repeat (first | refine Below.setCell ?_ (by simp) _ | refine Below.drew ?_)
  exact (Below.refl _ _).alloc (Nat.le_refl _) _
end Go.Proofs.Ytopadiofanaaiaa.CpuLaw
