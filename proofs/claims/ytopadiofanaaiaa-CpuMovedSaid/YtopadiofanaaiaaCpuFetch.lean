/- The walk of cpu.fetch: a word of four bytes, or a fault. -/
import Derived.Test.YtopadiofanaaiaaCpuBusNo
import Derived.Test.YtopadiofanaaiaaCodeDec
import Derived.Laws.ResultCell
import Derived.RowKit2
namespace Go.Proofs.Ytopadiofanaaiaa.CpuLaw
open Go.RowKit
set_option linter.unusedVariables false
set_option linter.unusedSimpArgs false
def or33 (x y : Value) : Sem Value := binOp .or 33 x y
def shl33 (x y : Value) : Sem Value := binOp .shl 33 x y
def wideB (x : Value) : Sem Value := convert 5 33 x
theorem or33_eq (x y : Value) : binOp .or 33 x y = or33 x y := rfl
theorem shl33_eq (x y : Value) : binOp .shl 33 x y = shl33 x y := rfl
theorem wideB_eq (x : Value) : convert 5 33 x = wideB x := rfl
attribute [local go_sem ↓] sub33_eq add33_eq wide_eq wideN_eq or33_eq shl33_eq wideB_eq
abbrev bus (b : Nat) : Value := .iface 66 (.pointer (some ⟨b, 0, none⟩))
abbrev trap (k : Int) (a : Nat) : Value := .agg #[.int .i64 k, .int .u32 a]
theorem meth_load (b : Nat) (w : World) : (method 216 66 (.pointer (some ⟨b, 0, none⟩)) "Load").run Try.prog w = .ok (62, .pointer (some ⟨b, 0, none⟩)) w := by kernel_rfl
theorem step_u32 (i j : Nat) (h : i + 1 = j) (hj : j < 4294967296) (w : World) : (add33 (.int .u32 i) (.int .u32 1)).run Try.prog w = .ok (.int .u32 j) w := add_u32 (a := i) (b := 1) (k := j) (by omega) w
set_option maxRecDepth 100000 in
set_option maxHeartbeats 1000000 in
theorem fetch_no0 {w : World} {b a : Nat} {want : Int} (h4 : ((a : Int) % 4 != 0) = false)
    (d0 : ∀ w, (add33 (.int .u32 a) (.int .u32 0)).run Try.prog w = .ok (.int .u32 a) w)
    (H0 : ∀ o, Calls Try.prog 62 #[.pointer (some ⟨b, 0, none⟩), .int .u32 a, .int .i64 want] (w.alloc o) fun e w' => e = .returned (.tuple #[.int .u8 0, .int .i64 11]) ∧ w' = w.alloc o)
    : Calls Try.prog 38 #[bus b, .int .u32 a, .int .i64 want] w fun e w' => e = .returned (.tuple #[.int .u32 0, trap 2 a]) ∧ Below w.heap.size w w' := by
  have hm := meth_load b
  have G0 := Lib.hid H0
  clear H0
  go_enter Try.func38, Try.ntmps38
  go_wp2_with fail
  refine wp_loop_rounds 5 ?_
  rw [rounds_succ]
  go_wp2_with fail
  refine (G0.out _).mono ?_
  rintro e w' ⟨rfl, rfl⟩
  go_wp2_with fail
  refine bodyPost_ret (v := .tuple #[.int .u32 0, trap 2 a]) (by simp [results, Try.results38, go_sem]) rfl ⟨rfl, ?_⟩
  repeat (first | refine Below.setCell ?_ (by simp) _ | refine Below.drew ?_)
  exact (Below.refl _ _).alloc (Nat.le_refl _) _
set_option maxRecDepth 100000 in
set_option maxHeartbeats 1000000 in
theorem fetch_no1 {w : World} {b a a1 x0 y0 z0 : Nat} {want : Int} (h4 : ((a : Int) % 4 != 0) = false)
    (d0 : ∀ w, (add33 (.int .u32 a) (.int .u32 0)).run Try.prog w = .ok (.int .u32 a) w) (v0 : ∀ w, (wideB (.int .u8 x0)).run Try.prog w = .ok (.int .u32 x0) w) (s0 : ∀ w, (shl33 (.int .u32 x0) (.int .u32 0)).run Try.prog w = .ok (.int .u32 y0) w) (t0 : ∀ w, (or33 (.int .u32 0) (.int .u32 y0)).run Try.prog w = .ok (.int .u32 z0) w)
    (H0 : ∀ o, Calls Try.prog 62 #[.pointer (some ⟨b, 0, none⟩), .int .u32 a, .int .i64 want] (w.alloc o) fun e w' => e = .returned (.tuple #[.int .u8 x0, .int .i64 0]) ∧ w' = w.alloc o)
    (d1 : ∀ w, (add33 (.int .u32 a) (.int .u32 1)).run Try.prog w = .ok (.int .u32 a1) w)
    (H1 : ∀ o, Calls Try.prog 62 #[.pointer (some ⟨b, 0, none⟩), .int .u32 a1, .int .i64 want] (w.alloc o) fun e w' => e = .returned (.tuple #[.int .u8 0, .int .i64 11]) ∧ w' = w.alloc o)
    : Calls Try.prog 38 #[bus b, .int .u32 a, .int .i64 want] w fun e w' => e = .returned (.tuple #[.int .u32 0, trap 2 a1]) ∧ Below w.heap.size w w' := by
  have hm := meth_load b
  have g0 : ∀ w, (add33 (.int .u32 0) (.int .u32 1)).run Try.prog w = .ok (.int .u32 1) w := step_u32 0 1 rfl (by decide)
  have G0 := Lib.hid H0
  have G1 := Lib.hid H1
  clear H0 H1
  go_enter Try.func38, Try.ntmps38
  go_wp2_with fail
  refine wp_loop_rounds 5 ?_
  rw [rounds_succ]
  go_wp2_with fail
  refine (G0.out _).mono ?_
  rintro e w' ⟨rfl, rfl⟩
  go_wp2_with fail
  rw [rounds_succ]
  go_wp2_with fail
  refine (G1.out _).mono ?_
  rintro e w' ⟨rfl, rfl⟩
  go_wp2_with fail
  refine bodyPost_ret (v := .tuple #[.int .u32 0, trap 2 a1]) (by simp [results, Try.results38, go_sem]) rfl ⟨rfl, ?_⟩
  repeat (first | refine Below.setCell ?_ (by simp) _ | refine Below.drew ?_)
  exact (Below.refl _ _).alloc (Nat.le_refl _) _
set_option maxRecDepth 100000 in
set_option maxHeartbeats 1000000 in
theorem fetch_no2 {w : World} {b a a1 a2 x0 x1 y0 y1 z0 z1 : Nat} {want : Int} (h4 : ((a : Int) % 4 != 0) = false)
    (d0 : ∀ w, (add33 (.int .u32 a) (.int .u32 0)).run Try.prog w = .ok (.int .u32 a) w) (v0 : ∀ w, (wideB (.int .u8 x0)).run Try.prog w = .ok (.int .u32 x0) w) (s0 : ∀ w, (shl33 (.int .u32 x0) (.int .u32 0)).run Try.prog w = .ok (.int .u32 y0) w) (t0 : ∀ w, (or33 (.int .u32 0) (.int .u32 y0)).run Try.prog w = .ok (.int .u32 z0) w)
    (H0 : ∀ o, Calls Try.prog 62 #[.pointer (some ⟨b, 0, none⟩), .int .u32 a, .int .i64 want] (w.alloc o) fun e w' => e = .returned (.tuple #[.int .u8 x0, .int .i64 0]) ∧ w' = w.alloc o)
    (d1 : ∀ w, (add33 (.int .u32 a) (.int .u32 1)).run Try.prog w = .ok (.int .u32 a1) w) (v1 : ∀ w, (wideB (.int .u8 x1)).run Try.prog w = .ok (.int .u32 x1) w) (s1 : ∀ w, (shl33 (.int .u32 x1) (.int .u32 8)).run Try.prog w = .ok (.int .u32 y1) w) (t1 : ∀ w, (or33 (.int .u32 z0) (.int .u32 y1)).run Try.prog w = .ok (.int .u32 z1) w)
    (H1 : ∀ o, Calls Try.prog 62 #[.pointer (some ⟨b, 0, none⟩), .int .u32 a1, .int .i64 want] (w.alloc o) fun e w' => e = .returned (.tuple #[.int .u8 x1, .int .i64 0]) ∧ w' = w.alloc o)
    (d2 : ∀ w, (add33 (.int .u32 a) (.int .u32 2)).run Try.prog w = .ok (.int .u32 a2) w)
    (H2 : ∀ o, Calls Try.prog 62 #[.pointer (some ⟨b, 0, none⟩), .int .u32 a2, .int .i64 want] (w.alloc o) fun e w' => e = .returned (.tuple #[.int .u8 0, .int .i64 11]) ∧ w' = w.alloc o)
    : Calls Try.prog 38 #[bus b, .int .u32 a, .int .i64 want] w fun e w' => e = .returned (.tuple #[.int .u32 0, trap 2 a2]) ∧ Below w.heap.size w w' := by
  have hm := meth_load b
  have g0 : ∀ w, (add33 (.int .u32 0) (.int .u32 1)).run Try.prog w = .ok (.int .u32 1) w := step_u32 0 1 rfl (by decide)
  have g1 : ∀ w, (add33 (.int .u32 1) (.int .u32 1)).run Try.prog w = .ok (.int .u32 2) w := step_u32 1 2 rfl (by decide)
  have G0 := Lib.hid H0
  have G1 := Lib.hid H1
  have G2 := Lib.hid H2
  clear H0 H1 H2
  go_enter Try.func38, Try.ntmps38
  go_wp2_with fail
  refine wp_loop_rounds 5 ?_
  rw [rounds_succ]
  go_wp2_with fail
  refine (G0.out _).mono ?_
  rintro e w' ⟨rfl, rfl⟩
  go_wp2_with fail
  rw [rounds_succ]
  go_wp2_with fail
  refine (G1.out _).mono ?_
  rintro e w' ⟨rfl, rfl⟩
  go_wp2_with fail
  rw [rounds_succ]
  go_wp2_with fail
  refine (G2.out _).mono ?_
  rintro e w' ⟨rfl, rfl⟩
  go_wp2_with fail
  refine bodyPost_ret (v := .tuple #[.int .u32 0, trap 2 a2]) (by simp [results, Try.results38, go_sem]) rfl ⟨rfl, ?_⟩
  repeat (first | refine Below.setCell ?_ (by simp) _ | refine Below.drew ?_)
  exact (Below.refl _ _).alloc (Nat.le_refl _) _
set_option maxRecDepth 100000 in
set_option maxHeartbeats 1000000 in
theorem fetch_no3 {w : World} {b a a1 a2 a3 x0 x1 x2 y0 y1 y2 z0 z1 z2 : Nat} {want : Int} (h4 : ((a : Int) % 4 != 0) = false)
    (d0 : ∀ w, (add33 (.int .u32 a) (.int .u32 0)).run Try.prog w = .ok (.int .u32 a) w) (v0 : ∀ w, (wideB (.int .u8 x0)).run Try.prog w = .ok (.int .u32 x0) w) (s0 : ∀ w, (shl33 (.int .u32 x0) (.int .u32 0)).run Try.prog w = .ok (.int .u32 y0) w) (t0 : ∀ w, (or33 (.int .u32 0) (.int .u32 y0)).run Try.prog w = .ok (.int .u32 z0) w)
    (H0 : ∀ o, Calls Try.prog 62 #[.pointer (some ⟨b, 0, none⟩), .int .u32 a, .int .i64 want] (w.alloc o) fun e w' => e = .returned (.tuple #[.int .u8 x0, .int .i64 0]) ∧ w' = w.alloc o)
    (d1 : ∀ w, (add33 (.int .u32 a) (.int .u32 1)).run Try.prog w = .ok (.int .u32 a1) w) (v1 : ∀ w, (wideB (.int .u8 x1)).run Try.prog w = .ok (.int .u32 x1) w) (s1 : ∀ w, (shl33 (.int .u32 x1) (.int .u32 8)).run Try.prog w = .ok (.int .u32 y1) w) (t1 : ∀ w, (or33 (.int .u32 z0) (.int .u32 y1)).run Try.prog w = .ok (.int .u32 z1) w)
    (H1 : ∀ o, Calls Try.prog 62 #[.pointer (some ⟨b, 0, none⟩), .int .u32 a1, .int .i64 want] (w.alloc o) fun e w' => e = .returned (.tuple #[.int .u8 x1, .int .i64 0]) ∧ w' = w.alloc o)
    (d2 : ∀ w, (add33 (.int .u32 a) (.int .u32 2)).run Try.prog w = .ok (.int .u32 a2) w) (v2 : ∀ w, (wideB (.int .u8 x2)).run Try.prog w = .ok (.int .u32 x2) w) (s2 : ∀ w, (shl33 (.int .u32 x2) (.int .u32 16)).run Try.prog w = .ok (.int .u32 y2) w) (t2 : ∀ w, (or33 (.int .u32 z1) (.int .u32 y2)).run Try.prog w = .ok (.int .u32 z2) w)
    (H2 : ∀ o, Calls Try.prog 62 #[.pointer (some ⟨b, 0, none⟩), .int .u32 a2, .int .i64 want] (w.alloc o) fun e w' => e = .returned (.tuple #[.int .u8 x2, .int .i64 0]) ∧ w' = w.alloc o)
    (d3 : ∀ w, (add33 (.int .u32 a) (.int .u32 3)).run Try.prog w = .ok (.int .u32 a3) w)
    (H3 : ∀ o, Calls Try.prog 62 #[.pointer (some ⟨b, 0, none⟩), .int .u32 a3, .int .i64 want] (w.alloc o) fun e w' => e = .returned (.tuple #[.int .u8 0, .int .i64 11]) ∧ w' = w.alloc o)
    : Calls Try.prog 38 #[bus b, .int .u32 a, .int .i64 want] w fun e w' => e = .returned (.tuple #[.int .u32 0, trap 2 a3]) ∧ Below w.heap.size w w' := by
  have hm := meth_load b
  have g0 : ∀ w, (add33 (.int .u32 0) (.int .u32 1)).run Try.prog w = .ok (.int .u32 1) w := step_u32 0 1 rfl (by decide)
  have g1 : ∀ w, (add33 (.int .u32 1) (.int .u32 1)).run Try.prog w = .ok (.int .u32 2) w := step_u32 1 2 rfl (by decide)
  have g2 : ∀ w, (add33 (.int .u32 2) (.int .u32 1)).run Try.prog w = .ok (.int .u32 3) w := step_u32 2 3 rfl (by decide)
  have G0 := Lib.hid H0
  have G1 := Lib.hid H1
  have G2 := Lib.hid H2
  have G3 := Lib.hid H3
  clear H0 H1 H2 H3
  go_enter Try.func38, Try.ntmps38
  go_wp2_with fail
  refine wp_loop_rounds 5 ?_
  rw [rounds_succ]
  go_wp2_with fail
  refine (G0.out _).mono ?_
  rintro e w' ⟨rfl, rfl⟩
  go_wp2_with fail
  rw [rounds_succ]
  go_wp2_with fail
  refine (G1.out _).mono ?_
  rintro e w' ⟨rfl, rfl⟩
  go_wp2_with fail
  rw [rounds_succ]
  go_wp2_with fail
  refine (G2.out _).mono ?_
  rintro e w' ⟨rfl, rfl⟩
  go_wp2_with fail
  rw [rounds_succ]
  go_wp2_with fail
  refine (G3.out _).mono ?_
  rintro e w' ⟨rfl, rfl⟩
  go_wp2_with fail
  refine bodyPost_ret (v := .tuple #[.int .u32 0, trap 2 a3]) (by simp [results, Try.results38, go_sem]) rfl ⟨rfl, ?_⟩
  repeat (first | refine Below.setCell ?_ (by simp) _ | refine Below.drew ?_)
  exact (Below.refl _ _).alloc (Nat.le_refl _) _
set_option maxRecDepth 100000 in
set_option maxHeartbeats 1000000 in
theorem fetch_walk {w : World} {b a a1 a2 a3 x0 x1 x2 x3 y0 y1 y2 y3 z0 z1 z2 z3 : Nat} {want : Int} (h4 : ((a : Int) % 4 != 0) = false)
    (d0 : ∀ w, (add33 (.int .u32 a) (.int .u32 0)).run Try.prog w = .ok (.int .u32 a) w) (v0 : ∀ w, (wideB (.int .u8 x0)).run Try.prog w = .ok (.int .u32 x0) w) (s0 : ∀ w, (shl33 (.int .u32 x0) (.int .u32 0)).run Try.prog w = .ok (.int .u32 y0) w) (t0 : ∀ w, (or33 (.int .u32 0) (.int .u32 y0)).run Try.prog w = .ok (.int .u32 z0) w)
    (H0 : ∀ o, Calls Try.prog 62 #[.pointer (some ⟨b, 0, none⟩), .int .u32 a, .int .i64 want] (w.alloc o) fun e w' => e = .returned (.tuple #[.int .u8 x0, .int .i64 0]) ∧ w' = w.alloc o)
    (d1 : ∀ w, (add33 (.int .u32 a) (.int .u32 1)).run Try.prog w = .ok (.int .u32 a1) w) (v1 : ∀ w, (wideB (.int .u8 x1)).run Try.prog w = .ok (.int .u32 x1) w) (s1 : ∀ w, (shl33 (.int .u32 x1) (.int .u32 8)).run Try.prog w = .ok (.int .u32 y1) w) (t1 : ∀ w, (or33 (.int .u32 z0) (.int .u32 y1)).run Try.prog w = .ok (.int .u32 z1) w)
    (H1 : ∀ o, Calls Try.prog 62 #[.pointer (some ⟨b, 0, none⟩), .int .u32 a1, .int .i64 want] (w.alloc o) fun e w' => e = .returned (.tuple #[.int .u8 x1, .int .i64 0]) ∧ w' = w.alloc o)
    (d2 : ∀ w, (add33 (.int .u32 a) (.int .u32 2)).run Try.prog w = .ok (.int .u32 a2) w) (v2 : ∀ w, (wideB (.int .u8 x2)).run Try.prog w = .ok (.int .u32 x2) w) (s2 : ∀ w, (shl33 (.int .u32 x2) (.int .u32 16)).run Try.prog w = .ok (.int .u32 y2) w) (t2 : ∀ w, (or33 (.int .u32 z1) (.int .u32 y2)).run Try.prog w = .ok (.int .u32 z2) w)
    (H2 : ∀ o, Calls Try.prog 62 #[.pointer (some ⟨b, 0, none⟩), .int .u32 a2, .int .i64 want] (w.alloc o) fun e w' => e = .returned (.tuple #[.int .u8 x2, .int .i64 0]) ∧ w' = w.alloc o)
    (d3 : ∀ w, (add33 (.int .u32 a) (.int .u32 3)).run Try.prog w = .ok (.int .u32 a3) w) (v3 : ∀ w, (wideB (.int .u8 x3)).run Try.prog w = .ok (.int .u32 x3) w) (s3 : ∀ w, (shl33 (.int .u32 x3) (.int .u32 24)).run Try.prog w = .ok (.int .u32 y3) w) (t3 : ∀ w, (or33 (.int .u32 z2) (.int .u32 y3)).run Try.prog w = .ok (.int .u32 z3) w)
    (H3 : ∀ o, Calls Try.prog 62 #[.pointer (some ⟨b, 0, none⟩), .int .u32 a3, .int .i64 want] (w.alloc o) fun e w' => e = .returned (.tuple #[.int .u8 x3, .int .i64 0]) ∧ w' = w.alloc o)
    : Calls Try.prog 38 #[bus b, .int .u32 a, .int .i64 want] w fun e w' => e = .returned (.tuple #[.int .u32 z3, trap 0 0]) ∧ Below w.heap.size w w' := by
  have hm := meth_load b
  have g0 : ∀ w, (add33 (.int .u32 0) (.int .u32 1)).run Try.prog w = .ok (.int .u32 1) w := step_u32 0 1 rfl (by decide)
  have g1 : ∀ w, (add33 (.int .u32 1) (.int .u32 1)).run Try.prog w = .ok (.int .u32 2) w := step_u32 1 2 rfl (by decide)
  have g2 : ∀ w, (add33 (.int .u32 2) (.int .u32 1)).run Try.prog w = .ok (.int .u32 3) w := step_u32 2 3 rfl (by decide)
  have g3 : ∀ w, (add33 (.int .u32 3) (.int .u32 1)).run Try.prog w = .ok (.int .u32 4) w := step_u32 3 4 rfl (by decide)
  have G0 := Lib.hid H0
  have G1 := Lib.hid H1
  have G2 := Lib.hid H2
  have G3 := Lib.hid H3
  clear H0 H1 H2 H3
  go_enter Try.func38, Try.ntmps38
  go_wp2_with fail
  refine wp_loop_rounds 5 ?_
  rw [rounds_succ]
  go_wp2_with fail
  refine (G0.out _).mono ?_
  rintro e w' ⟨rfl, rfl⟩
  go_wp2_with fail
  rw [rounds_succ]
  go_wp2_with fail
  refine (G1.out _).mono ?_
  rintro e w' ⟨rfl, rfl⟩
  go_wp2_with fail
  rw [rounds_succ]
  go_wp2_with fail
  refine (G2.out _).mono ?_
  rintro e w' ⟨rfl, rfl⟩
  go_wp2_with fail
  rw [rounds_succ]
  go_wp2_with fail
  refine (G3.out _).mono ?_
  rintro e w' ⟨rfl, rfl⟩
  go_wp2_with fail
  rw [rounds_succ]
  go_wp2_with fail
  refine bodyPost_ret (v := .tuple #[.int .u32 z3, trap 0 0]) (by simp [results, Try.results38, go_sem]) rfl ⟨rfl, ?_⟩
  repeat (first | refine Below.setCell ?_ (by simp) _ | refine Below.drew ?_)
  exact (Below.refl _ _).alloc (Nat.le_refl _) _
set_option maxRecDepth 100000 in
set_option maxHeartbeats 1000000 in
theorem fetch_bad {w : World} {b a : Nat} {want : Int} (h4 : ((a : Int) % 4 != 0) = true) : Calls Try.prog 38 #[bus b, .int .u32 a, .int .i64 want] w fun e w' => e = .returned (.tuple #[.int .u32 0, trap 2 a]) ∧ Below w.heap.size w w' := by
  go_enter Try.func38, Try.ntmps38
  go_wp2_with fail
  refine bodyPost_ret (v := .tuple #[.int .u32 0, trap 2 a]) (by simp [results, Try.results38, go_sem]) rfl ⟨rfl, ?_⟩
  repeat (first | refine Below.setCell ?_ (by simp) _ | refine Below.drew ?_)
  exact (Below.refl _ _).alloc (Nat.le_refl _) _
end Go.Proofs.Ytopadiofanaaiaa.CpuLaw
