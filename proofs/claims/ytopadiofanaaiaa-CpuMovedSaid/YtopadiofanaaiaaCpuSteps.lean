/- The walk of ringkeep5.steps. -/
import Derived.Test.YtopadiofanaaiaaCpuStepIs
namespace Go.Proofs.Ytopadiofanaaiaa.CpuLaw
open Go.RowKit
set_option linter.unusedVariables false
set_option linter.unusedSimpArgs false
def g1 : G := ⟨fun _ => 0, 0, 1⟩
def f1 (i : Nat) : Nat := if i = 0 then 254 else if i = 1 then 255 else if i = 2 then 16 else if i = 3 then 2 else 0
def m1 : M := ⟨0, 4, f1, 4⟩
theorem ring1 : (cellsA zeroG).setIfInBounds 9 (Value.int .i64 1) = cellsA g1 := rfl
attribute [local go_sem ↓] load61_eq store61_eq zero61 cells61
attribute [local go_sem] ring1 cellsA_size
theorem steps_plain : (stepF g1 m1).t = 0 ∧ (stepF g1 m1).a = 0 ∧ (stepF g1 m1).g.r 1 = 4294967294 ∧ (stepF g1 m1).g.pc = 4 ∧ (stepF g1 m1).g.ring = 1 := by decide +kernel
theorem good_g1 : Good g1 := ⟨fun _ => by show 0 < _; decide, by show 0 < _; decide⟩
/-- a room whose bytes and whose head are new -/
theorem room_new (w : World) (n : Nat) (hn : w.heap.size = n) : Room ((w.alloc (.cells #[.int .u8 254, .int .u8 255, .int .u8 16, .int .u8 2] 5)).alloc (.cells #[.int .u32 0, .slice (some ⟨n, 0, none⟩) 4 4, .int .i64 4] 58)) (n + 1) n m1 := by
  subst hn
  have h1 := heap_alloc_new w (.cells #[.int .u8 254, .int .u8 255, .int .u8 16, .int .u8 2] 5)
  generalize hW : w.alloc (.cells #[.int .u8 254, .int .u8 255, .int .u8 16, .int .u8 2] 5) = W1 at *
  have hs : W1.heap.size = w.heap.size + 1 := by rw [← hW]; simp
  have h2 := heap_alloc_new W1 (.cells #[.int .u32 0, .slice (some ⟨w.heap.size, 0, none⟩) 4 4, .int .i64 4] 58)
  rw [hs] at h2
  have h3 : (W1.alloc (.cells #[.int .u32 0, .slice (some ⟨w.heap.size, 0, none⟩) 4 4, .int .i64 4] 58)).heap[w.heap.size]? = W1.heap[w.heap.size]? := ((Below.refl _ W1).alloc (Nat.le_refl _) _).block _ (by omega)
  rw [h1] at h3
  refine ⟨by simp [hs], by simp [hs]; omega, by omega, fun i _ => by simp [World.frozen?, h3], by decide, by decide, fun i => ?_, ?_, ⟨_, 4, ?_, fun _ => rfl⟩, ?_, fun i hi => ?_⟩
  · show f1 i < 256
    unfold f1
    repeat' split
    all_goals decide
  · rw [cell_of_row _ _ _ _ _ _ h2]; rfl
  · rw [cell_of_row _ _ _ _ _ _ h2]; rfl
  · rw [cell_of_row _ _ _ _ _ _ h2]; rfl
  · rw [cell_of_row _ _ _ _ _ _ h3]
    have hi : i < 4 := hi
    have : i = 0 ∨ i = 1 ∨ i = 2 ∨ i = 3 := by omega
    rcases this with rfl | rfl | rfl | rfl <;> rfl
/-- the two results of a call of Step in two new blocks -/
structure Res (w w1 : World) (n : Nat) (g : G) (t : Int) (a : Nat) : Prop where
  hn : w.heap.size = n
  B : Below w.heap.size w w1
  R : Row w1 n g
  T : Slot (n + 1) t a w1
theorem res_new (w : World) (g : G) : Res w (((w.alloc (.cells (cellsA zeroG) 61)).alloc (.cells #[.int .i64 0, .int .u32 0] 63)).setRow w.heap.size (cellsA g)) w.heap.size g 0 0 := by
  have h1 := (row_new w zeroG).alloc (.cells #[.int .i64 0, .int .u32 0] 63)
  have h2 := slot_new (w.alloc (.cells (cellsA zeroG) 61))
  simp only [World.size_alloc] at h2
  exact ⟨rfl, below_setRow (Go.Joins.below_alloc2 _ _ _) (Nat.le_refl _) _, h1.setRow g, h2.setRowO (by omega) _⟩
theorem Res.out {w w1 : World} {n : Nat} {g : G} {t : Int} {a : Nat} (h : Res w w1 n g t a) (t2 : Int) (a2 : Nat) : Res w ((w1.setCell ⟨n + 1, 0, none⟩ (.int .i64 t2)).setCell ⟨n + 1, 1, none⟩ (.int .u32 a2)) n g t2 a2 := by
  have := h.hn
  exact ⟨h.hn, (h.B.setCell (by show _ ≤ n + 1; omega) _).setCell (by show _ ≤ n + 1; omega) _, (h.R.setO (by omega) _).setO (by omega) _, h.T.set2 _ _⟩
set_option maxRecDepth 100000 in
set_option maxHeartbeats 1000000 in
theorem steps_any (w : World) : Calls Try.prog 25 #[] w fun e w' => e = .returned (.bool true) ∧ Below w.heap.size w w' ∧ w.heap.size < w'.heap.size := by
  have hQ := room_new w _ rfl
  have hP := steps_plain
  have hb0 : Below w.heap.size w ((w.alloc (.cells #[.int .u8 254, .int .u8 255, .int .u8 16, .int .u8 2] 5)).alloc (.cells #[.int .u32 0, .slice (some ⟨w.heap.size, 0, none⟩) 4 4, .int .i64 4] 58)) := Go.Joins.below_alloc2 _ _ _
  have HD := step_is hQ good_g1 (by decide)
  generalize stepF g1 m1 = o at *
  obtain ⟨g, t, a, m⟩ := o
  simp only at hP
  obtain ⟨rfl, rfl, p1, p2, p3⟩ := hP
  have GD := Lib.hid HD
  have HB0 := Lib.hid hb0
  have P1 := Lib.hid p1
  have P2 := Lib.hid p2
  have P3 := Lib.hid p3
  clear HD hQ hb0 p1 p2 p3
  go_enter Try.func25, Try.ntmps25
  go_upto_region 2 with fail
  go_wp2_with fail
  refine GD.out.mono ?_
  rintro e w2 ⟨rfl, ho, hr⟩
  have HB2 := Lib.hid (HB0.out.trans (ho.low w.heap.size (Nat.le_refl _) (by simp; omega)))
  clear ho hr
  have hs2 := ((row_new w2 zeroG).alloc (.cells #[.int .i64 0, .int .u32 0] 63)).store g
  have hres := res_new w2 g
  have t0 := hres.T.c0
  have t1 := hres.T.c1
  have tf := hres.T.fz
  have HR := Lib.hid hres
  clear hres
  go_upto_region 3 with fail
  have hres := HR.out.out 0 0
  clear t0 t1 tf hs2 HR
  revert hres
  generalize ((((w2.alloc (.cells (cellsA zeroG) 61)).alloc (.cells #[.int .i64 0, .int .u32 0] 63)).setRow w2.heap.size (cellsA g)).setCell ⟨w2.heap.size + 1, 0, none⟩ (.int .i64 0)).setCell ⟨w2.heap.size + 1, 1, none⟩ (.int .u32 0) = W3
  generalize hn2 : w2.heap.size = n2
  intro hres
  have t0 := hres.T.c0
  have t1 := hres.T.c1
  have c1 := hres.R.cr (k := 1) (by decide)
  have c8 := hres.R.cpc
  have c9 := hres.R.cring
  rw [P1.out] at c1
  rw [P2.out] at c8
  rw [P3.out] at c9
  have HB3 := Lib.hid (HB2.out.trans (hres.B.mono HB2.out.size))
  have HS3 := Lib.hid (Nat.lt_of_le_of_lt (Nat.le_trans HB2.out.size (Nat.le_of_eq hn2)) hres.R.lt)
  clear hres hn2
  go_wp2_with fail
  go_ret
  exact ⟨rfl, HB3.out, HS3.out⟩
end Go.Proofs.Ytopadiofanaaiaa.CpuLaw
