/- The walk of cpu.other. The walk of cpu.jump. -/
import Derived.Test.YtnbhohaphmilmaaGreatDoorCpuRow
import Derived.Deep.Cut
import Derived.Deep.CutRange
import Derived.Deep.DeepCutAuto
import Derived.Deep.RegionWith
import Derived.Deep.RegionHeld3
namespace Go.Proofs.YtnbhohaphmilmaaGreatDoor.CpuLaw
open Go.RowKit
set_option linter.unusedVariables false
set_option linter.unusedSimpArgs false
def conv33 (x : Value) : Sem Value := convert 3 33 x
def conv83 (x : Value) : Sem Value := convert 3 297 x
def conv8333 (x : Value) : Sem Value := convert 297 33 x
theorem conv33_eq (x : Value) : convert 3 33 x = conv33 x := rfl
theorem conv83_eq (x : Value) : convert 3 297 x = conv83 x := rfl
theorem conv8333_eq (x : Value) : convert 297 33 x = conv8333 x := rfl
attribute [local go_sem ↓] sub33_eq add33_eq or33_eq shl33_eq shr33_eq mul33_eq quo33_eq and33_eq xor33_eq narrow_eq wideB_eq conv33_eq conv83_eq conv8333_eq load61_eq store61_eq zero61 cells61
/-- the four blocks of a call of other -/
structure Four (w w1 : World) (n : Nat) (g g2 : G) (op : Int) (a b : Nat) (c : Int) (t : Int) (at' : Nat) : Prop where
  hn : w.heap.size = n
  B : Below w.heap.size w w1
  R : Row w1 n g
  I : InsAt w1 (n + 1) op a b c
  Z : Row w1 (n + 1 + 1) g2
  T : Slot (n + 1 + 1 + 1) t at' w1
section
variable {w w1 : World} {n : Nat} {g g2 : G} {op : Int} {a b : Nat} {c : Int} {t : Int} {at' : Nat}
theorem InsAt.setO (h : InsAt w n op a b c) {d i : Nat} (hd : d ≠ n) (v : Value) : InsAt (w.setCell ⟨d, i, none⟩ v) n op a b c := by
  have e : ∀ j, (w.setCell ⟨d, i, none⟩ v).cell? ⟨n, j, none⟩ = w.cell? ⟨n, j, none⟩ := fun j => World.cell?_setCell_other _ _ _ _ (by intro e; exact hd (by simpa using (congrArg Addr.block e)))
  exact ⟨by simpa using h.lt, by rw [e]; exact h.c0, by rw [e]; exact h.c1, by rw [e]; exact h.c2, by rw [e]; exact h.c3⟩
theorem Slot.setO (h : Slot n t at' w) {d i : Nat} (hd : d ≠ n) (v : Value) : Slot n t at' (w.setCell ⟨d, i, none⟩ v) := by
  have e : ∀ j, (w.setCell ⟨d, i, none⟩ v).cell? ⟨n, j, none⟩ = w.cell? ⟨n, j, none⟩ := fun j => World.cell?_setCell_other _ _ _ _ (by intro e; exact hd (by simpa using (congrArg Addr.block e)))
  exact ⟨by simpa using h.lt, by rw [e]; exact h.c0, by rw [e]; exact h.c1, fun j => by rw [World.frozen?_setCell]; exact h.fz j⟩
theorem heap_setRow (w : World) (d : Nat) (C : Array Value) (k : Nat) (h : k ≠ d) : (w.setRow d C).heap[k]? = w.heap[k]? := by
  simp only [World.setRow, Array.getElem?_modify]; rw [if_neg (Ne.symm h)]
theorem InsAt.setRowO (h : InsAt w n op a b c) {d : Nat} (hd : d ≠ n) (C : Array Value) : InsAt (w.setRow d C) n op a b c := by
  have e : ∀ j, (w.setRow d C).cell? ⟨n, j, none⟩ = w.cell? ⟨n, j, none⟩ := fun j => World.cell?_of_block (w := w) (heap_setRow w d C n hd.symm)
  exact ⟨by simpa [World.setRow] using h.lt, by rw [e]; exact h.c0, by rw [e]; exact h.c1, by rw [e]; exact h.c2, by rw [e]; exact h.c3⟩
theorem Slot.setRowO (h : Slot n t at' w) {d : Nat} (hd : d ≠ n) (C : Array Value) : Slot n t at' (w.setRow d C) := by
  have e : ∀ j, (w.setRow d C).cell? ⟨n, j, none⟩ = w.cell? ⟨n, j, none⟩ := fun j => World.cell?_of_block (w := w) (heap_setRow w d C n hd.symm)
  exact ⟨by simpa [World.setRow] using h.lt, by rw [e]; exact h.c0, by rw [e]; exact h.c1, fun j => by rw [World.frozen?_of_block (w := w) (heap_setRow w d C n hd.symm)]; exact h.fz j⟩
theorem Slot.set2 (h : Slot n t at' w) (t2 : Int) (a2 : Nat) : Slot n t2 a2 ((w.setCell ⟨n, 0, none⟩ (.int .i64 t2)).setCell ⟨n, 1, none⟩ (.int .u32 a2)) := by
  have h0 := h.c0
  have h1 := h.c1
  refine ⟨by simpa using h.lt, ?_, ?_, fun j => by rw [World.frozen?_setCell, World.frozen?_setCell]; exact h.fz j⟩
  · rw [World.cell?_setCell_other _ _ _ _ (by simp)]
    simp [go_sem, h0]
  · have : (w.setCell ⟨n, 0, none⟩ (.int .i64 t2)).cell? ⟨n, 1, none⟩ = some (.int .u32 at') := by rw [World.cell?_setCell_other _ _ _ _ (by simp)]; exact h1
    simp [go_sem, this]
theorem Four.keep {w2 : World} (h : Four w w1 n g g2 op a b c t at') (hb : Below w1.heap.size w1 w2) : Four w w2 n g g2 op a b c t at' := ⟨h.hn, h.B.trans (hb.mono h.B.size), h.R.keep hb, h.I.keep hb, h.Z.keep hb, h.T.keep (.of hb) (Nat.ne_of_lt (Nat.lt_of_lt_of_le h.T.lt (Nat.le_refl _)))⟩
theorem Four.drew (h : Four w w1 n g g2 op a b c t at') : Four w w1.drew n g g2 op a b c t at' := h.keep (Below.refl _ _).drew
theorem Four.setPc (h : Four w w1 n g g2 op a b c t at') (x : Nat) : Four w (w1.setCell ⟨n, 8, none⟩ (.int .u32 x)) n ⟨g.r, x, g.ring⟩ g2 op a b c t at' := ⟨h.hn, h.B.setCell (Nat.le_of_eq h.hn) _, h.R.setPc x, h.I.setO (by omega) _, h.Z.setO (by omega) _, h.T.setO (by omega) _⟩
theorem Four.setRing (h : Four w w1 n g g2 op a b c t at') (x : Int) : Four w (w1.setCell ⟨n, 9, none⟩ (.int .i64 x)) n ⟨g.r, g.pc, x⟩ g2 op a b c t at' := ⟨h.hn, h.B.setCell (Nat.le_of_eq h.hn) _, h.R.setRing x, h.I.setO (by omega) _, h.Z.setO (by omega) _, h.T.setO (by omega) _⟩
theorem Four.setReg (h : Four w w1 n g g2 op a b c t at') {k : Nat} (hk : k < 8) (x : Nat) : Four w (w1.setCell ⟨n, k, none⟩ (.int .u32 x)) n (setR g k x) g2 op a b c t at' := ⟨h.hn, h.B.setCell (Nat.le_of_eq h.hn) _, h.R.setReg hk x, h.I.setO (by omega) _, h.Z.setO (by omega) _, h.T.setO (by omega) _⟩
theorem Four.outZ (h : Four w w1 n g g2 op a b c t at') (g3 : G) : Four w (w1.setRow (n + 1 + 1) (cellsA g3)) n g g3 op a b c t at' := by
  have hn := h.hn
  exact ⟨h.hn, below_setRow h.B (by omega) _, h.R.setRowO (by omega) _, h.I.setRowO (by omega) _, h.Z.setRow g3, h.T.setRowO (by omega) _⟩
theorem Four.out (h : Four w w1 n g g2 op a b c t at') (g3 : G) (t2 : Int) (a2 : Nat) : Four w (((w1.setRow (n + 1 + 1) (cellsA g3)).setCell ⟨n + 1 + 1 + 1, 0, none⟩ (.int .i64 t2)).setCell ⟨n + 1 + 1 + 1, 1, none⟩ (.int .u32 a2)) n g g3 op a b c t2 a2 := by
  have hn := h.hn
  exact ⟨h.hn, ((below_setRow h.B (by omega) _).setCell (by simp; omega) _).setCell (by simp; omega) _, ((h.R.setRowO (by omega) _).setO (by omega) _).setO (by omega) _, ((h.I.setRowO (by omega) _).setO (by omega) _).setO (by omega) _, ((h.Z.setRow g3).setO (by omega) _).setO (by omega) _, (h.T.setRowO (by omega) _).set2 _ _⟩
theorem four_new (w : World) (g : G) (op : Int) (a b : Nat) (c : Int) : Four w ((((w.alloc (.cells (cellsA g) 36)).alloc (.cells #[.int .i64 op, .int .i64 a, .int .i64 b, .int .i64 c] 89)).alloc (.cells (cellsA zeroG) 36)).alloc (.cells #[.int .i64 0, .int .u32 0] 64)) w.heap.size g zeroG op a b c 0 0 := by
  have r0 := row_new w g
  have i0 := ins_new (w.alloc (.cells (cellsA g) 36)) op a b c
  have z0 := row_new ((w.alloc (.cells (cellsA g) 36)).alloc (.cells #[.int .i64 op, .int .i64 a, .int .i64 b, .int .i64 c] 89)) zeroG
  have t0 := slot_new (((w.alloc (.cells (cellsA g) 36)).alloc (.cells #[.int .i64 op, .int .i64 a, .int .i64 b, .int .i64 c] 89)).alloc (.cells (cellsA zeroG) 36))
  have al : ∀ (w : World) (o : Obj), Below w.heap.size w (w.alloc o) := fun w o => (Below.refl _ _).alloc (Nat.le_refl _) o
  simp only [World.size_alloc] at i0 z0 t0
  exact ⟨rfl, (((Below.refl _ _).alloc (Nat.le_refl _) _).alloc (by simp) _).alloc (by simp; omega) _ |>.alloc (by simp; omega) _, ((r0.alloc _).alloc _).alloc _, (i0.keep (al _ _)).keep (al _ _), z0.alloc _, t0⟩
end
theorem results_cells2 {fn : Func} {p q : Tmp} {ty tz : TypeId} (h : fn.results = #[.cell p ty, .cell q tz]) (tmps : Array Value) (P : Program) (w : World) :
    (results fn tmps).run P w = ((asAddr (tmps.getD p undef)).run P w).andThen fun a w1 => ((loadVar ty a).run P w1).andThen fun v w2 => ((asAddr (tmps.getD q undef)).run P w2).andThen fun a2 w3 => ((loadVar tz a2).run P w3).andThen fun v2 w4 => .ok (.tuple #[v, v2]) w4 := by
  unfold results
  rw [h]
  simp
theorem asAddr_ptr (a : Addr) (w : World) : (asAddr (.pointer (some a))).run Tryz.prog w = .ok a w := by simp [go_sem]
theorem load63 {w : World} {d : Nat} {t : Int} {a : Nat} (h : Slot d t a w) : (loadVar 64 ⟨d, 0, none⟩).run Tryz.prog w = .ok (trap t a) w := by
  have h0 := h.c0
  have h1 := h.c1
  simp [go_sem, h0, h1]
theorem two_results {fn : Func} {p q : Tmp} (h : fn.results = #[.cell p 36, .cell q 64]) {tmps : Array Value} {w : World} {b d : Nat} {g : G} {t : Int} {a : Nat} (hp : tmps.getD p undef = .pointer (some ⟨b, 0, none⟩)) (hq : tmps.getD q undef = .pointer (some ⟨d, 0, none⟩)) (Z : Row w b g) (T : Slot d t a w) :
    (results fn tmps).run Tryz.prog w = .ok (.tuple #[.agg (cellsA g), trap t a]) w := by
  rw [results_cells2 h, hp, hq]
  simp only [asAddr_ptr, Result.andThen_ok, Z.loadVar, load63 T]
set_option maxRecDepth 100000 in
set_option maxHeartbeats 1000000 in
theorem other_halt {w : World} {g : G} {A B : Nat} {C : Int} (hA : A < 8) (hB : B < 8)
    : Calls Tryz.prog 98 #[.agg (cellsA g), .agg #[.int .i64 1, .int .i64 A, .int .i64 B, .int .i64 C]] w fun e w' => e = .returned (.tuple #[.agg (cellsA (g)), trap 5 0]) ∧ Below w.heap.size w w' := by
  have hA0 : 0 ≤ (A : Int) := by omega
  have hA8 : (A : Int) < 8 := by omega
  have hB0 : 0 ≤ (B : Int) := by omega
  have hB8 : (B : Int) < 8 := by omega
  go_enter Tryz.func98, Tryz.ntmps98
  go_upto_region 1 with fail
  have HF0 := four_new w g 1 A B C
  revert HF0
  generalize ((((w.alloc (.cells (cellsA g) 36)).alloc (.cells #[.int .i64 1, .int .i64 A, .int .i64 B, .int .i64 C] 89)).alloc (.cells (cellsA zeroG) 36)).alloc (.cells #[.int .i64 0, .int .u32 0] 64)) = W
  intro HF0
  have HF := Lib.hid HF0
  clear HF0
  have ca := HF.out.R.cr hA
  have cb := HF.out.R.cr hB
  have i0 := HF.out.I.c0
  have i1 := HF.out.I.c1
  have i2 := HF.out.I.c2
  have i3 := HF.out.I.c3
  have f0 := HF.out.R.fz
  have f1 := HF.out.T.fz
  have t0 := HF.out.T.c0
  have t1 := HF.out.T.c1
  have p8 := HF.out.R.cpc
  have p9 := HF.out.R.cring
  have HG := Lib.hid (HF.out)
  have hl := HG.out.R.load
  have hs := HG.out.Z.store (g)
  have HO := Lib.hid (HG.out.out (g) 5 0)
  have HZ := Lib.hid (HG.out.outZ (g))
  have z3 := HZ.out.T.fz 0
  have z4 := HZ.out.T.fz 1
  have z5 := HZ.out.T.c0
  have z6 := HZ.out.T.c1
  go_wp2_with fail
  refine bodyPost_ret (v := .tuple #[.agg (cellsA (g)), trap 5 0]) (two_results Tryz.results98 rfl rfl HO.out.Z HO.out.T) rfl ⟨rfl, HO.out.B⟩
set_option maxRecDepth 100000 in
set_option maxHeartbeats 1000000 in
theorem other_sys {w : World} {g : G} {A B : Nat} {C : Int} (hA : A < 8) (hB : B < 8)
    : Calls Tryz.prog 98 #[.agg (cellsA g), .agg #[.int .i64 24, .int .i64 A, .int .i64 B, .int .i64 C]] w fun e w' => e = .returned (.tuple #[.agg (cellsA (g)), trap 1 0]) ∧ Below w.heap.size w w' := by
  have hA0 : 0 ≤ (A : Int) := by omega
  have hA8 : (A : Int) < 8 := by omega
  have hB0 : 0 ≤ (B : Int) := by omega
  have hB8 : (B : Int) < 8 := by omega
  go_enter Tryz.func98, Tryz.ntmps98
  go_upto_region 1 with fail
  have HF0 := four_new w g 24 A B C
  revert HF0
  generalize ((((w.alloc (.cells (cellsA g) 36)).alloc (.cells #[.int .i64 24, .int .i64 A, .int .i64 B, .int .i64 C] 89)).alloc (.cells (cellsA zeroG) 36)).alloc (.cells #[.int .i64 0, .int .u32 0] 64)) = W
  intro HF0
  have HF := Lib.hid HF0
  clear HF0
  have ca := HF.out.R.cr hA
  have cb := HF.out.R.cr hB
  have i0 := HF.out.I.c0
  have i1 := HF.out.I.c1
  have i2 := HF.out.I.c2
  have i3 := HF.out.I.c3
  have f0 := HF.out.R.fz
  have f1 := HF.out.T.fz
  have t0 := HF.out.T.c0
  have t1 := HF.out.T.c1
  have p8 := HF.out.R.cpc
  have p9 := HF.out.R.cring
  have HG := Lib.hid (HF.out)
  have hl := HG.out.R.load
  have hs := HG.out.Z.store (g)
  have HO := Lib.hid (HG.out.out (g) 1 0)
  have HZ := Lib.hid (HG.out.outZ (g))
  have z3 := HZ.out.T.fz 0
  have z4 := HZ.out.T.fz 1
  have z5 := HZ.out.T.c0
  have z6 := HZ.out.T.c1
  go_wp2_with fail
  refine bodyPost_ret (v := .tuple #[.agg (cellsA (g)), trap 1 0]) (two_results Tryz.results98 rfl rfl HO.out.Z HO.out.T) rfl ⟨rfl, HO.out.B⟩
set_option maxRecDepth 100000 in
set_option maxHeartbeats 1000000 in
theorem other_home {w : World} {g : G} {A B : Nat} {C : Int} (hA : A < 8) (hB : B < 8)
    : Calls Tryz.prog 98 #[.agg (cellsA g), .agg #[.int .i64 26, .int .i64 A, .int .i64 B, .int .i64 C]] w fun e w' => e = .returned (.tuple #[.agg (cellsA (⟨g.r, g.r A, 1⟩)), trap 0 0]) ∧ Below w.heap.size w w' := by
  have hA0 : 0 ≤ (A : Int) := by omega
  have hA8 : (A : Int) < 8 := by omega
  have hB0 : 0 ≤ (B : Int) := by omega
  have hB8 : (B : Int) < 8 := by omega
  go_enter Tryz.func98, Tryz.ntmps98
  go_upto_region 1 with fail
  have HF0 := four_new w g 26 A B C
  revert HF0
  generalize ((((w.alloc (.cells (cellsA g) 36)).alloc (.cells #[.int .i64 26, .int .i64 A, .int .i64 B, .int .i64 C] 89)).alloc (.cells (cellsA zeroG) 36)).alloc (.cells #[.int .i64 0, .int .u32 0] 64)) = W
  intro HF0
  have HF := Lib.hid HF0
  clear HF0
  have ca := HF.out.R.cr hA
  have cb := HF.out.R.cr hB
  have i0 := HF.out.I.c0
  have i1 := HF.out.I.c1
  have i2 := HF.out.I.c2
  have i3 := HF.out.I.c3
  have f0 := HF.out.R.fz
  have f1 := HF.out.T.fz
  have t0 := HF.out.T.c0
  have t1 := HF.out.T.c1
  have p8 := HF.out.R.cpc
  have p9 := HF.out.R.cring
  have HG := Lib.hid ((HF.out.setPc (g.r A)).setRing 1)
  have hl := HG.out.R.load
  have hs := HG.out.Z.store (⟨g.r, g.r A, 1⟩)
  have HO := Lib.hid (HG.out.out (⟨g.r, g.r A, 1⟩) 0 0)
  have HZ := Lib.hid (HG.out.outZ (⟨g.r, g.r A, 1⟩))
  have z3 := HZ.out.T.fz 0
  have z4 := HZ.out.T.fz 1
  have z5 := HZ.out.T.c0
  have z6 := HZ.out.T.c1
  go_wp2_with fail
  refine bodyPost_ret (v := .tuple #[.agg (cellsA (⟨g.r, g.r A, 1⟩)), trap 0 0]) (two_results Tryz.results98 rfl rfl HO.out.Z HO.out.T) rfl ⟨rfl, HO.out.B⟩
set_option maxRecDepth 100000 in
set_option maxHeartbeats 1000000 in
theorem other_set {w : World} {g : G} {A B k : Nat} {C : Int} (hA : A < 8) (hB : B < 8) (hc : ∀ w, (conv33 (.int .i64 C)).run Tryz.prog w = .ok (.int .u32 k) w)
    : Calls Tryz.prog 98 #[.agg (cellsA g), .agg #[.int .i64 2, .int .i64 A, .int .i64 B, .int .i64 C]] w fun e w' => e = .returned (.tuple #[.agg (cellsA (setR g A k)), trap 0 0]) ∧ Below w.heap.size w w' := by
  have hA0 : 0 ≤ (A : Int) := by omega
  have hA8 : (A : Int) < 8 := by omega
  have hB0 : 0 ≤ (B : Int) := by omega
  have hB8 : (B : Int) < 8 := by omega
  go_enter Tryz.func98, Tryz.ntmps98
  go_upto_region 1 with fail
  have HF0 := four_new w g 2 A B C
  revert HF0
  generalize ((((w.alloc (.cells (cellsA g) 36)).alloc (.cells #[.int .i64 2, .int .i64 A, .int .i64 B, .int .i64 C] 89)).alloc (.cells (cellsA zeroG) 36)).alloc (.cells #[.int .i64 0, .int .u32 0] 64)) = W
  intro HF0
  have HF := Lib.hid HF0
  clear HF0
  have ca := HF.out.R.cr hA
  have cb := HF.out.R.cr hB
  have i0 := HF.out.I.c0
  have i1 := HF.out.I.c1
  have i2 := HF.out.I.c2
  have i3 := HF.out.I.c3
  have f0 := HF.out.R.fz
  have f1 := HF.out.T.fz
  have t0 := HF.out.T.c0
  have t1 := HF.out.T.c1
  have p8 := HF.out.R.cpc
  have p9 := HF.out.R.cring
  have HG := Lib.hid (HF.out.setReg hA k)
  have hl := HG.out.R.load
  have hs := HG.out.Z.store (setR g A k)
  have HO := Lib.hid (HG.out.out (setR g A k) 0 0)
  have HZ := Lib.hid (HG.out.outZ (setR g A k))
  have z3 := HZ.out.T.fz 0
  have z4 := HZ.out.T.fz 1
  have z5 := HZ.out.T.c0
  have z6 := HZ.out.T.c1
  go_wp2_with fail
  refine bodyPost_ret (v := .tuple #[.agg (cellsA (setR g A k)), trap 0 0]) (two_results Tryz.results98 rfl rfl HO.out.Z HO.out.T) rfl ⟨rfl, HO.out.B⟩
set_option maxRecDepth 100000 in
set_option maxHeartbeats 1000000 in
theorem other_move {w : World} {g : G} {A B : Nat} {C : Int} (hA : A < 8) (hB : B < 8)
    : Calls Tryz.prog 98 #[.agg (cellsA g), .agg #[.int .i64 4, .int .i64 A, .int .i64 B, .int .i64 C]] w fun e w' => e = .returned (.tuple #[.agg (cellsA (setR g A (g.r B))), trap 0 0]) ∧ Below w.heap.size w w' := by
  have hA0 : 0 ≤ (A : Int) := by omega
  have hA8 : (A : Int) < 8 := by omega
  have hB0 : 0 ≤ (B : Int) := by omega
  have hB8 : (B : Int) < 8 := by omega
  go_enter Tryz.func98, Tryz.ntmps98
  go_upto_region 1 with fail
  have HF0 := four_new w g 4 A B C
  revert HF0
  generalize ((((w.alloc (.cells (cellsA g) 36)).alloc (.cells #[.int .i64 4, .int .i64 A, .int .i64 B, .int .i64 C] 89)).alloc (.cells (cellsA zeroG) 36)).alloc (.cells #[.int .i64 0, .int .u32 0] 64)) = W
  intro HF0
  have HF := Lib.hid HF0
  clear HF0
  have ca := HF.out.R.cr hA
  have cb := HF.out.R.cr hB
  have i0 := HF.out.I.c0
  have i1 := HF.out.I.c1
  have i2 := HF.out.I.c2
  have i3 := HF.out.I.c3
  have f0 := HF.out.R.fz
  have f1 := HF.out.T.fz
  have t0 := HF.out.T.c0
  have t1 := HF.out.T.c1
  have p8 := HF.out.R.cpc
  have p9 := HF.out.R.cring
  have HG := Lib.hid ((HF.out.setReg hA (g.r B)).drew)
  have hl := HG.out.R.load
  have hs := HG.out.Z.store (setR g A (g.r B))
  have HO := Lib.hid (HG.out.out (setR g A (g.r B)) 0 0)
  have HZ := Lib.hid (HG.out.outZ (setR g A (g.r B)))
  have z3 := HZ.out.T.fz 0
  have z4 := HZ.out.T.fz 1
  have z5 := HZ.out.T.c0
  have z6 := HZ.out.T.c1
  go_wp2
  go_region
  go_wp2
  refine bodyPost_ret (v := .tuple #[.agg (cellsA (setR g A (g.r B))), trap 0 0]) (two_results Tryz.results98 rfl rfl HO.out.Z HO.out.T) rfl ⟨rfl, HO.out.B⟩
set_option maxRecDepth 100000 in
set_option maxHeartbeats 1000000 in
theorem other_plus {w : World} {g : G} {A B k z : Nat} {C : Int} (hA : A < 8) (hB : B < 8) (hc : ∀ w, (conv33 (.int .i64 C)).run Tryz.prog w = .ok (.int .u32 k) w) (ha : ∀ w, (add33 (.int .u32 (g.r B)) (.int .u32 k)).run Tryz.prog w = .ok (.int .u32 z) w)
    : Calls Tryz.prog 98 #[.agg (cellsA g), .agg #[.int .i64 14, .int .i64 A, .int .i64 B, .int .i64 C]] w fun e w' => e = .returned (.tuple #[.agg (cellsA (setR g A z)), trap 0 0]) ∧ Below w.heap.size w w' := by
  have hA0 : 0 ≤ (A : Int) := by omega
  have hA8 : (A : Int) < 8 := by omega
  have hB0 : 0 ≤ (B : Int) := by omega
  have hB8 : (B : Int) < 8 := by omega
  go_enter Tryz.func98, Tryz.ntmps98
  go_upto_region 1 with fail
  have HF0 := four_new w g 14 A B C
  revert HF0
  generalize ((((w.alloc (.cells (cellsA g) 36)).alloc (.cells #[.int .i64 14, .int .i64 A, .int .i64 B, .int .i64 C] 89)).alloc (.cells (cellsA zeroG) 36)).alloc (.cells #[.int .i64 0, .int .u32 0] 64)) = W
  intro HF0
  have HF := Lib.hid HF0
  clear HF0
  have ca := HF.out.R.cr hA
  have cb := HF.out.R.cr hB
  have i0 := HF.out.I.c0
  have i1 := HF.out.I.c1
  have i2 := HF.out.I.c2
  have i3 := HF.out.I.c3
  have f0 := HF.out.R.fz
  have f1 := HF.out.T.fz
  have t0 := HF.out.T.c0
  have t1 := HF.out.T.c1
  have p8 := HF.out.R.cpc
  have p9 := HF.out.R.cring
  have HG := Lib.hid ((HF.out.setReg hA z).drew)
  have hl := HG.out.R.load
  have hs := HG.out.Z.store (setR g A z)
  have HO := Lib.hid (HG.out.out (setR g A z) 0 0)
  have HZ := Lib.hid (HG.out.outZ (setR g A z))
  have z3 := HZ.out.T.fz 0
  have z4 := HZ.out.T.fz 1
  have z5 := HZ.out.T.c0
  have z6 := HZ.out.T.c1
  go_wp2
  go_region
  go_wp2
  refine bodyPost_ret (v := .tuple #[.agg (cellsA (setR g A z)), trap 0 0]) (two_results Tryz.results98 rfl rfl HO.out.Z HO.out.T) rfl ⟨rfl, HO.out.B⟩
set_option maxRecDepth 100000 in
set_option maxHeartbeats 1000000 in
theorem other_high {w : World} {g : G} {A B k s z : Nat} {C : Int} (hA : A < 8) (hB : B < 8) (hc : ∀ w, (conv83 (.int .i64 C)).run Tryz.prog w = .ok (.int .u16 k) w) (hd : ∀ w, (conv8333 (.int .u16 k)).run Tryz.prog w = .ok (.int .u32 k) w) (hs : ∀ w, (shl33 (.int .u32 (g.r A)) (.int .u64 16)).run Tryz.prog w = .ok (.int .u32 s) w) (ho : ∀ w, (or33 (.int .u32 s) (.int .u32 k)).run Tryz.prog w = .ok (.int .u32 z) w)
    : Calls Tryz.prog 98 #[.agg (cellsA g), .agg #[.int .i64 3, .int .i64 A, .int .i64 B, .int .i64 C]] w fun e w' => e = .returned (.tuple #[.agg (cellsA (setR g A z)), trap 0 0]) ∧ Below w.heap.size w w' := by
  have hA0 : 0 ≤ (A : Int) := by omega
  have hA8 : (A : Int) < 8 := by omega
  have hB0 : 0 ≤ (B : Int) := by omega
  have hB8 : (B : Int) < 8 := by omega
  go_enter Tryz.func98, Tryz.ntmps98
  go_upto_region 1 with fail
  have HF0 := four_new w g 3 A B C
  revert HF0
  generalize ((((w.alloc (.cells (cellsA g) 36)).alloc (.cells #[.int .i64 3, .int .i64 A, .int .i64 B, .int .i64 C] 89)).alloc (.cells (cellsA zeroG) 36)).alloc (.cells #[.int .i64 0, .int .u32 0] 64)) = W
  intro HF0
  have HF := Lib.hid HF0
  clear HF0
  have ca := HF.out.R.cr hA
  have cb := HF.out.R.cr hB
  have i0 := HF.out.I.c0
  have i1 := HF.out.I.c1
  have i2 := HF.out.I.c2
  have i3 := HF.out.I.c3
  have f0 := HF.out.R.fz
  have f1 := HF.out.T.fz
  have t0 := HF.out.T.c0
  have t1 := HF.out.T.c1
  have p8 := HF.out.R.cpc
  have p9 := HF.out.R.cring
  have HG := Lib.hid ((HF.out.setReg hA z).drew)
  have hl := HG.out.R.load
  have hs := HG.out.Z.store (setR g A z)
  have HO := Lib.hid (HG.out.out (setR g A z) 0 0)
  have HZ := Lib.hid (HG.out.outZ (setR g A z))
  have z3 := HZ.out.T.fz 0
  have z4 := HZ.out.T.fz 1
  have z5 := HZ.out.T.c0
  have z6 := HZ.out.T.c1
  go_wp2
  go_region
  go_wp2
  refine bodyPost_ret (v := .tuple #[.agg (cellsA (setR g A z)), trap 0 0]) (two_results Tryz.results98 rfl rfl HO.out.Z HO.out.T) rfl ⟨rfl, HO.out.B⟩
end Go.Proofs.YtnbhohaphmilmaaGreatDoor.CpuLaw
namespace Go.Proofs.YtnbhohaphmilmaaGreatDoor.CpuLaw
open Go.RowKit
set_option linter.unusedVariables false
set_option linter.unusedSimpArgs false
attribute [local go_sem ↓] sub33_eq add33_eq or33_eq shl33_eq shr33_eq mul33_eq quo33_eq and33_eq xor33_eq narrow_eq wideB_eq conv33_eq conv83_eq conv8333_eq load61_eq store61_eq zero61 cells61
/-- the registers of the caller and the one block of a call of jump -/
structure Jmp (w w1 : World) (n rb : Nat) (g : G) (op : Int) (a b : Nat) (c : Int) : Prop where
  hn : w.heap.size = n
  lt : rb < n
  off : Off rb w w1
  R : Row w1 rb g
  I : InsAt w1 n op a b c
section
variable {w w1 : World} {n rb : Nat} {g : G} {op : Int} {a b : Nat} {c : Int}
theorem Off.drew {c : Nat} {w w1 : World} (h : Off c w w1) : Off c w w1.drew := h.trans (.of (Below.refl _ _).drew)
theorem Off.set' {c i : Nat} {w w1 : World} {v : Value} (h : Off c w w1) : Off c w (w1.setCell ⟨c, i, none⟩ v) := h.trans (.set _ _)
theorem Jmp.drew (h : Jmp w w1 n rb g op a b c) : Jmp w w1.drew n rb g op a b c := ⟨h.hn, h.lt, h.off.drew, h.R.keep (Below.refl _ _).drew, h.I.keep (Below.refl _ _).drew⟩
theorem Jmp.setPc (h : Jmp w w1 n rb g op a b c) (x : Nat) : Jmp w (w1.setCell ⟨rb, 8, none⟩ (.int .u32 x)) n rb ⟨g.r, x, g.ring⟩ op a b c := ⟨h.hn, h.lt, h.off.set', h.R.setPc x, h.I.setO (Nat.ne_of_lt h.lt) _⟩
theorem Jmp.setReg (h : Jmp w w1 n rb g op a b c) {k : Nat} (hk : k < 8) (x : Nat) : Jmp w (w1.setCell ⟨rb, k, none⟩ (.int .u32 x)) n rb (setR g k x) op a b c := ⟨h.hn, h.lt, h.off.set', h.R.setReg hk x, h.I.setO (Nat.ne_of_lt h.lt) _⟩
theorem jmp_new (h : Row w rb g) (op : Int) (a b : Nat) (c : Int) : Jmp w (w.alloc (.cells #[.int .i64 op, .int .i64 a, .int .i64 b, .int .i64 c] 89)) w.heap.size rb g op a b c :=
  ⟨rfl, h.lt, .of (Go.Joins.below_alloc1 _ _), h.alloc _, ins_new w op a b c⟩
end
set_option maxRecDepth 100000 in
set_option maxHeartbeats 1000000 in
theorem jump_jump {w : World} {g : G} {rb at' A B k tt : Nat} {C : Int} (hR : Row w rb g) (hA : A < 8) (hB : B < 8) (hc : ∀ w, (conv33 (.int .i64 C)).run Tryz.prog w = .ok (.int .u32 k) w) (ht : ∀ w, (add33 (.int .u32 at') (.int .u32 k)).run Tryz.prog w = .ok (.int .u32 tt) w) 
    : Calls Tryz.prog 97 #[.pointer (some ⟨rb, 0, none⟩), .agg #[.int .i64 19, .int .i64 A, .int .i64 B, .int .i64 C], .int .u32 at'] w fun e w' => e = .returned (.tuple #[]) ∧ Off rb w w' ∧ Row w' rb (⟨g.r, tt, g.ring⟩) := by
  have hA0 : 0 ≤ (A : Int) := by omega
  have hA8 : (A : Int) < 8 := by omega
  have hB0 : 0 ≤ (B : Int) := by omega
  have hB8 : (B : Int) < 8 := by omega
  go_enter Tryz.func97, Tryz.ntmps97
  go_upto_region 1 with fail
  have HF0 := jmp_new hR 19 A B C
  revert HF0
  generalize w.alloc (.cells #[.int .i64 19, .int .i64 A, .int .i64 B, .int .i64 C] 89) = W
  intro HF0
  have HF := Lib.hid HF0
  have HR0 := Lib.hid hR
  clear HF0 hR
  have ca := HF.out.R.cr hA
  have cb := HF.out.R.cr hB
  have i0 := HF.out.I.c0
  have i1 := HF.out.I.c1
  have i2 := HF.out.I.c2
  have i3 := HF.out.I.c3
  have f0 := HF.out.R.fz
  have p8 := HF.out.R.cpc
  have p9 := HF.out.R.cring
  have HG := Lib.hid (HF.out.setPc tt)
  go_wp2_with fail
  go_end0
  exact ⟨rfl, HG.out.off, HG.out.R⟩
set_option maxRecDepth 100000 in
set_option maxHeartbeats 1000000 in
theorem jump_zeroY {w : World} {g : G} {rb at' A B k tt : Nat} {C : Int} (hR : Row w rb g) (hA : A < 8) (hB : B < 8) (hc : ∀ w, (conv33 (.int .i64 C)).run Tryz.prog w = .ok (.int .u32 k) w) (ht : ∀ w, (add33 (.int .u32 at') (.int .u32 k)).run Tryz.prog w = .ok (.int .u32 tt) w) (hz : ((g.r A : Int) == 0) = true)
    : Calls Tryz.prog 97 #[.pointer (some ⟨rb, 0, none⟩), .agg #[.int .i64 20, .int .i64 A, .int .i64 B, .int .i64 C], .int .u32 at'] w fun e w' => e = .returned (.tuple #[]) ∧ Off rb w w' ∧ Row w' rb (⟨g.r, tt, g.ring⟩) := by
  have hA0 : 0 ≤ (A : Int) := by omega
  have hA8 : (A : Int) < 8 := by omega
  have hB0 : 0 ≤ (B : Int) := by omega
  have hB8 : (B : Int) < 8 := by omega
  go_enter Tryz.func97, Tryz.ntmps97
  go_upto_region 1 with fail
  have HF0 := jmp_new hR 20 A B C
  revert HF0
  generalize w.alloc (.cells #[.int .i64 20, .int .i64 A, .int .i64 B, .int .i64 C] 89) = W
  intro HF0
  have HF := Lib.hid HF0
  have HR0 := Lib.hid hR
  clear HF0 hR
  have ca := HF.out.R.cr hA
  have cb := HF.out.R.cr hB
  have i0 := HF.out.I.c0
  have i1 := HF.out.I.c1
  have i2 := HF.out.I.c2
  have i3 := HF.out.I.c3
  have f0 := HF.out.R.fz
  have p8 := HF.out.R.cpc
  have p9 := HF.out.R.cring
  have HG := Lib.hid ((HF.out.setPc tt).drew)
  go_wp2
  go_region
  go_wp2
  go_end0
  exact ⟨rfl, HG.out.off, HG.out.R⟩
set_option maxRecDepth 100000 in
set_option maxHeartbeats 1000000 in
theorem jump_zeroN {w : World} {g : G} {rb at' A B k tt : Nat} {C : Int} (hR : Row w rb g) (hA : A < 8) (hB : B < 8) (hc : ∀ w, (conv33 (.int .i64 C)).run Tryz.prog w = .ok (.int .u32 k) w) (ht : ∀ w, (add33 (.int .u32 at') (.int .u32 k)).run Tryz.prog w = .ok (.int .u32 tt) w) (hz : ((g.r A : Int) == 0) = false)
    : Calls Tryz.prog 97 #[.pointer (some ⟨rb, 0, none⟩), .agg #[.int .i64 20, .int .i64 A, .int .i64 B, .int .i64 C], .int .u32 at'] w fun e w' => e = .returned (.tuple #[]) ∧ Off rb w w' ∧ Row w' rb (g) := by
  have hA0 : 0 ≤ (A : Int) := by omega
  have hA8 : (A : Int) < 8 := by omega
  have hB0 : 0 ≤ (B : Int) := by omega
  have hB8 : (B : Int) < 8 := by omega
  go_enter Tryz.func97, Tryz.ntmps97
  go_upto_region 1 with fail
  have HF0 := jmp_new hR 20 A B C
  revert HF0
  generalize w.alloc (.cells #[.int .i64 20, .int .i64 A, .int .i64 B, .int .i64 C] 89) = W
  intro HF0
  have HF := Lib.hid HF0
  have HR0 := Lib.hid hR
  clear HF0 hR
  have ca := HF.out.R.cr hA
  have cb := HF.out.R.cr hB
  have i0 := HF.out.I.c0
  have i1 := HF.out.I.c1
  have i2 := HF.out.I.c2
  have i3 := HF.out.I.c3
  have f0 := HF.out.R.fz
  have p8 := HF.out.R.cpc
  have p9 := HF.out.R.cring
  have HG := Lib.hid (HF.out.drew.drew)
  go_wp2
  go_region
  go_wp2
  go_region
  go_wp2
  go_end0
  exact ⟨rfl, HG.out.off, HG.out.R⟩
set_option maxRecDepth 100000 in
set_option maxHeartbeats 1000000 in
theorem jump_lessY {w : World} {g : G} {rb at' A B k tt : Nat} {C : Int} (hR : Row w rb g) (hA : A < 8) (hB : B < 8) (hc : ∀ w, (conv33 (.int .i64 C)).run Tryz.prog w = .ok (.int .u32 k) w) (ht : ∀ w, (add33 (.int .u32 at') (.int .u32 k)).run Tryz.prog w = .ok (.int .u32 tt) w) (hz : g.r A < g.r B) (hz2 : decide (g.r A < g.r B) = true)
    : Calls Tryz.prog 97 #[.pointer (some ⟨rb, 0, none⟩), .agg #[.int .i64 21, .int .i64 A, .int .i64 B, .int .i64 C], .int .u32 at'] w fun e w' => e = .returned (.tuple #[]) ∧ Off rb w w' ∧ Row w' rb (⟨g.r, tt, g.ring⟩) := by
  have hA0 : 0 ≤ (A : Int) := by omega
  have hA8 : (A : Int) < 8 := by omega
  have hB0 : 0 ≤ (B : Int) := by omega
  have hB8 : (B : Int) < 8 := by omega
  go_enter Tryz.func97, Tryz.ntmps97
  go_upto_region 1 with fail
  have HF0 := jmp_new hR 21 A B C
  revert HF0
  generalize w.alloc (.cells #[.int .i64 21, .int .i64 A, .int .i64 B, .int .i64 C] 89) = W
  intro HF0
  have HF := Lib.hid HF0
  have HR0 := Lib.hid hR
  clear HF0 hR
  have ca := HF.out.R.cr hA
  have cb := HF.out.R.cr hB
  have i0 := HF.out.I.c0
  have i1 := HF.out.I.c1
  have i2 := HF.out.I.c2
  have i3 := HF.out.I.c3
  have f0 := HF.out.R.fz
  have p8 := HF.out.R.cpc
  have p9 := HF.out.R.cring
  have HG := Lib.hid ((HF.out.setPc tt).drew.drew)
  go_wp2
  go_region
  go_wp2
  go_region
  go_wp2
  go_end0
  exact ⟨rfl, HG.out.off, HG.out.R⟩
set_option maxRecDepth 100000 in
set_option maxHeartbeats 1000000 in
theorem jump_lessN {w : World} {g : G} {rb at' A B k tt : Nat} {C : Int} (hR : Row w rb g) (hA : A < 8) (hB : B < 8) (hc : ∀ w, (conv33 (.int .i64 C)).run Tryz.prog w = .ok (.int .u32 k) w) (ht : ∀ w, (add33 (.int .u32 at') (.int .u32 k)).run Tryz.prog w = .ok (.int .u32 tt) w) (hz : ¬ g.r A < g.r B) (hz2 : decide (g.r A < g.r B) = false)
    : Calls Tryz.prog 97 #[.pointer (some ⟨rb, 0, none⟩), .agg #[.int .i64 21, .int .i64 A, .int .i64 B, .int .i64 C], .int .u32 at'] w fun e w' => e = .returned (.tuple #[]) ∧ Off rb w w' ∧ Row w' rb (g) := by
  have hA0 : 0 ≤ (A : Int) := by omega
  have hA8 : (A : Int) < 8 := by omega
  have hB0 : 0 ≤ (B : Int) := by omega
  have hB8 : (B : Int) < 8 := by omega
  go_enter Tryz.func97, Tryz.ntmps97
  go_upto_region 1 with fail
  have HF0 := jmp_new hR 21 A B C
  revert HF0
  generalize w.alloc (.cells #[.int .i64 21, .int .i64 A, .int .i64 B, .int .i64 C] 89) = W
  intro HF0
  have HF := Lib.hid HF0
  have HR0 := Lib.hid hR
  clear HF0 hR
  have ca := HF.out.R.cr hA
  have cb := HF.out.R.cr hB
  have i0 := HF.out.I.c0
  have i1 := HF.out.I.c1
  have i2 := HF.out.I.c2
  have i3 := HF.out.I.c3
  have f0 := HF.out.R.fz
  have p8 := HF.out.R.cpc
  have p9 := HF.out.R.cring
  have HG := Lib.hid (HF.out.drew.drew)
  go_wp2
  go_region
  go_wp2
  go_region
  go_wp2
  go_end0
  exact ⟨rfl, HG.out.off, HG.out.R⟩
set_option maxRecDepth 100000 in
set_option maxHeartbeats 1000000 in
theorem jump_call {w : World} {g : G} {rb at' A B k tt z : Nat} {C : Int} (hR : Row w rb g) (hA : A < 8) (hB : B < 8) (hc : ∀ w, (conv33 (.int .i64 C)).run Tryz.prog w = .ok (.int .u32 k) w) (ht : ∀ w, (add33 (.int .u32 at') (.int .u32 k)).run Tryz.prog w = .ok (.int .u32 tt) w) (h4 : ∀ w, (add33 (.int .u32 at') (.int .u32 4)).run Tryz.prog w = .ok (.int .u32 z) w)
    : Calls Tryz.prog 97 #[.pointer (some ⟨rb, 0, none⟩), .agg #[.int .i64 22, .int .i64 A, .int .i64 B, .int .i64 C], .int .u32 at'] w fun e w' => e = .returned (.tuple #[]) ∧ Off rb w w' ∧ Row w' rb (⟨(setR g A z).r, tt, g.ring⟩) := by
  have hA0 : 0 ≤ (A : Int) := by omega
  have hA8 : (A : Int) < 8 := by omega
  have hB0 : 0 ≤ (B : Int) := by omega
  have hB8 : (B : Int) < 8 := by omega
  go_enter Tryz.func97, Tryz.ntmps97
  go_upto_region 1 with fail
  have HF0 := jmp_new hR 22 A B C
  revert HF0
  generalize w.alloc (.cells #[.int .i64 22, .int .i64 A, .int .i64 B, .int .i64 C] 89) = W
  intro HF0
  have HF := Lib.hid HF0
  have HR0 := Lib.hid hR
  clear HF0 hR
  have ca := HF.out.R.cr hA
  have cb := HF.out.R.cr hB
  have i0 := HF.out.I.c0
  have i1 := HF.out.I.c1
  have i2 := HF.out.I.c2
  have i3 := HF.out.I.c3
  have f0 := HF.out.R.fz
  have p8 := HF.out.R.cpc
  have p9 := HF.out.R.cring
  have HG := Lib.hid (((HF.out.setReg hA z).setPc tt).drew.drew.drew)
  go_wp2
  go_region
  go_wp2
  go_region
  go_wp2
  go_region
  go_wp2
  go_end0
  exact ⟨rfl, HG.out.off, HG.out.R⟩
set_option maxRecDepth 100000 in
set_option maxHeartbeats 1000000 in
theorem jump_back {w : World} {g : G} {rb at' A B k tt : Nat} {C : Int} (hR : Row w rb g) (hA : A < 8) (hB : B < 8) (hc : ∀ w, (conv33 (.int .i64 C)).run Tryz.prog w = .ok (.int .u32 k) w) (ht : ∀ w, (add33 (.int .u32 at') (.int .u32 k)).run Tryz.prog w = .ok (.int .u32 tt) w) 
    : Calls Tryz.prog 97 #[.pointer (some ⟨rb, 0, none⟩), .agg #[.int .i64 23, .int .i64 A, .int .i64 B, .int .i64 C], .int .u32 at'] w fun e w' => e = .returned (.tuple #[]) ∧ Off rb w w' ∧ Row w' rb (⟨g.r, g.r A, g.ring⟩) := by
  have hA0 : 0 ≤ (A : Int) := by omega
  have hA8 : (A : Int) < 8 := by omega
  have hB0 : 0 ≤ (B : Int) := by omega
  have hB8 : (B : Int) < 8 := by omega
  go_enter Tryz.func97, Tryz.ntmps97
  go_upto_region 1 with fail
  have HF0 := jmp_new hR 23 A B C
  revert HF0
  generalize w.alloc (.cells #[.int .i64 23, .int .i64 A, .int .i64 B, .int .i64 C] 89) = W
  intro HF0
  have HF := Lib.hid HF0
  have HR0 := Lib.hid hR
  clear HF0 hR
  have ca := HF.out.R.cr hA
  have cb := HF.out.R.cr hB
  have i0 := HF.out.I.c0
  have i1 := HF.out.I.c1
  have i2 := HF.out.I.c2
  have i3 := HF.out.I.c3
  have f0 := HF.out.R.fz
  have p8 := HF.out.R.cpc
  have p9 := HF.out.R.cring
  have HG := Lib.hid ((HF.out.setPc (g.r A)).drew.drew.drew)
  go_wp2
  go_region
  go_wp2
  go_region
  go_wp2
  go_region
  go_wp2
  go_end0
  exact ⟨rfl, HG.out.off, HG.out.R⟩
end Go.Proofs.YtnbhohaphmilmaaGreatDoor.CpuLaw
