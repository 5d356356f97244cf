/- The walk of cpu.reckon. The walk of cpu.Step: what is reckoned. cpu.Step over any bus: the instructions of a program that loads and stores within one page. No walk here. Arguments that are structs of one-cell fields, opened: however many; a field that is a slice of ints. No program here. Programs that load and store within one page: their instructions, plainly. No walk here. -/
import Derived.Test.YtnbhohaphmilmaaGreatDoorCpuRow
import Derived.Test.YtnbhohaphmilmaaGreatDoorSpP
import Derived.Test.YtnbhohaphmilmaaGreatDoorAlB
import Derived.Test.YtnbhohaphmilmaaGreatDoorKerSt
import Derived.Test.YtnbhohaphmilmaaGreatDoorCodeRow
import Derived.Lib.SmallJoins
import Derived.Test.YtnbhohaphmilmaaGreatDoorSprT
namespace Go.Proofs.YtnbhohaphmilmaaGreatDoor.CpuLaw
open Go.RowKit
set_option linter.unusedVariables false
set_option linter.unusedSimpArgs false
attribute [local go_sem ↓] sub33_eq add33_eq or33_eq shl33_eq shr33_eq mul33_eq quo33_eq and33_eq xor33_eq
set_option maxRecDepth 100000 in
theorem reckon_5 {w : World} {a b z : Nat} (H : ∀ w, (add33 (.int .u32 a) (.int .u32 b)).run Tryz.prog w = .ok (.int .u32 z) w) :
    Calls Tryz.prog 95 #[.int .i64 5, .int .u32 a, .int .u32 b] w fun e w' => e = .returned (.tuple #[.int .u32 z, .bool true]) ∧ w = w' := by
  go_enter Tryz.func95, Tryz.ntmps95
  go_wp2
  go_ret2
  exact ⟨rfl, rfl⟩
set_option maxRecDepth 100000 in
theorem reckon_6 {w : World} {a b z : Nat} (H : ∀ w, (sub33 (.int .u32 a) (.int .u32 b)).run Tryz.prog w = .ok (.int .u32 z) w) :
    Calls Tryz.prog 95 #[.int .i64 6, .int .u32 a, .int .u32 b] w fun e w' => e = .returned (.tuple #[.int .u32 z, .bool true]) ∧ w = w' := by
  go_enter Tryz.func95, Tryz.ntmps95
  go_wp2
  go_ret2
  exact ⟨rfl, rfl⟩
set_option maxRecDepth 100000 in
theorem reckon_7 {w : World} {a b z : Nat} (H : ∀ w, (mul33 (.int .u32 a) (.int .u32 b)).run Tryz.prog w = .ok (.int .u32 z) w) :
    Calls Tryz.prog 95 #[.int .i64 7, .int .u32 a, .int .u32 b] w fun e w' => e = .returned (.tuple #[.int .u32 z, .bool true]) ∧ w = w' := by
  go_enter Tryz.func95, Tryz.ntmps95
  go_wp2
  go_ret2
  exact ⟨rfl, rfl⟩
set_option maxRecDepth 100000 in
theorem reckon_8 {w : World} {a b z : Nat} (H : ∀ w, (quo33 (.int .u32 a) (.int .u32 b)).run Tryz.prog w = .ok (.int .u32 z) w) (hb : ((b : Int) == 0) = false) :
    Calls Tryz.prog 95 #[.int .i64 8, .int .u32 a, .int .u32 b] w fun e w' => e = .returned (.tuple #[.int .u32 z, .bool true]) ∧ w = w' := by
  go_enter Tryz.func95, Tryz.ntmps95
  go_wp2
  go_ret2
  exact ⟨rfl, rfl⟩
set_option maxRecDepth 100000 in
theorem reckon_9 {w : World} {a b z : Nat} (H : ∀ w, (and33 (.int .u32 a) (.int .u32 b)).run Tryz.prog w = .ok (.int .u32 z) w) :
    Calls Tryz.prog 95 #[.int .i64 9, .int .u32 a, .int .u32 b] w fun e w' => e = .returned (.tuple #[.int .u32 z, .bool true]) ∧ w = w' := by
  go_enter Tryz.func95, Tryz.ntmps95
  go_wp2
  go_ret2
  exact ⟨rfl, rfl⟩
set_option maxRecDepth 100000 in
theorem reckon_10 {w : World} {a b z : Nat} (H : ∀ w, (or33 (.int .u32 a) (.int .u32 b)).run Tryz.prog w = .ok (.int .u32 z) w) :
    Calls Tryz.prog 95 #[.int .i64 10, .int .u32 a, .int .u32 b] w fun e w' => e = .returned (.tuple #[.int .u32 z, .bool true]) ∧ w = w' := by
  go_enter Tryz.func95, Tryz.ntmps95
  go_wp2
  go_ret2
  exact ⟨rfl, rfl⟩
set_option maxRecDepth 100000 in
theorem reckon_11 {w : World} {a b z : Nat} (H : ∀ w, (xor33 (.int .u32 a) (.int .u32 b)).run Tryz.prog w = .ok (.int .u32 z) w) :
    Calls Tryz.prog 95 #[.int .i64 11, .int .u32 a, .int .u32 b] w fun e w' => e = .returned (.tuple #[.int .u32 z, .bool true]) ∧ w = w' := by
  go_enter Tryz.func95, Tryz.ntmps95
  go_wp2
  go_ret2
  exact ⟨rfl, rfl⟩
set_option maxRecDepth 100000 in
theorem reckon_12 {w : World} {a b z : Nat} (H : ∀ w, (shl33 (.int .u32 a) (.int .u32 ((b : Int) % 32))).run Tryz.prog w = .ok (.int .u32 z) w) :
    Calls Tryz.prog 95 #[.int .i64 12, .int .u32 a, .int .u32 b] w fun e w' => e = .returned (.tuple #[.int .u32 z, .bool true]) ∧ w = w' := by
  go_enter Tryz.func95, Tryz.ntmps95
  go_wp2
  go_ret2
  exact ⟨rfl, rfl⟩
set_option maxRecDepth 100000 in
theorem reckon_13 {w : World} {a b z : Nat} (H : ∀ w, (shr33 (.int .u32 a) (.int .u32 ((b : Int) % 32))).run Tryz.prog w = .ok (.int .u32 z) w) :
    Calls Tryz.prog 95 #[.int .i64 13, .int .u32 a, .int .u32 b] w fun e w' => e = .returned (.tuple #[.int .u32 z, .bool true]) ∧ w = w' := by
  go_enter Tryz.func95, Tryz.ntmps95
  go_wp2
  go_ret2
  exact ⟨rfl, rfl⟩
set_option maxRecDepth 100000 in
theorem reckon_zero {w : World} {a b : Nat} (hb : ((b : Int) == 0) = true) :
    Calls Tryz.prog 95 #[.int .i64 8, .int .u32 a, .int .u32 b] w fun e w' => e = .returned (.tuple #[.int .u32 0, .bool false]) ∧ w = w' := by
  go_enter Tryz.func95, Tryz.ntmps95
  go_wp2
  go_ret2
  exact ⟨rfl, rfl⟩
end Go.Proofs.YtnbhohaphmilmaaGreatDoor.CpuLaw
namespace Go.Proofs.YtnbhohaphmilmaaGreatDoor.CpuLaw
open Go.RowKit
set_option linter.unusedVariables false
set_option linter.unusedSimpArgs false
attribute [local go_sem ↓] sub33_eq add33_eq or33_eq shl33_eq shr33_eq mul33_eq quo33_eq and33_eq xor33_eq narrow_eq wideB_eq conv33_eq conv83_eq conv8333_eq load61_eq store61_eq zero61 cells61
set_option maxRecDepth 100000 in
set_option maxHeartbeats 2000000 in
theorem step_reckon {w : World} {g : G} {Q : World → Prop} {S : Nat → Prop} {bv : Value} {x A B pc4 : Nat} {z : Nat} {t : Int} (hK : CalmQ Q S w.heap.size) (hQ : Q w) (HX : FetchIs Q S bv g.pc x) {op C : Int} (HD : DecIs x op A B C 0) (hA : A < 8) (hB : B < 8) (hP : ∀ w, (add33 (.int .u32 g.pc) (.int .u32 4)).run Tryz.prog w = .ok (.int .u32 pc4) w) (n1 : (op == 1) = false) (n26 : (op == 26) = false) (o1 : 5 ≤ op) (o2 : op ≤ 13) (o3 : decide (5 ≤ op) = true) (o4 : decide (op ≤ 13) = true) (HR : ∀ w1, Calls Tryz.prog 95 #[.int .i64 op, .int .u32 (g.r A), .int .u32 (g.r B)] w1 fun e w' => e = .returned (.tuple #[.int .u32 z, .bool true]) ∧ w' = w1)
    : Calls Tryz.prog 45 #[.agg (cellsA g), bv] w fun e w' => e = .returned (.tuple #[.agg (cellsA (setR ⟨g.r, pc4, g.ring⟩ A z)), trap 0 0]) ∧ Upd S w w' ∧ Q w' := by
  have GR := Lib.hid HR
  clear HR
  have hA0 : 0 ≤ (A : Int) := by omega
  have hA8 : (A : Int) < 8 := by omega
  have hB0 : 0 ≤ (B : Int) := by omega
  have hB8 : (B : Int) < 8 := by omega
  have GX := Lib.hid HX
  clear HX
  go_enter Tryz.func45, Tryz.ntmps45
  go_upto_region 1 with fail
  have HF0 := stp_new hK hQ g
  revert HF0
  generalize ((w.alloc (.cells (cellsA g) 36)).alloc (.cells (cellsA zeroG) 36)).alloc (.cells #[.int .i64 0, .int .u32 0] 64) = W
  intro HF0
  have HF := Lib.hid HF0
  clear HF0 hQ hK
  have p8 := HF.out.R.cpc
  have p9 := HF.out.R.cring
  have hl := HF.out.R.load
  have t0 := HF.out.T.c0
  have t1 := HF.out.T.c1
  have tf := HF.out.T.fz
  go_wp2_with fail
  refine (GX.out _ HF.out.Q).mono ?_
  rintro e w2 ⟨rfl, hq2, hu2⟩
  have HF2 := Lib.hid (HF.out.fetched hq2 hu2)
  clear hq2 hu2
  go_upto_region 2 with fail
  have HF3 := HF2.out.keep (w2 := w2.alloc (.cells #[.int .i64 0, .int .u32 0] 64)) ((Below.refl _ _).alloc (Nat.le_refl _) _)
  have hS := slot_of w2 0 0
  have hn7 := HF2.out.T.lt
  revert HF3 hS
  generalize w2.alloc (.cells #[.int .i64 0, .int .u32 0] 64) = W3
  generalize w2.heap.size = n7 at *
  intro HF3' hS
  have HF3 := Lib.hid HF3'
  have u0 := hS.c0
  have u1 := hS.c1
  have HS := Lib.hid hS
  clear HF3' hS HF2
  have GD := Lib.hid HD
  clear HD
  go_wp2_with fail
  refine (GD.out _).mono ?_
  rintro e w4 ⟨rfl, hb4⟩
  have HF4 := Lib.hid (HF3.out.keep hb4)
  clear hb4 HF3
  go_upto_region 5 with fail
  have HF5 := HF4.out.keep (w2 := w4.alloc (.cells #[.int .i64 op, .int .i64 A, .int .i64 B, .int .i64 C] 89)) ((Below.refl _ _).alloc (Nat.le_refl _) _)
  have hI := ins_new w4 op A B C
  have hn8 := HF4.out.T.lt
  clear HF4
  revert HF5 hI
  generalize w4.alloc (.cells #[.int .i64 op, .int .i64 A, .int .i64 B, .int .i64 C] 89) = W5
  generalize w4.heap.size = n8 at *
  intro HF5' hI
  have HF5 := Lib.hid HF5'
  have i0 := hI.c0
  have i1 := hI.c1
  have i2 := hI.c2
  have i3 := hI.c3
  have HI := Lib.hid hI
  clear HF5' hI
  have p85 := HF5.out.R.cpc
  have p95 := HF5.out.R.cring
  have hl5 := HF5.out.R.load
  have t05 := HF5.out.T.c0
  have t15 := HF5.out.T.c1
  have tf5 := HF5.out.T.fz
  go_upto_region 7 with fail
  have hs5 := (row_new W5 zeroG).store g
  go_upto_region 8 with fail
  have H6 := st3_new HF5.out HI.out hn8
  revert H6
  generalize (W5.alloc (.cells (cellsA zeroG) 36)).setRow W5.heap.size (cellsA g) = W6
  generalize W5.heap.size = n10 at *
  intro H6'
  have H6 := Lib.hid H6'
  have x8 := H6'.N.cpc
  have xf := H6'.N.fz
  clear H6' i0 i1 i2 i3 p85 p95 hl5 t05 t15 tf5
  go_upto_region 10 with fail
  have H7 := H6.out.setPc pc4
  revert H7
  generalize W6.setCell ⟨n10, 8, none⟩ (.int .u32 pc4) = W7
  intro H7'
  have H7 := Lib.hid H7'
  clear H7' x8 xf H6
  have p87 := H7.out.S.R.cpc
  have p97 := H7.out.S.R.cring
  have hl7 := H7.out.S.R.load
  have t07 := H7.out.S.T.c0
  have t17 := H7.out.S.T.c1
  have tf7 := H7.out.S.T.fz
  have i0 := H7.out.I.c0
  have i1 := H7.out.I.c1
  have i2 := H7.out.I.c2
  have i3 := H7.out.I.c3
  have xl := H7.out.N.load
  have xf := H7.out.N.fz
  have x8 := H7.out.N.cpc
  have ca := H7.out.S.R.cr hA
  have cb := H7.out.S.R.cr hB
  go_wp2_with fail
  go_quiet (first | (go_at_call 95; refine Calls.quiet_of_same (GR.out _)))
  have H8 := Lib.hid (H7.out.keep (w2 := W7.drewN nq) (below_drewN (Below.refl _ _) nq))
  clear ca cb
  clear p87 p97 hl7 t07 t17 tf7 i0 i1 i2 i3 xl xf x8
  revert H8
  generalize W7.drewN nq = W8
  intro H8
  have p878 := H8.out.S.R.cpc
  have p978 := H8.out.S.R.cring
  have hl78 := H8.out.S.R.load
  have t078 := H8.out.S.T.c0
  have t178 := H8.out.S.T.c1
  have tf78 := H8.out.S.T.fz
  have i08 := H8.out.I.c0
  have i18 := H8.out.I.c1
  have i28 := H8.out.I.c2
  have i38 := H8.out.I.c3
  have xl8 := H8.out.N.load
  have xf8 := H8.out.N.fz
  have x88 := H8.out.N.cpc
  have xa := H8.out.N.cr hA
  go_upto_region 21 with fail
  clear xa
  have HG := Lib.hid (H8.out.setReg hA z)
  have hlN := HG.out.N.load
  have hsr := HG.out.S.Z.store (setR ⟨g.r, pc4, g.ring⟩ A z)
  have HZr := Lib.hid (HG.out.S.outZ (setR ⟨g.r, pc4, g.ring⟩ A z))
  have zfr := HZr.out.T.fz
  have z0r := HZr.out.T.c0
  have z1r := HZr.out.T.c1
  have HO := Lib.hid (HZr.out.outT 0 0)
  go_wp2_with fail
  exact bodyPost_ret (two_results Tryz.results45 rfl rfl HO.out.Z HO.out.T) rfl ⟨rfl, HO.out.off, HO.out.Q⟩
end Go.Proofs.YtnbhohaphmilmaaGreatDoor.CpuLaw
namespace Go.Proofs.YtnbhohaphmilmaaGreatDoor.CpuLaw
open Go.RowKit
set_option linter.unusedVariables false
set_option linter.unusedSimpArgs false
/-- a word of the page of data -/
def wd (d : Nat → Nat) (o : Nat) : Nat := d o + d (o + 1) * 256 + d (o + 2) * 65536 + d (o + 3) * 16777216
/-- the page behind so many bytes of a word -/
def putd (d : Nat → Nat) (o x j : Nat) : Nat → Nat := fun i => if o ≤ i ∧ i < o + j then x / 2 ^ (8 * (i - o)) % 256 else d i
theorem putd_zero (d : Nat → Nat) (o x : Nat) : putd d o x 0 = d := by
  funext i
  exact if_neg (by omega)
theorem putd_succ (d : Nat → Nat) (o x j : Nat) : (fun i => if i = o + j then x / 2 ^ (8 * j) % 256 else putd d o x j i) = putd d o x (j + 1) := by
  funext i
  unfold putd
  by_cases h : i = o + j
  · subst h
    rw [if_pos rfl, if_pos ⟨by omega, by omega⟩, show o + j - o = j by omega]
  · rw [if_neg h]
    by_cases q : o ≤ i ∧ i < o + j
    · rw [if_pos q, if_pos ⟨q.1, by omega⟩]
    · rw [if_neg q, if_neg (by omega)]
theorem putd_lt {d : Nat → Nat} (h : ∀ i, d i < 256) (o x j : Nat) : ∀ i, putd d o x j i < 256 := by
  intro i
  unfold putd
  split
  · exact Nat.mod_lt _ (by decide)
  · exact h i
theorem wd_lt {d : Nat → Nat} (h : ∀ i, d i < 256) (o : Nat) : wd d o < 4294967296 := by
  have := h o; have := h (o + 1); have := h (o + 2); have := h (o + 3)
  unfold wd
  omega
/-- what an instruction makes of registers and page -/
def stI (op : Int) (A B : Nat) (C : Int) (g : G) (d : Nat → Nat) : G × (Nat → Nat) :=
  if op = 2 then (setR ⟨g.r, up g.pc 4, g.ring⟩ A (u32z C), d)
  else if op = 14 then (setR ⟨g.r, up g.pc 4, g.ring⟩ A (up (g.r B) (u32z C)), d)
  else if op = 5 then (setR ⟨g.r, up g.pc 4, g.ring⟩ A (up (g.r A) (g.r B)), d)
  else if op = 7 then (setR ⟨g.r, up g.pc 4, g.ring⟩ A (g.r A * g.r B % 4294967296), d)
  else if op = 11 then (setR ⟨g.r, up g.pc 4, g.ring⟩ A (g.r A ^^^ g.r B), d)
  else if op = 15 then (setR ⟨g.r, up g.pc 4, g.ring⟩ A (wd d (C - 64).toNat), d)
  else if op = 17 then (⟨g.r, up g.pc 4, g.ring⟩, putd d (C - 64).toNat (g.r A) 4)
  else if op = 19 then (⟨g.r, up g.pc (u32z C), g.ring⟩, d)
  else (⟨g.r, up g.pc 4, g.ring⟩, d)
/-- an instruction of such a program -/
structure IOk (op : Int) (A B : Nat) (C : Int) : Prop where
  A8 : A < 8
  B8 : B < 8
  A1 : op ≠ 19 → 1 ≤ A
  ops : op = 2 ∨ op = 14 ∨ op = 5 ∨ op = 7 ∨ op = 11 ∨ op = 15 ∨ op = 17 ∨ op = 19 ∨ op = 21
  dat : op = 15 ∨ op = 17 → B = 0 ∧ ∃ o : Nat, o < 13 ∧ o % 4 = 0 ∧ C = 64 + o
  ls : op = 21 → C = 4
/-- a bus: the words to be executed, and a page of data -/
structure Bus (Qd : (Nat → Nat) → World → Prop) (S : Nat → Prop) (bv : Value) (X : Nat → Nat → Prop) : Prop where
  calm : ∀ d d' w, Qd d w → CalmQ (Qd d') S w.heap.size
  fetch : ∀ d a x, X a x → FetchIs (Qd d) S bv a x
  xlt : ∀ a x, X a x → x < 4294967296
  load : ∀ d (o : Nat), o < 13 → o % 4 = 0 → (∀ k, d k < 256) → ∀ w1, Qd d w1 → Calls Tryz.prog 93 #[bv, .int .u32 (64 + o : Nat), .int .i64 1] w1 fun e w' => e = .returned (.tuple #[.int .u32 (wd d o), trap 0 0]) ∧ Qd d w' ∧ Upd S w1 w'
  store : ∀ d (o x : Nat), o < 13 → o % 4 = 0 → x < 4294967296 → ∀ w1, Qd d w1 → Calls Tryz.prog 184 #[bv, .int .u32 (64 + o : Nat), .int .u32 x] w1 fun e w' => e = .returned (trap 0 0) ∧ Qd (putd d o x 4) w' ∧ Upd S w1 w'
section
variable {w : World} {Qd : (Nat → Nat) → World → Prop} {S : Nat → Prop} {bv : Value} {X : Nat → Nat → Prop} {g : G} {d : Nat → Nat} {x A B : Nat} {op C : Int}
theorem u32z_dat {o : Nat} (h : o < 13) : u32z (64 + (o : Int)) = 64 + o := by unfold u32z; omega
theorem up_dat {o : Nat} (h : o < 13) : up 0 (u32z (64 + (o : Int))) = 64 + o := by rw [u32z_dat h]; unfold up; omega
/-- one step of a program over a bus -/
theorem bstep_is (h : Bus Qd S bv X) (hQ : Qd d w) (hx : X g.pc x) (hd : CodeLaw.decR x = (⟨op, A, B, C⟩, 0)) (hI : IOk op A B C) (h0 : g.r 0 = 0) (hb : ∀ k, d k < 256) (hr : ∀ k, g.r k < 4294967296) :
    Calls Tryz.prog 45 #[.agg (cellsA g), bv] w fun e w' => e = .returned (.tuple #[.agg (cellsA (stI op A B C g d).1), trap 0 0]) ∧ Upd S w w' ∧ Qd (stI op A B C g d).2 w' := by
  have hK := h.calm d d w hQ
  have hX := h.fetch d _ _ hx
  have hD := dec_any (h.xlt _ _ hx) hd
  have hA := hI.A8
  have hB := hI.B8
  have hp := up_u32' g.pc 4
  rcases hI.ops with rfl | rfl | rfl | rfl | rfl | rfl | rfl | rfl | rfl
  · exact step_other2 (t := 0) hK hQ hX hD hA hB hp (fun w1 => other_set hA hB (conv_u32 C))
  · exact step_other14 (t := 0) hK hQ hX hD hA hB hp (fun w1 => other_plus hA hB (conv_u32 C) (up_u32' _ _))
  · exact step_reckon (t := 0) hK hQ hX hD hA hB hp (by decide) (by decide) (by decide) (by decide) (by decide) (by decide) (fun w1 => (reckon_5 (up_u32' _ _)).mono fun e w' q => ⟨q.1, q.2.symm⟩)
  · exact step_reckon (t := 0) hK hQ hX hD hA hB hp (by decide) (by decide) (by decide) (by decide) (by decide) (by decide) (fun w1 => (reckon_7 (mul_u32 rfl)).mono fun e w' q => ⟨q.1, q.2.symm⟩)
  · exact step_reckon (t := 0) hK hQ hX hD hA hB hp (by decide) (by decide) (by decide) (by decide) (by decide) (by decide) (fun w1 => (reckon_11 (xor_u32 (hr A) (hr B) rfl)).mono fun e w' q => ⟨q.1, q.2.symm⟩)
  · obtain ⟨rfl, o, o1, o2, rfl⟩ := hI.dat (.inl rfl)
    have e : (64 + (o : Int) - 64).toNat = o := by omega
    have e2 : stI 15 A 0 (64 + (o : Int)) g d = (setR ⟨g.r, up g.pc 4, g.ring⟩ A (wd d o), d) := by
      show (_, _) = _
      rw [e]
    rw [e2]
    exact step_mem (t := 0) hK hK hQ hX hD hA hB hp (by decide) (by decide) (by decide) (by decide) (by decide) (by decide) (by decide) (by decide) (fun w1 rb hb1 hR hq => mem_load hK hb1 hR hq hA hB (conv_u32 _) (tt := 64 + o) (fun w => by
      have := up_u32' 0 (u32z (64 + (o : Int))) w
      rw [up_dat o1] at this
      show (add33 (.int .u32 (g.r 0 : Nat)) _).run Tryz.prog w = _
      rw [h0]
      exact this) (fun w2 hq2 => h.load d o o1 o2 hb w2 hq2))
  · obtain ⟨rfl, o, o1, o2, rfl⟩ := hI.dat (.inr rfl)
    have e : (64 + (o : Int) - 64).toNat = o := by omega
    have e2 : stI 17 A 0 (64 + (o : Int)) g d = (⟨g.r, up g.pc 4, g.ring⟩, putd d o (g.r A) 4) := by
      show (_, _) = _
      rw [e]
    rw [e2]
    have hK' := h.calm d (putd d o (g.r A) 4) w hQ
    exact step_mem (t := 0) hK hK' hQ hX hD hA hB hp (by decide) (by decide) (by decide) (by decide) (by decide) (by decide) (by decide) (by decide) (fun w1 rb hb1 hR hq => mem_store hK hK' hb1 hR hq hA hB (conv_u32 _) (tt := 64 + o) (fun w => by
      have := up_u32' 0 (u32z (64 + (o : Int))) w
      rw [up_dat o1] at this
      show (add33 (.int .u32 (g.r 0 : Nat)) _).run Tryz.prog w = _
      rw [h0]
      exact this) (fun w2 hq2 _ => h.store d o (g.r A) o1 o2 (hr A) w2 hq2))
  · exact step_jump (t := 0) hK hQ hX hD hA hB hp (by decide) (by decide) (by decide) (by decide) (by decide) (by decide) (by decide) (by decide) (by decide) (by decide) (by decide) (fun w1 rb hR => by
      have := jump_jump hR hA hB (conv_u32 C) (up_u32' g.pc (u32z C))
      exact this)
  · obtain rfl : C = 4 := hI.ls rfl
    refine step_jump (t := 0) hK hQ hX hD hA hB hp (by decide) (by decide) (by decide) (by decide) (by decide) (by decide) (by decide) (by decide) (by decide) (by decide) (by decide) (fun w1 rb hR => ?_)
    by_cases q : g.r A < g.r B
    · have := jump_lessY hR hA hB (conv_u32 4) (up_u32' g.pc 4) q (decide_eq_true q)
      exact this
    · have := jump_lessN (at' := g.pc) hR hA hB (conv_u32 4) (up_u32' g.pc 4) q (decide_eq_false q)
      exact this
end
end Go.Proofs.YtnbhohaphmilmaaGreatDoor.CpuLaw
namespace Go.Proofs.YtnbhohaphmilmaaGreatDoor
set_option linter.unusedSimpArgs false
set_option linter.unusedVariables false
open Go.ChangeShapes Go.WideShapes Go.Deep Go.RowKit

section
variable {H : Type} {enc : TypeId × Value → H} {P : Program} {w : World} {base : Nat} {spare : Nat → Bool} {held : Bool}
theorem open_aggN {r : Reach} {b0 : Nat} {t : TypeId} {fs : Array Field} {v : Value} {d : DataW H} {p : List MemPlace} (hs : P.underlying t = some (.struct fs)) (hone : oneCellFields P fs = true) (hC : P.cellsOf t = fs.size)
    (hv : Value.okWide P w r b0 t v) (h : DataW.Trod enc P w base spare held t v d p) :
    ∃ (cs : Array Value) (n : Nat), v = .agg cs ∧ cs.size = fs.size ∧ ∀ (j : Nat) (f : Field) (x : Value), fs[j]? = some f → cs[j]? = some x → ∃ y, DataW.trod enc P w base spare held n f.type [x] = some y := by
  obtain ⟨cs, rfl, hsz⟩ := okWide_struct hs hv
  obtain ⟨fuel, hf⟩ := h
  obtain ⟨ys, n, _, hy, hlen, hyl, hfld⟩ := DataW.trod_struct hs hf
  refine ⟨cs, n, rfl, hsz.trans hC, fun j f x hj hx => ?_⟩
  obtain ⟨ho, hk⟩ := hone_of hone j f hj
  have hjl : j < fs.size := (Array.getElem?_eq_some_iff.1 hj).1
  have h1 := hfld j f hj
  rw [ho, hk] at h1
  have hcs : (Value.agg cs).cells = cs := rfl
  rw [hcs] at h1
  have hsz' : cs.size = fs.size := hsz.trans hC
  have hxx : cs.toList[j]'(by simp; omega) = x := by
    have := (Array.getElem?_eq_some_iff.1 hx).2
    simpa using this
  have hone' : (cs.toList.drop j).take 1 = [x] := by
    rw [List.drop_eq_getElem_cons (by simp; omega), hxx]
    rfl
  rw [hone'] at h1
  have hys : ys[j]? = some (ys[j]'(by omega)) := List.getElem?_eq_getElem (by omega)
  exact ⟨_, h1.trans hys⟩

theorem array5 {α : Type} {cs : Array α} (h : cs.size = 5) : ∃ c0 c1 c2 c3 c4, cs = #[c0, c1, c2, c3, c4] := by
  obtain ⟨l⟩ := cs
  match l, h with
  | [c0, c1, c2, c3, c4], _ => exact ⟨c0, c1, c2, c3, c4, rfl⟩
theorem array6 {α : Type} {cs : Array α} (h : cs.size = 6) : ∃ c0 c1 c2 c3 c4 c5, cs = #[c0, c1, c2, c3, c4, c5] := by
  obtain ⟨l⟩ := cs
  match l, h with
  | [c0, c1, c2, c3, c4, c5], _ => exact ⟨c0, c1, c2, c3, c4, c5, rfl⟩

/-- a field that is an int -/
theorem fld_int {t : TypeId} {n : Nat} {x : Value} {y : DataW H × List MemPlace} (ht : P.underlying t = some (.int .i64)) (h : DataW.trod enc P w base spare held n t [x] = some y) : ∃ z : Int, x = .int .i64 z ∧ -9223372036854775808 ≤ z ∧ z ≤ 9223372036854775807 := by
  obtain ⟨z, hz, _, hw⟩ := DataW.trod_int ht h
  exact ⟨z, by simpa using hz, bounds_i64 hw⟩
/-- a field that is a slice of ints -/
theorem fld_ints {t e : TypeId} {n : Nat} {v : Value} {y : DataW H × List MemPlace} (ht : P.underlying t = some (.slice e)) (he : P.underlying e = some (.int .i64)) (hc : P.cellsOf e = 1)
    (h : DataW.trod enc P w base (fun _ => true) held n t [v] = some y) : ∃ xs : List Int, At (Value.int .i64) 0 w v xs ∧ ∀ x ∈ xs, -9223372036854775808 ≤ x ∧ x ≤ 9223372036854775807 := by
  rcases open_slice1 ht hc h with ⟨hcs, _⟩ | ⟨a, len, cap, m, n, V, D, Pl, hcs, hb, hl, hm, hmm, hx, hi⟩
  · simp at hcs
    subst hcs
    exact ⟨[], ⟨none, 0, rfl, Nat.le_refl _, Nat.zero_le _, .inl rfl⟩, by simp⟩
  · simp at hcs
    subst hcs
    have hmc : m = cap := by simpa using hmm
    obtain ⟨g, hg⟩ := choose_lt (α := Int) (n := len) (p := fun i x => V i = .int .i64 x ∧ -9223372036854775808 ≤ x ∧ x ≤ 9223372036854775807) (fun i hil => by
      obtain ⟨z, hz, _, hw⟩ := DataW.trod_int he (hi i (by omega)).2
      exact ⟨z, by simpa using hz, bounds_i64 hw⟩)
    refine ⟨(List.range len).map g, ⟨some a, cap, by simp, by simpa using hl, hm, ?_⟩, ?_⟩
    · by_cases h0 : len = 0
      · subst h0; exact .inl rfl
      · obtain ⟨b, off, spot⟩ := a
        have hc0 := (hi 0 (by omega)).1
        have hspot : spot = none := by simpa [Addr.add] using World.cell?_spot hc0
        subst hspot
        refine .inr ⟨b, off, rfl, ?_, fun i hil => ?_⟩
        · have := World.block_lt_of_cell? w _ hc0
          rw [Addr.add_lit] at this
          exact this
        · have hil' : i < len := by simpa using hil
          have := (hi i (by omega)).1
          rw [Addr.add_lit, (hg i hil').1] at this
          simpa [List.getD, hil'] using this
    · intro x hx
      obtain ⟨i, hir, rfl⟩ := List.mem_map.1 hx
      exact (hg i (by simpa using hir)).2
end
end Go.Proofs.YtnbhohaphmilmaaGreatDoor
namespace Go.Proofs.YtnbhohaphmilmaaGreatDoor
open Go.RowKit Go.Deep
set_option linter.unusedVariables false
set_option linter.unusedSimpArgs false
/-- the eight instructions that numbers choose from -/
def eight (a b q o : Int) : List CodeLaw.Ins := [⟨2, a, 0, q⟩, ⟨14, a, b, 3⟩, ⟨5, a, b, 0⟩, ⟨7, a, b, 0⟩, ⟨11, a, b, 0⟩, ⟨15, a, 0, o⟩, ⟨17, a, 0, o⟩, ⟨21, a, b, 4⟩]
def BodyOk (x : CodeLaw.Ins) : Prop := ∃ (a b o : Nat) (q : Int), 1 ≤ a ∧ a ≤ 7 ∧ 1 ≤ b ∧ b ≤ 7 ∧ -500 ≤ q ∧ q < 500 ∧ o < 13 ∧ o % 4 = 0 ∧ x ∈ eight a b q (64 + (o : Int))
/-- a program: it goes round -/
structure PrgOk (l : List CodeLaw.Ins) : Prop where
  fm : ∃ body, l = body ++ [⟨19, 0, 0, -4 * (body.length : Int)⟩] ∧ body.length ≤ 15 ∧ ∀ x ∈ body, BodyOk x
/-- what an instruction is -/
structure InsOk (x : CodeLaw.Ins) (A B : Nat) : Prop where
  ea : x.a = A
  eb : x.b = B
  ok : CpuLaw.IOk x.op A B x.c
  enc : (CodeLaw.encI x).2 = 0
theorem enc_ok {op a b c : Int} (h : 1 ≤ op ∧ op ≤ 26) (hi : CodeLaw.inF a b c) (hf : CodeLaw.okF (CodeLaw.fldS op) a b c = true) : (CodeLaw.encI ⟨op, a, b, c⟩).2 = 0 := by
  unfold CodeLaw.encI
  rw [CodeLaw.encR_ok h hi hf]
theorem okF7 (a b c : Int) : CodeLaw.okF 7 a b c = true := by
  have e1 : (bits .and .i64 7 1 == 0) = false := by decide
  have e2 : (bits .and .i64 7 2 == 0) = false := by decide
  have e4 : (bits .and .i64 7 4 == 0) = false := by decide
  unfold CodeLaw.okF
  rw [e1, e2, e4]
  rfl
theorem okF3 (a b : Int) : CodeLaw.okF 3 a b 0 = true := by
  have e1 : (bits .and .i64 3 1 == 0) = false := by decide
  have e2 : (bits .and .i64 3 2 == 0) = false := by decide
  unfold CodeLaw.okF
  rw [e1, e2]
  simp
theorem okF5 (a c : Int) : CodeLaw.okF 5 a 0 c = true := by
  have e1 : (bits .and .i64 5 1 == 0) = false := by decide
  have e4 : (bits .and .i64 5 4 == 0) = false := by decide
  unfold CodeLaw.okF
  rw [e1, e4]
  simp
theorem okF4 (c : Int) : CodeLaw.okF 4 0 0 c = true := by
  have e4 : (bits .and .i64 4 4 == 0) = false := by decide
  unfold CodeLaw.okF
  rw [e4]
  simp
theorem fld_of {op f : Int} (h : CodeLaw.fldS op = f) {a b c : Int} (hf : CodeLaw.okF f a b c = true) : CodeLaw.okF (CodeLaw.fldS op) a b c = true := by rw [h]; exact hf
theorem BodyOk.ins {x : CodeLaw.Ins} (h : BodyOk x) : (∃ A B, InsOk x A B) ∧ x.op ≠ 19 := by
  obtain ⟨a, b, o, q, a1, a7, b1, b7, q0, q5, o13, o4, hx⟩ := h
  have iF : ∀ (b' : Nat) (c : Int), b' ≤ 7 → -500 ≤ c → c < 1000 → CodeLaw.inF (a : Int) (b' : Int) c := fun b' c h1 h2 h3 => ⟨by omega, by omega, by omega, by omega, by omega, by omega⟩
  unfold eight at hx
  simp only [List.mem_cons, List.not_mem_nil, or_false] at hx
  rcases hx with rfl | rfl | rfl | rfl | rfl | rfl | rfl | rfl
  · exact ⟨⟨a, 0, rfl, rfl, ⟨by omega, by omega, fun _ => a1, by simp, by simp, by simp⟩, enc_ok (by decide) (iF 0 q (by omega) q0 (by omega)) (fld_of (f := 5) (by decide +kernel) (okF5 _ _))⟩, by simp⟩
  · exact ⟨⟨a, b, rfl, rfl, ⟨by omega, by omega, fun _ => a1, by simp, by simp, by simp⟩, enc_ok (by decide) (iF b 3 b7 (by omega) (by omega)) (fld_of (f := 7) (by decide +kernel) (okF7 _ _ _))⟩, by simp⟩
  · exact ⟨⟨a, b, rfl, rfl, ⟨by omega, by omega, fun _ => a1, by simp, by simp, by simp⟩, enc_ok (by decide) (iF b 0 b7 (by omega) (by omega)) (fld_of (f := 3) (by decide +kernel) (okF3 _ _))⟩, by simp⟩
  · exact ⟨⟨a, b, rfl, rfl, ⟨by omega, by omega, fun _ => a1, by simp, by simp, by simp⟩, enc_ok (by decide) (iF b 0 b7 (by omega) (by omega)) (fld_of (f := 3) (by decide +kernel) (okF3 _ _))⟩, by simp⟩
  · exact ⟨⟨a, b, rfl, rfl, ⟨by omega, by omega, fun _ => a1, by simp, by simp, by simp⟩, enc_ok (by decide) (iF b 0 b7 (by omega) (by omega)) (fld_of (f := 3) (by decide +kernel) (okF3 _ _))⟩, by simp⟩
  · exact ⟨⟨a, 0, rfl, rfl, ⟨by omega, by omega, fun _ => a1, by simp, fun _ => ⟨rfl, o, o13, o4, rfl⟩, by simp⟩, enc_ok (by decide) (iF 0 _ (by omega) (by omega) (by omega)) (fld_of (f := 7) (by decide +kernel) (okF7 _ _ _))⟩, by simp⟩
  · exact ⟨⟨a, 0, rfl, rfl, ⟨by omega, by omega, fun _ => a1, by simp, fun _ => ⟨rfl, o, o13, o4, rfl⟩, by simp⟩, enc_ok (by decide) (iF 0 _ (by omega) (by omega) (by omega)) (fld_of (f := 7) (by decide +kernel) (okF7 _ _ _))⟩, by simp⟩
  · exact ⟨⟨a, b, rfl, rfl, ⟨by omega, by omega, fun _ => a1, by simp, by simp, fun _ => rfl⟩, enc_ok (by decide) (iF b 4 b7 (by omega) (by omega)) (fld_of (f := 7) (by decide +kernel) (okF7 _ _ _))⟩, by simp⟩
section
variable {l : List CodeLaw.Ins}
theorem PrgOk.len (h : PrgOk l) : 0 < l.length ∧ l.length ≤ 16 := by
  obtain ⟨body, rfl, h1, -⟩ := h.fm
  simp
  omega
/-- an instruction, and what is next -/
theorem PrgOk.at (h : PrgOk l) {i : Nat} {x : CodeLaw.Ins} (hx : l[i]? = some x) : ∃ A B, InsOk x A B ∧ ((x.op = 19 ∧ x.c = -4 * (i : Int)) ∨ (x.op ≠ 19 ∧ i + 1 < l.length)) := by
  obtain ⟨body, rfl, h1, h2⟩ := h.fm
  rcases Nat.lt_or_ge i body.length with q | q
  · rw [List.getElem?_append_left q] at hx
    obtain ⟨⟨A, B, hi⟩, hn⟩ := (h2 x (List.mem_of_getElem? hx)).ins
    exact ⟨A, B, hi, .inr ⟨hn, by simp; omega⟩⟩
  · rw [List.getElem?_append_right q] at hx
    have e : i - body.length = 0 := by
      rcases Nat.eq_zero_or_pos (i - body.length) with e | e
      · exact e
      · rw [List.getElem?_eq_none (by simp; omega)] at hx; cases hx
    rw [e] at hx
    injection hx with hx
    subst hx
    have ei : i = body.length := by omega
    subst ei
    exact ⟨0, 0, ⟨rfl, rfl, ⟨by decide, by decide, fun h => absurd rfl h, by simp, by simp, by simp⟩, enc_ok (by decide) ⟨by decide, by decide, by decide, by decide, by omega, by omega⟩ (fld_of (f := 4) (by decide +kernel) (okF4 _))⟩, .inl ⟨rfl, rfl⟩⟩
theorem PrgOk.encs (h : PrgOk l) : EncOk l := fun i x hx => by
  obtain ⟨A, B, hi, -⟩ := h.at hx
  exact ⟨hi.enc, (CodeLaw.back hi.enc).1.1, (CodeLaw.back hi.enc).1.2⟩
theorem loop_prg : EncOk loopL := fun i x hx => by
  match i, hx with
  | 0, hx => injection hx with hx; subst hx; decide +kernel
  | 1, hx => injection hx with hx; subst hx; decide +kernel
end
/-- how a process stands: its registers, its page of data -/
structure PS where
  g : CpuLaw.G
  d : Nat → Nat
/-- one step -/
def stP (l : List CodeLaw.Ins) (s : PS) : PS := match l[s.g.pc / 4]? with
  | none => s
  | some x => ⟨(CpuLaw.stI x.op x.a.toNat x.b.toNat x.c s.g s.d).1, (CpuLaw.stI x.op x.a.toNat x.b.toNat x.c s.g s.d).2⟩
def runP (l : List CodeLaw.Ins) : Nat → PS
  | 0 => ⟨⟨fun _ => 0, 0, 1⟩, fun _ => 0⟩
  | n + 1 => stP l (runP l n)
/-- a state within a program -/
structure PsOk (l : List CodeLaw.Ins) (s : PS) : Prop where
  pc4 : s.g.pc % 4 = 0
  lt : s.g.pc / 4 < l.length
  r0 : s.g.r 0 = 0
  rl : ∀ k, s.g.r k < 4294967296
  dl : ∀ k, s.d k < 256
/-- programs: any, or the one that goes round -/
structure PrgA (l : List CodeLaw.Ins) : Prop where
  len : 0 < l.length ∧ l.length ≤ 16
  at' : ∀ (i : Nat) (x : CodeLaw.Ins), l[i]? = some x → ∃ A B, InsOk x A B ∧ ((x.op = 19 ∧ x.c = -4 * (i : Int)) ∨ (x.op ≠ 19 ∧ i + 1 < l.length))
theorem PrgOk.any {l : List CodeLaw.Ins} (h : PrgOk l) : PrgA l := ⟨h.len, fun i x hx => h.at hx⟩
theorem loop_any : PrgA loopL := ⟨by decide, fun i x hx => by
  match i, hx with
  | 0, hx =>
    injection hx with hx
    subst hx
    exact ⟨1, 1, ⟨rfl, rfl, ⟨by decide, by decide, by decide, by decide, by decide, by decide⟩, (loop_prg 0 _ rfl).1⟩, .inr ⟨by decide, by decide⟩⟩
  | 1, hx =>
    injection hx with hx
    subst hx
    exact ⟨0, 0, ⟨rfl, rfl, ⟨by decide, by decide, by decide, by decide, by decide, by decide⟩, (loop_prg 1 _ rfl).1⟩, .inl ⟨rfl, by decide⟩⟩⟩
theorem PrgA.encs {l : List CodeLaw.Ins} (h : PrgA l) : EncOk l := fun i x hx => by
  obtain ⟨A, B, hi, -⟩ := h.at' i x hx
  exact ⟨hi.enc, (CodeLaw.back hi.enc).1.1, (CodeLaw.back hi.enc).1.2⟩
section
variable {l : List CodeLaw.Ins} {s : PS}
theorem stI_pc {op : Int} {A B : Nat} {C : Int} {g : CpuLaw.G} {d : Nat → Nat} : (CpuLaw.stI op A B C g d).1.pc = if op = 19 then CpuLaw.up g.pc (CpuLaw.u32z C) else CpuLaw.up g.pc 4 := by
  unfold CpuLaw.stI
  split
  · rename_i h; subst h; rfl
  split
  · rename_i h; subst h; rfl
  split
  · rename_i h; subst h; rfl
  split
  · rename_i h; subst h; rfl
  split
  · rename_i h; subst h; rfl
  split
  · rename_i h; subst h; rfl
  split
  · rename_i h; subst h; rfl
  split
  · rfl
  · rfl
theorem setR_off {g : CpuLaw.G} {k x j : Nat} (h : j ≠ k) : (CpuLaw.setR g k x).r j = g.r j := if_neg h
theorem stI_reg {op : Int} {A B : Nat} {C : Int} {g : CpuLaw.G} {d : Nat → Nat} (hr : ∀ k, g.r k < 4294967296) (hd : ∀ k, d k < 256) : (op ≠ 19 → 1 ≤ A) → ((CpuLaw.stI op A B C g d).1.r 0 = g.r 0) ∧ (∀ k, (CpuLaw.stI op A B C g d).1.r k < 4294967296) ∧ (∀ k, (CpuLaw.stI op A B C g d).2 k < 256) := by
  intro hA
  have hs : ∀ (x : Nat), x < 4294967296 → ∀ k, (CpuLaw.setR ⟨g.r, CpuLaw.up g.pc 4, g.ring⟩ A x).r k < 4294967296 := fun x hx k => by
    show (if k = A then x else g.r k) < _
    split
    · exact hx
    · exact hr k
  have h0 : 1 ≤ A → ∀ x, (CpuLaw.setR ⟨g.r, CpuLaw.up g.pc 4, g.ring⟩ A x).r 0 = g.r 0 := fun h x => if_neg (by omega)
  unfold CpuLaw.stI
  split
  · rename_i h; subst h; exact ⟨h0 (hA (by decide)) _, hs _ (by unfold CpuLaw.u32z; omega), hd⟩
  split
  · rename_i h; subst h; exact ⟨h0 (hA (by decide)) _, hs _ (CpuLaw.up_lt _ _), hd⟩
  split
  · rename_i h; subst h; exact ⟨h0 (hA (by decide)) _, hs _ (CpuLaw.up_lt _ _), hd⟩
  split
  · rename_i h; subst h; exact ⟨h0 (hA (by decide)) _, hs _ (Nat.mod_lt _ (by decide)), hd⟩
  split
  · rename_i h; subst h; exact ⟨h0 (hA (by decide)) _, hs _ (Nat.xor_lt_two_pow (n := 32) (hr A) (hr B)), hd⟩
  split
  · rename_i h; subst h; exact ⟨h0 (hA (by decide)) _, hs _ (CpuLaw.wd_lt hd _), hd⟩
  split
  · exact ⟨rfl, hr, CpuLaw.putd_lt hd _ _ _⟩
  split
  · exact ⟨rfl, hr, hd⟩
  · exact ⟨rfl, hr, hd⟩
theorem PsOk.step (h : PsOk l s) (hl : PrgA l) : PsOk l (stP l s) := by
  obtain ⟨x, hx⟩ : ∃ x, l[s.g.pc / 4]? = some x := ⟨_, List.getElem?_eq_getElem h.lt⟩
  obtain ⟨A, B, hi, hn⟩ := hl.at' _ x hx
  have ea : x.a.toNat = A := by rw [hi.ea]; omega
  have eb : x.b.toNat = B := by rw [hi.eb]; omega
  have e : stP l s = ⟨(CpuLaw.stI x.op A B x.c s.g s.d).1, (CpuLaw.stI x.op A B x.c s.g s.d).2⟩ := by
    unfold stP
    rw [hx]
    show (⟨(CpuLaw.stI x.op x.a.toNat x.b.toNat x.c s.g s.d).1, (CpuLaw.stI x.op x.a.toNat x.b.toNat x.c s.g s.d).2⟩ : PS) = _
    rw [ea, eb]
  rw [e]
  obtain ⟨q0, q1, q2⟩ := stI_reg (op := x.op) (A := A) (B := B) (C := x.c) h.rl h.dl hi.ok.A1
  have hpc := stI_pc (op := x.op) (A := A) (B := B) (C := x.c) (g := s.g) (d := s.d)
  have l16 := hl.len.2
  have h4 := h.pc4
  have hlt := h.lt
  have hpc2 : (CpuLaw.stI x.op A B x.c s.g s.d).1.pc = if x.op = 19 then 0 else s.g.pc + 4 := by
    rw [hpc]
    rcases hn with ⟨e1, e2⟩ | ⟨e1, e2⟩
    · rw [if_pos e1, if_pos e1, e2]
      unfold CpuLaw.up CpuLaw.u32z
      omega
    · rw [if_neg e1, if_neg e1]
      unfold CpuLaw.up
      omega
  refine ⟨?_, ?_, q0.trans h.r0, q1, q2⟩
  · show (CpuLaw.stI x.op A B x.c s.g s.d).1.pc % 4 = 0
    rw [hpc2]
    split <;> omega
  · show (CpuLaw.stI x.op A B x.c s.g s.d).1.pc / 4 < l.length
    rw [hpc2]
    rcases hn with ⟨e1, e2⟩ | ⟨e1, e2⟩
    · rw [if_pos e1]; have := hl.len.1; omega
    · rw [if_neg e1]; omega
theorem runP_ok (hl : PrgA l) : ∀ n, PsOk l (runP l n)
  | 0 => ⟨rfl, (by show 0 / 4 < l.length; exact hl.len.1), rfl, fun _ => by show 0 < _; decide, fun _ => by show 0 < _; decide⟩
  | n + 1 => (runP_ok hl n).step hl
end
end Go.Proofs.YtnbhohaphmilmaaGreatDoor
