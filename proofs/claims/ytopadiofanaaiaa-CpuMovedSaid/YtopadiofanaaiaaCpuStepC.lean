/- The walk of cpu.Step: what is reckoned. -/
import Derived.Test.YtopadiofanaaiaaCpuStepB
namespace Go.Proofs.Ytopadiofanaaiaa.CpuLaw
open Go.RowKit
set_option linter.unusedVariables false
set_option linter.unusedSimpArgs false
attribute [local go_sem ↓] sub33_eq add33_eq or33_eq shl33_eq shr33_eq mul33_eq quo33_eq and33_eq xor33_eq narrow_eq wideB_eq conv33_eq conv83_eq conv8333_eq load61_eq store61_eq zero61 cells61
set_option maxRecDepth 100000 in
set_option maxHeartbeats 2000000 in
theorem step_reckon {w : World} {g : G} {m m' : M} {b c x A B pc4 z : Nat} {t : Int} (hQ : Room w b c m) (HX : FetchIs b c m g.pc x 0 0) {op C : Int} (HD : DecIs x op A B C 0) (hA : A < 8) (hB : B < 8) (hP : ∀ w, (add33 (.int .u32 g.pc) (.int .u32 4)).run Try.prog w = .ok (.int .u32 pc4) w) (n1 : (op == 1) = false) (n26 : (op == 26) = false) (o1 : 5 ≤ op) (o2 : op ≤ 13) (o3 : decide (5 ≤ op) = true) (o4 : decide (op ≤ 13) = true) (HR : ∀ w1, Calls Try.prog 39 #[.int .i64 op, .int .u32 (g.r A), .int .u32 (g.r B)] w1 fun e w' => e = .returned (.tuple #[.int .u32 z, .bool true]) ∧ w' = w1)
    : Calls Try.prog 28 #[.agg (cellsA g), bus b] w fun e w' => e = .returned (.tuple #[.agg (cellsA (setR ⟨g.r, pc4, g.ring⟩ A z)), trap 0 0]) ∧ Off c w w' ∧ Room w' b c (m) := by
  have GR := Lib.hid HR
  clear HR
  have hA0 : 0 ≤ (A : Int) := by omega
  have hA8 : (A : Int) < 8 := by omega
  have hB0 : 0 ≤ (B : Int) := by omega
  have hB8 : (B : Int) < 8 := by omega
  have GX := Lib.hid HX
  clear HX
  go_enter Try.func28, Try.ntmps28
  go_upto_region 1 with fail
  have HF0 := stp_new hQ g
  revert HF0
  generalize ((w.alloc (.cells (cellsA g) 61)).alloc (.cells (cellsA zeroG) 61)).alloc (.cells #[.int .i64 0, .int .u32 0] 63) = W
  intro HF0
  have HF := Lib.hid HF0
  clear HF0 hQ
  have p8 := HF.out.R.cpc
  have p9 := HF.out.R.cring
  have hl := HF.out.R.load
  have t0 := HF.out.T.c0
  have t1 := HF.out.T.c1
  have tf := HF.out.T.fz
  go_wp2_with fail
  refine (GX.out _ HF.out.Q).mono ?_
  rintro e w2 ⟨rfl, hb2⟩
  have HF2 := Lib.hid (HF.out.keep hb2)
  clear hb2
  go_upto_region 2 with fail
  have HF3 := HF2.out.keep (w2 := w2.alloc (.cells #[.int .i64 0, .int .u32 0] 63)) ((Below.refl _ _).alloc (Nat.le_refl _) _)
  have hS := slot_of w2 0 0
  have hn7 := HF2.out.T.lt
  revert HF3 hS
  generalize w2.alloc (.cells #[.int .i64 0, .int .u32 0] 63) = W3
  generalize w2.heap.size = n7 at *
  intro HF3' hS
  have HF3 := Lib.hid HF3'
  have u0 := hS.c0
  have u1 := hS.c1
  have HS := Lib.hid hS
  clear HF3' hS HF2
  have GD := Lib.hid HD
  clear HD
  go_wp2_with fail
  refine (GD.out _).mono ?_
  rintro e w4 ⟨rfl, hb4⟩
  have HF4 := Lib.hid (HF3.out.keep hb4)
  clear hb4 HF3
  go_upto_region 5 with fail
  have HF5 := HF4.out.keep (w2 := w4.alloc (.cells #[.int .i64 op, .int .i64 A, .int .i64 B, .int .i64 C] 51)) ((Below.refl _ _).alloc (Nat.le_refl _) _)
  have hI := ins_new w4 op A B C
  have hn8 := HF4.out.T.lt
  clear HF4
  revert HF5 hI
  generalize w4.alloc (.cells #[.int .i64 op, .int .i64 A, .int .i64 B, .int .i64 C] 51) = W5
  generalize w4.heap.size = n8 at *
  intro HF5' hI
  have HF5 := Lib.hid HF5'
  have i0 := hI.c0
  have i1 := hI.c1
  have i2 := hI.c2
  have i3 := hI.c3
  have HI := Lib.hid hI
  clear HF5' hI
  have p85 := HF5.out.R.cpc
  have p95 := HF5.out.R.cring
  have hl5 := HF5.out.R.load
  have t05 := HF5.out.T.c0
  have t15 := HF5.out.T.c1
  have tf5 := HF5.out.T.fz
  go_upto_region 7 with fail
  have hs5 := (row_new W5 zeroG).store g
  go_upto_region 8 with fail
  have H6 := st3_new HF5.out HI.out hn8
  revert H6
  generalize (W5.alloc (.cells (cellsA zeroG) 61)).setRow W5.heap.size (cellsA g) = W6
  generalize W5.heap.size = n10 at *
  intro H6'
  have H6 := Lib.hid H6'
  have x8 := H6'.N.cpc
  have xf := H6'.N.fz
  clear H6' i0 i1 i2 i3 p85 p95 hl5 t05 t15 tf5
  go_upto_region 10 with fail
  have H7 := H6.out.setPc pc4
  revert H7
  generalize W6.setCell ⟨n10, 8, none⟩ (.int .u32 pc4) = W7
  intro H7'
  have H7 := Lib.hid H7'
  clear H7' x8 xf H6
  have p87 := H7.out.S.R.cpc
  have p97 := H7.out.S.R.cring
  have hl7 := H7.out.S.R.load
  have t07 := H7.out.S.T.c0
  have t17 := H7.out.S.T.c1
  have tf7 := H7.out.S.T.fz
  have i0 := H7.out.I.c0
  have i1 := H7.out.I.c1
  have i2 := H7.out.I.c2
  have i3 := H7.out.I.c3
  have xl := H7.out.N.load
  have xf := H7.out.N.fz
  have x8 := H7.out.N.cpc
  have ca := H7.out.S.R.cr hA
  have cb := H7.out.S.R.cr hB
  go_wp2_with fail
  go_quiet (first | (go_at_call 39; refine Calls.quiet_of_same (GR.out _)))
  have H8 := Lib.hid (H7.out.keep (w2 := W7.drewN nq) (below_drewN (Below.refl _ _) nq))
  clear ca cb
  clear p87 p97 hl7 t07 t17 tf7 i0 i1 i2 i3 xl xf x8
  revert H8
  generalize W7.drewN nq = W8
  intro H8
  have p878 := H8.out.S.R.cpc
  have p978 := H8.out.S.R.cring
  have hl78 := H8.out.S.R.load
  have t078 := H8.out.S.T.c0
  have t178 := H8.out.S.T.c1
  have tf78 := H8.out.S.T.fz
  have i08 := H8.out.I.c0
  have i18 := H8.out.I.c1
  have i28 := H8.out.I.c2
  have i38 := H8.out.I.c3
  have xl8 := H8.out.N.load
  have xf8 := H8.out.N.fz
  have x88 := H8.out.N.cpc
  have xa := H8.out.N.cr hA
  go_upto_region 21 with fail
  clear xa
  have HG := Lib.hid (H8.out.setReg hA z)
  have hlN := HG.out.N.load
  have hsr := HG.out.S.Z.store (setR ⟨g.r, pc4, g.ring⟩ A z)
  have HZr := Lib.hid (HG.out.S.outZ (setR ⟨g.r, pc4, g.ring⟩ A z))
  have zfr := HZr.out.T.fz
  have z0r := HZr.out.T.c0
  have z1r := HZr.out.T.c1
  have HO := Lib.hid (HZr.out.outT 0 0)
  go_wp2_with fail
  exact bodyPost_ret (two_results Try.results28 rfl rfl HO.out.Z HO.out.T) rfl ⟨rfl, HO.out.off, HO.out.Q⟩
set_option maxRecDepth 100000 in
set_option maxHeartbeats 2000000 in
theorem step_zero {w : World} {g : G} {m m' : M} {b c x A B pc4 : Nat} {t : Int} (hQ : Room w b c m) (HX : FetchIs b c m g.pc x 0 0) {op C : Int} (HD : DecIs x op A B C 0) (hA : A < 8) (hB : B < 8) (hP : ∀ w, (add33 (.int .u32 g.pc) (.int .u32 4)).run Try.prog w = .ok (.int .u32 pc4) w) (n1 : (op == 1) = false) (n26 : (op == 26) = false) (o1 : 5 ≤ op) (o2 : op ≤ 13) (o3 : decide (5 ≤ op) = true) (o4 : decide (op ≤ 13) = true) (HR : ∀ w1, Calls Try.prog 39 #[.int .i64 op, .int .u32 (g.r A), .int .u32 (g.r B)] w1 fun e w' => e = .returned (.tuple #[.int .u32 0, .bool false]) ∧ w' = w1)
    : Calls Try.prog 28 #[.agg (cellsA g), bus b] w fun e w' => e = .returned (.tuple #[.agg (cellsA (g)), trap 4 0]) ∧ Off c w w' ∧ Room w' b c (m) := by
  have GR := Lib.hid HR
  clear HR
  have hA0 : 0 ≤ (A : Int) := by omega
  have hA8 : (A : Int) < 8 := by omega
  have hB0 : 0 ≤ (B : Int) := by omega
  have hB8 : (B : Int) < 8 := by omega
  have GX := Lib.hid HX
  clear HX
  go_enter Try.func28, Try.ntmps28
  go_upto_region 1 with fail
  have HF0 := stp_new hQ g
  revert HF0
  generalize ((w.alloc (.cells (cellsA g) 61)).alloc (.cells (cellsA zeroG) 61)).alloc (.cells #[.int .i64 0, .int .u32 0] 63) = W
  intro HF0
  have HF := Lib.hid HF0
  clear HF0 hQ
  have p8 := HF.out.R.cpc
  have p9 := HF.out.R.cring
  have hl := HF.out.R.load
  have t0 := HF.out.T.c0
  have t1 := HF.out.T.c1
  have tf := HF.out.T.fz
  go_wp2_with fail
  refine (GX.out _ HF.out.Q).mono ?_
  rintro e w2 ⟨rfl, hb2⟩
  have HF2 := Lib.hid (HF.out.keep hb2)
  clear hb2
  go_upto_region 2 with fail
  have HF3 := HF2.out.keep (w2 := w2.alloc (.cells #[.int .i64 0, .int .u32 0] 63)) ((Below.refl _ _).alloc (Nat.le_refl _) _)
  have hS := slot_of w2 0 0
  have hn7 := HF2.out.T.lt
  revert HF3 hS
  generalize w2.alloc (.cells #[.int .i64 0, .int .u32 0] 63) = W3
  generalize w2.heap.size = n7 at *
  intro HF3' hS
  have HF3 := Lib.hid HF3'
  have u0 := hS.c0
  have u1 := hS.c1
  have HS := Lib.hid hS
  clear HF3' hS HF2
  have GD := Lib.hid HD
  clear HD
  go_wp2_with fail
  refine (GD.out _).mono ?_
  rintro e w4 ⟨rfl, hb4⟩
  have HF4 := Lib.hid (HF3.out.keep hb4)
  clear hb4 HF3
  go_upto_region 5 with fail
  have HF5 := HF4.out.keep (w2 := w4.alloc (.cells #[.int .i64 op, .int .i64 A, .int .i64 B, .int .i64 C] 51)) ((Below.refl _ _).alloc (Nat.le_refl _) _)
  have hI := ins_new w4 op A B C
  have hn8 := HF4.out.T.lt
  clear HF4
  revert HF5 hI
  generalize w4.alloc (.cells #[.int .i64 op, .int .i64 A, .int .i64 B, .int .i64 C] 51) = W5
  generalize w4.heap.size = n8 at *
  intro HF5' hI
  have HF5 := Lib.hid HF5'
  have i0 := hI.c0
  have i1 := hI.c1
  have i2 := hI.c2
  have i3 := hI.c3
  have HI := Lib.hid hI
  clear HF5' hI
  have p85 := HF5.out.R.cpc
  have p95 := HF5.out.R.cring
  have hl5 := HF5.out.R.load
  have t05 := HF5.out.T.c0
  have t15 := HF5.out.T.c1
  have tf5 := HF5.out.T.fz
  go_upto_region 7 with fail
  have hs5 := (row_new W5 zeroG).store g
  go_upto_region 8 with fail
  have H6 := st3_new HF5.out HI.out hn8
  revert H6
  generalize (W5.alloc (.cells (cellsA zeroG) 61)).setRow W5.heap.size (cellsA g) = W6
  generalize W5.heap.size = n10 at *
  intro H6'
  have H6 := Lib.hid H6'
  have x8 := H6'.N.cpc
  have xf := H6'.N.fz
  clear H6' i0 i1 i2 i3 p85 p95 hl5 t05 t15 tf5
  go_upto_region 10 with fail
  have H7 := H6.out.setPc pc4
  revert H7
  generalize W6.setCell ⟨n10, 8, none⟩ (.int .u32 pc4) = W7
  intro H7'
  have H7 := Lib.hid H7'
  clear H7' x8 xf H6
  have p87 := H7.out.S.R.cpc
  have p97 := H7.out.S.R.cring
  have hl7 := H7.out.S.R.load
  have t07 := H7.out.S.T.c0
  have t17 := H7.out.S.T.c1
  have tf7 := H7.out.S.T.fz
  have i0 := H7.out.I.c0
  have i1 := H7.out.I.c1
  have i2 := H7.out.I.c2
  have i3 := H7.out.I.c3
  have xl := H7.out.N.load
  have xf := H7.out.N.fz
  have x8 := H7.out.N.cpc
  have ca := H7.out.S.R.cr hA
  have cb := H7.out.S.R.cr hB
  go_wp2_with fail
  go_quiet (first | (go_at_call 39; refine Calls.quiet_of_same (GR.out _)))
  have H8 := Lib.hid (H7.out.keep (w2 := W7.drewN nq) (below_drewN (Below.refl _ _) nq))
  clear ca cb
  clear p87 p97 hl7 t07 t17 tf7 i0 i1 i2 i3 xl xf x8
  revert H8
  generalize W7.drewN nq = W8
  intro H8
  have p878 := H8.out.S.R.cpc
  have p978 := H8.out.S.R.cring
  have hl78 := H8.out.S.R.load
  have t078 := H8.out.S.T.c0
  have t178 := H8.out.S.T.c1
  have tf78 := H8.out.S.T.fz
  have i08 := H8.out.I.c0
  have i18 := H8.out.I.c1
  have i28 := H8.out.I.c2
  have i38 := H8.out.I.c3
  have xl8 := H8.out.N.load
  have xf8 := H8.out.N.fz
  have x88 := H8.out.N.cpc
  have hlS := H8.out.S.R.load
  have hsr := H8.out.S.Z.store (g)
  have HZr := Lib.hid (H8.out.S.outZ (g))
  have zfr := HZr.out.T.fz
  have z0r := HZr.out.T.c0
  have z1r := HZr.out.T.c1
  have HO := Lib.hid (HZr.out.outT 4 0)
  go_wp2_with fail
  exact bodyPost_ret (two_results Try.results28 rfl rfl HO.out.Z HO.out.T) rfl ⟨rfl, HO.out.off, HO.out.Q⟩
end Go.Proofs.Ytopadiofanaaiaa.CpuLaw
