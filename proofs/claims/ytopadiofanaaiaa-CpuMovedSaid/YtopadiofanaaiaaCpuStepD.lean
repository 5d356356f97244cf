/- The walk of cpu.Step: what goes to memory and comes from it. -/
import Derived.Test.YtopadiofanaaiaaCpuStepC
namespace Go.Proofs.Ytopadiofanaaiaa.CpuLaw
open Go.RowKit
set_option linter.unusedVariables false
set_option linter.unusedSimpArgs false
attribute [local go_sem ↓] sub33_eq add33_eq or33_eq shl33_eq shr33_eq mul33_eq quo33_eq and33_eq xor33_eq narrow_eq wideB_eq conv33_eq conv83_eq conv8333_eq load61_eq store61_eq zero61 cells61
set_option maxRecDepth 100000 in
set_option maxHeartbeats 2000000 in
theorem step_mem {w : World} {g : G} {m m' : M} {b c x A B pc4 : Nat} {t : Int} (hQ : Room w b c m) {g3 : G} (HX : FetchIs b c m g.pc x 0 0) {op C : Int} (HD : DecIs x op A B C 0) (hA : A < 8) (hB : B < 8) (hP : ∀ w, (add33 (.int .u32 g.pc) (.int .u32 4)).run Try.prog w = .ok (.int .u32 pc4) w) (n1 : (op == 1) = false) (n26 : (op == 26) = false) (o1 : 15 ≤ op) (o2 : op ≤ 18) (o3 : decide (5 ≤ op) = true) (o4 : decide (op ≤ 13) = false) (o5 : decide (15 ≤ op) = true) (o6 : decide (op ≤ 18) = true) (HM : ∀ w1 rb, rb ≠ b → rb ≠ c → Row w1 rb ⟨g.r, pc4, g.ring⟩ → Room w1 b c m → Calls Try.prog 40 #[.pointer (some ⟨rb, 0, none⟩), insA op A B C, bus b] w1 fun e w' => e = .returned (trap 0 0) ∧ Off2 rb c w1 w' ∧ Row w' rb g3 ∧ Room w' b c m')
    : Calls Try.prog 28 #[.agg (cellsA g), bus b] w fun e w' => e = .returned (.tuple #[.agg (cellsA (g3)), trap 0 0]) ∧ Off c w w' ∧ Room w' b c (m') := by
  have GM := Lib.hid HM
  clear HM
  have hA0 : 0 ≤ (A : Int) := by omega
  have hA8 : (A : Int) < 8 := by omega
  have hB0 : 0 ≤ (B : Int) := by omega
  have hB8 : (B : Int) < 8 := by omega
  have GX := Lib.hid HX
  clear HX
  go_enter Try.func28, Try.ntmps28
  go_upto_region 1 with fail
  have HF0 := stp_new hQ g
  revert HF0
  generalize ((w.alloc (.cells (cellsA g) 61)).alloc (.cells (cellsA zeroG) 61)).alloc (.cells #[.int .i64 0, .int .u32 0] 63) = W
  intro HF0
  have HF := Lib.hid HF0
  clear HF0 hQ
  have p8 := HF.out.R.cpc
  have p9 := HF.out.R.cring
  have hl := HF.out.R.load
  have t0 := HF.out.T.c0
  have t1 := HF.out.T.c1
  have tf := HF.out.T.fz
  go_wp2_with fail
  refine (GX.out _ HF.out.Q).mono ?_
  rintro e w2 ⟨rfl, hb2⟩
  have HF2 := Lib.hid (HF.out.keep hb2)
  clear hb2
  go_upto_region 2 with fail
  have HF3 := HF2.out.keep (w2 := w2.alloc (.cells #[.int .i64 0, .int .u32 0] 63)) ((Below.refl _ _).alloc (Nat.le_refl _) _)
  have hS := slot_of w2 0 0
  have hn7 := HF2.out.T.lt
  revert HF3 hS
  generalize w2.alloc (.cells #[.int .i64 0, .int .u32 0] 63) = W3
  generalize w2.heap.size = n7 at *
  intro HF3' hS
  have HF3 := Lib.hid HF3'
  have u0 := hS.c0
  have u1 := hS.c1
  have HS := Lib.hid hS
  clear HF3' hS HF2
  have GD := Lib.hid HD
  clear HD
  go_wp2_with fail
  refine (GD.out _).mono ?_
  rintro e w4 ⟨rfl, hb4⟩
  have HF4 := Lib.hid (HF3.out.keep hb4)
  clear hb4 HF3
  go_upto_region 5 with fail
  have HF5 := HF4.out.keep (w2 := w4.alloc (.cells #[.int .i64 op, .int .i64 A, .int .i64 B, .int .i64 C] 51)) ((Below.refl _ _).alloc (Nat.le_refl _) _)
  have hI := ins_new w4 op A B C
  have hn8 := HF4.out.T.lt
  clear HF4
  revert HF5 hI
  generalize w4.alloc (.cells #[.int .i64 op, .int .i64 A, .int .i64 B, .int .i64 C] 51) = W5
  generalize w4.heap.size = n8 at *
  intro HF5' hI
  have HF5 := Lib.hid HF5'
  have i0 := hI.c0
  have i1 := hI.c1
  have i2 := hI.c2
  have i3 := hI.c3
  have HI := Lib.hid hI
  clear HF5' hI
  have p85 := HF5.out.R.cpc
  have p95 := HF5.out.R.cring
  have hl5 := HF5.out.R.load
  have t05 := HF5.out.T.c0
  have t15 := HF5.out.T.c1
  have tf5 := HF5.out.T.fz
  go_upto_region 7 with fail
  have hs5 := (row_new W5 zeroG).store g
  go_upto_region 8 with fail
  have H6 := st3_new HF5.out HI.out hn8
  revert H6
  generalize (W5.alloc (.cells (cellsA zeroG) 61)).setRow W5.heap.size (cellsA g) = W6
  generalize W5.heap.size = n10 at *
  intro H6'
  have H6 := Lib.hid H6'
  have x8 := H6'.N.cpc
  have xf := H6'.N.fz
  clear H6' i0 i1 i2 i3 p85 p95 hl5 t05 t15 tf5
  go_upto_region 10 with fail
  have H7 := H6.out.setPc pc4
  revert H7
  generalize W6.setCell ⟨n10, 8, none⟩ (.int .u32 pc4) = W7
  intro H7'
  have H7 := Lib.hid H7'
  clear H7' x8 xf H6
  have p87 := H7.out.S.R.cpc
  have p97 := H7.out.S.R.cring
  have hl7 := H7.out.S.R.load
  have t07 := H7.out.S.T.c0
  have t17 := H7.out.S.T.c1
  have tf7 := H7.out.S.T.fz
  have i0 := H7.out.I.c0
  have i1 := H7.out.I.c1
  have i2 := H7.out.I.c2
  have i3 := H7.out.I.c3
  have xl := H7.out.N.load
  have xf := H7.out.N.fz
  have x8 := H7.out.N.cpc
  have hq1 : n10 ≠ b := by have := H7.out.S.l1; have := H7.out.h8; have := H7.out.h10; omega
  have hq2 : n10 ≠ c := by have := H7.out.S.l2; have := H7.out.h8; have := H7.out.h10; omega
  go_wp2_with fail
  refine (GM.out _ _ hq1 hq2 H7.out.N H7.out.S.Q).mono ?_
  rintro e w8 ⟨rfl, ho8, hr8, hm8⟩
  have H8 := Lib.hid (H7.out.mem ho8 hr8 hm8)
  clear ho8 hr8 hm8 hq1 hq2
  clear p87 p97 hl7 t07 t17 tf7 i0 i1 i2 i3 xl xf x8
  go_upto_region 17 with fail
  have HF9 := H8.out.keep (w2 := w8.alloc (.cells #[.int .i64 0, .int .u32 0] 63)) ((Below.refl _ _).alloc (Nat.le_refl _) _)
  have hS := slot_of w8 0 0
  have hn9 : n10 < w8.heap.size := H8.out.N.lt
  clear H8
  revert HF9 hS
  generalize w8.alloc (.cells #[.int .i64 0, .int .u32 0] 63) = W9
  generalize w8.heap.size = n13 at *
  intro HF9' hS
  have H9 := Lib.hid HF9'
  have u0m := hS.c0
  have u1m := hS.c1
  have HS9 := Lib.hid hS
  clear HF9' hS
  have p879 := H9.out.S.R.cpc
  have p979 := H9.out.S.R.cring
  have hl79 := H9.out.S.R.load
  have t079 := H9.out.S.T.c0
  have t179 := H9.out.S.T.c1
  have tf79 := H9.out.S.T.fz
  have i09 := H9.out.I.c0
  have i19 := H9.out.I.c1
  have i29 := H9.out.I.c2
  have i39 := H9.out.I.c3
  have xl9 := H9.out.N.load
  have xf9 := H9.out.N.fz
  have x89 := H9.out.N.cpc
  go_upto_region 21 with fail
  have hlN := H9.out.N.load
  have hsr := H9.out.S.Z.store (g3)
  have HZr := Lib.hid (H9.out.S.outZ (g3))
  have zfr := HZr.out.T.fz
  have z0r := HZr.out.T.c0
  have z1r := HZr.out.T.c1
  have HO := Lib.hid (HZr.out.outT 0 0)
  go_wp2_with fail
  exact bodyPost_ret (two_results Try.results28 rfl rfl HO.out.Z HO.out.T) rfl ⟨rfl, HO.out.off, HO.out.Q⟩
set_option maxRecDepth 100000 in
set_option maxHeartbeats 2000000 in
theorem step_mem_no {w : World} {g : G} {m m' : M} {b c x A B pc4 a : Nat} {t : Int} (hQ : Room w b c m) {g3 : G} (HX : FetchIs b c m g.pc x 0 0) {op C : Int} (HD : DecIs x op A B C 0) (hA : A < 8) (hB : B < 8) (hP : ∀ w, (add33 (.int .u32 g.pc) (.int .u32 4)).run Try.prog w = .ok (.int .u32 pc4) w) (n1 : (op == 1) = false) (n26 : (op == 26) = false) (o1 : 15 ≤ op) (o2 : op ≤ 18) (o3 : decide (5 ≤ op) = true) (o4 : decide (op ≤ 13) = false) (o5 : decide (15 ≤ op) = true) (o6 : decide (op ≤ 18) = true) (hb : (t != 0) = true) (HM : ∀ w1 rb, rb ≠ b → rb ≠ c → Row w1 rb ⟨g.r, pc4, g.ring⟩ → Room w1 b c m → Calls Try.prog 40 #[.pointer (some ⟨rb, 0, none⟩), insA op A B C, bus b] w1 fun e w' => e = .returned (trap t a) ∧ Off2 rb c w1 w' ∧ Row w' rb g3 ∧ Room w' b c m')
    : Calls Try.prog 28 #[.agg (cellsA g), bus b] w fun e w' => e = .returned (.tuple #[.agg (cellsA (g)), trap t a]) ∧ Off c w w' ∧ Room w' b c (m') := by
  have GM := Lib.hid HM
  clear HM
  have hA0 : 0 ≤ (A : Int) := by omega
  have hA8 : (A : Int) < 8 := by omega
  have hB0 : 0 ≤ (B : Int) := by omega
  have hB8 : (B : Int) < 8 := by omega
  have GX := Lib.hid HX
  clear HX
  go_enter Try.func28, Try.ntmps28
  go_upto_region 1 with fail
  have HF0 := stp_new hQ g
  revert HF0
  generalize ((w.alloc (.cells (cellsA g) 61)).alloc (.cells (cellsA zeroG) 61)).alloc (.cells #[.int .i64 0, .int .u32 0] 63) = W
  intro HF0
  have HF := Lib.hid HF0
  clear HF0 hQ
  have p8 := HF.out.R.cpc
  have p9 := HF.out.R.cring
  have hl := HF.out.R.load
  have t0 := HF.out.T.c0
  have t1 := HF.out.T.c1
  have tf := HF.out.T.fz
  go_wp2_with fail
  refine (GX.out _ HF.out.Q).mono ?_
  rintro e w2 ⟨rfl, hb2⟩
  have HF2 := Lib.hid (HF.out.keep hb2)
  clear hb2
  go_upto_region 2 with fail
  have HF3 := HF2.out.keep (w2 := w2.alloc (.cells #[.int .i64 0, .int .u32 0] 63)) ((Below.refl _ _).alloc (Nat.le_refl _) _)
  have hS := slot_of w2 0 0
  have hn7 := HF2.out.T.lt
  revert HF3 hS
  generalize w2.alloc (.cells #[.int .i64 0, .int .u32 0] 63) = W3
  generalize w2.heap.size = n7 at *
  intro HF3' hS
  have HF3 := Lib.hid HF3'
  have u0 := hS.c0
  have u1 := hS.c1
  have HS := Lib.hid hS
  clear HF3' hS HF2
  have GD := Lib.hid HD
  clear HD
  go_wp2_with fail
  refine (GD.out _).mono ?_
  rintro e w4 ⟨rfl, hb4⟩
  have HF4 := Lib.hid (HF3.out.keep hb4)
  clear hb4 HF3
  go_upto_region 5 with fail
  have HF5 := HF4.out.keep (w2 := w4.alloc (.cells #[.int .i64 op, .int .i64 A, .int .i64 B, .int .i64 C] 51)) ((Below.refl _ _).alloc (Nat.le_refl _) _)
  have hI := ins_new w4 op A B C
  have hn8 := HF4.out.T.lt
  clear HF4
  revert HF5 hI
  generalize w4.alloc (.cells #[.int .i64 op, .int .i64 A, .int .i64 B, .int .i64 C] 51) = W5
  generalize w4.heap.size = n8 at *
  intro HF5' hI
  have HF5 := Lib.hid HF5'
  have i0 := hI.c0
  have i1 := hI.c1
  have i2 := hI.c2
  have i3 := hI.c3
  have HI := Lib.hid hI
  clear HF5' hI
  have p85 := HF5.out.R.cpc
  have p95 := HF5.out.R.cring
  have hl5 := HF5.out.R.load
  have t05 := HF5.out.T.c0
  have t15 := HF5.out.T.c1
  have tf5 := HF5.out.T.fz
  go_upto_region 7 with fail
  have hs5 := (row_new W5 zeroG).store g
  go_upto_region 8 with fail
  have H6 := st3_new HF5.out HI.out hn8
  revert H6
  generalize (W5.alloc (.cells (cellsA zeroG) 61)).setRow W5.heap.size (cellsA g) = W6
  generalize W5.heap.size = n10 at *
  intro H6'
  have H6 := Lib.hid H6'
  have x8 := H6'.N.cpc
  have xf := H6'.N.fz
  clear H6' i0 i1 i2 i3 p85 p95 hl5 t05 t15 tf5
  go_upto_region 10 with fail
  have H7 := H6.out.setPc pc4
  revert H7
  generalize W6.setCell ⟨n10, 8, none⟩ (.int .u32 pc4) = W7
  intro H7'
  have H7 := Lib.hid H7'
  clear H7' x8 xf H6
  have p87 := H7.out.S.R.cpc
  have p97 := H7.out.S.R.cring
  have hl7 := H7.out.S.R.load
  have t07 := H7.out.S.T.c0
  have t17 := H7.out.S.T.c1
  have tf7 := H7.out.S.T.fz
  have i0 := H7.out.I.c0
  have i1 := H7.out.I.c1
  have i2 := H7.out.I.c2
  have i3 := H7.out.I.c3
  have xl := H7.out.N.load
  have xf := H7.out.N.fz
  have x8 := H7.out.N.cpc
  have hq1 : n10 ≠ b := by have := H7.out.S.l1; have := H7.out.h8; have := H7.out.h10; omega
  have hq2 : n10 ≠ c := by have := H7.out.S.l2; have := H7.out.h8; have := H7.out.h10; omega
  go_wp2_with fail
  refine (GM.out _ _ hq1 hq2 H7.out.N H7.out.S.Q).mono ?_
  rintro e w8 ⟨rfl, ho8, hr8, hm8⟩
  have H8 := Lib.hid (H7.out.mem ho8 hr8 hm8)
  clear ho8 hr8 hm8 hq1 hq2
  clear p87 p97 hl7 t07 t17 tf7 i0 i1 i2 i3 xl xf x8
  go_upto_region 17 with fail
  have HF9 := H8.out.keep (w2 := w8.alloc (.cells #[.int .i64 t, .int .u32 a] 63)) ((Below.refl _ _).alloc (Nat.le_refl _) _)
  have hS := slot_of w8 t a
  have hn9 : n10 < w8.heap.size := H8.out.N.lt
  clear H8
  revert HF9 hS
  generalize w8.alloc (.cells #[.int .i64 t, .int .u32 a] 63) = W9
  generalize w8.heap.size = n13 at *
  intro HF9' hS
  have H9 := Lib.hid HF9'
  have u0m := hS.c0
  have u1m := hS.c1
  have HS9 := Lib.hid hS
  clear HF9' hS
  have p879 := H9.out.S.R.cpc
  have p979 := H9.out.S.R.cring
  have hl79 := H9.out.S.R.load
  have t079 := H9.out.S.T.c0
  have t179 := H9.out.S.T.c1
  have tf79 := H9.out.S.T.fz
  have i09 := H9.out.I.c0
  have i19 := H9.out.I.c1
  have i29 := H9.out.I.c2
  have i39 := H9.out.I.c3
  have xl9 := H9.out.N.load
  have xf9 := H9.out.N.fz
  have x89 := H9.out.N.cpc
  have p83 := H9.out.S.R.cpc
  have p93 := H9.out.S.R.cring
  have hl3 := H9.out.S.R.load
  have t03 := H9.out.S.T.c0
  have t13 := H9.out.S.T.c1
  have tf3 := H9.out.S.T.fz
  have HFd := Lib.hid H9.out.S.drew
  have HT := Lib.hid (H9.out.S.outT t a).drew
  have p8d := HFd.out.R.cpc
  have p9d := HFd.out.R.cring
  have hld := HFd.out.R.load
  have t0d := HFd.out.T.c0
  have t1d := HFd.out.T.c1
  have tfd := HFd.out.T.fz
  have hsd := HFd.out.Z.store (g)
  have HZd := Lib.hid (HFd.out.outZ (g))
  have zfd := HZd.out.T.fz
  have z0d := HZd.out.T.c0
  have z1d := HZd.out.T.c1
  have hlT := HT.out.R.load
  have hsT := HT.out.Z.store g
  have hlZ := HZd.out.R.load
  have v7 := HS9.out.keep (Off.of (c := c) (Below.refl _ _).drew) (by have := H9.out.S.l2; have := H9.out.h8; have := H9.out.h10; omega)
  have w7 := v7.setRowO (d := w.heap.size + 1) (by have := H9.out.S.hn; have := H9.out.h8; have := H9.out.h10; omega) (cellsA g)
  have w0 := w7.c0
  have w1 := w7.c1
  clear v7 w7
  have HO := Lib.hid (HZd.out.outT t a)
  have HO2 := Lib.hid (HT.out.outZ g)
  go_wp2_with fail
  go_region
  all_goals go_wp2_with fail
  all_goals first | exact bodyPost_ret (two_results Try.results28 rfl rfl HO.out.Z HO.out.T) rfl ⟨rfl, HO.out.off, HO.out.Q⟩ | exact bodyPost_ret (two_results Try.results28 rfl rfl HO2.out.Z HO2.out.T) rfl ⟨rfl, HO2.out.off, HO2.out.Q⟩
set_option maxRecDepth 100000 in
set_option maxHeartbeats 2000000 in
theorem step_swap {w : World} {g : G} {m m' : M} {b c x A B pc4 : Nat} {t : Int} (hQ : Room w b c m) {g3 : G} (HX : FetchIs b c m g.pc x 0 0) {C : Int} (HD : DecIs x 25 A B C 0) (hA : A < 8) (hB : B < 8) (hP : ∀ w, (add33 (.int .u32 g.pc) (.int .u32 4)).run Try.prog w = .ok (.int .u32 pc4) w) (HM : ∀ w1 rb, rb ≠ b → rb ≠ c → Row w1 rb ⟨g.r, pc4, g.ring⟩ → Room w1 b c m → Calls Try.prog 40 #[.pointer (some ⟨rb, 0, none⟩), insA 25 A B C, bus b] w1 fun e w' => e = .returned (trap 0 0) ∧ Off2 rb c w1 w' ∧ Row w' rb g3 ∧ Room w' b c m')
    : Calls Try.prog 28 #[.agg (cellsA g), bus b] w fun e w' => e = .returned (.tuple #[.agg (cellsA (g3)), trap 0 0]) ∧ Off c w w' ∧ Room w' b c (m') := by
  have GM := Lib.hid HM
  clear HM
  have hA0 : 0 ≤ (A : Int) := by omega
  have hA8 : (A : Int) < 8 := by omega
  have hB0 : 0 ≤ (B : Int) := by omega
  have hB8 : (B : Int) < 8 := by omega
  have GX := Lib.hid HX
  clear HX
  go_enter Try.func28, Try.ntmps28
  go_upto_region 1 with fail
  have HF0 := stp_new hQ g
  revert HF0
  generalize ((w.alloc (.cells (cellsA g) 61)).alloc (.cells (cellsA zeroG) 61)).alloc (.cells #[.int .i64 0, .int .u32 0] 63) = W
  intro HF0
  have HF := Lib.hid HF0
  clear HF0 hQ
  have p8 := HF.out.R.cpc
  have p9 := HF.out.R.cring
  have hl := HF.out.R.load
  have t0 := HF.out.T.c0
  have t1 := HF.out.T.c1
  have tf := HF.out.T.fz
  go_wp2_with fail
  refine (GX.out _ HF.out.Q).mono ?_
  rintro e w2 ⟨rfl, hb2⟩
  have HF2 := Lib.hid (HF.out.keep hb2)
  clear hb2
  go_upto_region 2 with fail
  have HF3 := HF2.out.keep (w2 := w2.alloc (.cells #[.int .i64 0, .int .u32 0] 63)) ((Below.refl _ _).alloc (Nat.le_refl _) _)
  have hS := slot_of w2 0 0
  have hn7 := HF2.out.T.lt
  revert HF3 hS
  generalize w2.alloc (.cells #[.int .i64 0, .int .u32 0] 63) = W3
  generalize w2.heap.size = n7 at *
  intro HF3' hS
  have HF3 := Lib.hid HF3'
  have u0 := hS.c0
  have u1 := hS.c1
  have HS := Lib.hid hS
  clear HF3' hS HF2
  have GD := Lib.hid HD
  clear HD
  go_wp2_with fail
  refine (GD.out _).mono ?_
  rintro e w4 ⟨rfl, hb4⟩
  have HF4 := Lib.hid (HF3.out.keep hb4)
  clear hb4 HF3
  go_upto_region 5 with fail
  have HF5 := HF4.out.keep (w2 := w4.alloc (.cells #[.int .i64 25, .int .i64 A, .int .i64 B, .int .i64 C] 51)) ((Below.refl _ _).alloc (Nat.le_refl _) _)
  have hI := ins_new w4 25 A B C
  have hn8 := HF4.out.T.lt
  clear HF4
  revert HF5 hI
  generalize w4.alloc (.cells #[.int .i64 25, .int .i64 A, .int .i64 B, .int .i64 C] 51) = W5
  generalize w4.heap.size = n8 at *
  intro HF5' hI
  have HF5 := Lib.hid HF5'
  have i0 := hI.c0
  have i1 := hI.c1
  have i2 := hI.c2
  have i3 := hI.c3
  have HI := Lib.hid hI
  clear HF5' hI
  have p85 := HF5.out.R.cpc
  have p95 := HF5.out.R.cring
  have hl5 := HF5.out.R.load
  have t05 := HF5.out.T.c0
  have t15 := HF5.out.T.c1
  have tf5 := HF5.out.T.fz
  go_upto_region 7 with fail
  have hs5 := (row_new W5 zeroG).store g
  go_upto_region 8 with fail
  have H6 := st3_new HF5.out HI.out hn8
  revert H6
  generalize (W5.alloc (.cells (cellsA zeroG) 61)).setRow W5.heap.size (cellsA g) = W6
  generalize W5.heap.size = n10 at *
  intro H6'
  have H6 := Lib.hid H6'
  have x8 := H6'.N.cpc
  have xf := H6'.N.fz
  clear H6' i0 i1 i2 i3 p85 p95 hl5 t05 t15 tf5
  go_upto_region 10 with fail
  have H7 := H6.out.setPc pc4
  revert H7
  generalize W6.setCell ⟨n10, 8, none⟩ (.int .u32 pc4) = W7
  intro H7'
  have H7 := Lib.hid H7'
  clear H7' x8 xf H6
  have p87 := H7.out.S.R.cpc
  have p97 := H7.out.S.R.cring
  have hl7 := H7.out.S.R.load
  have t07 := H7.out.S.T.c0
  have t17 := H7.out.S.T.c1
  have tf7 := H7.out.S.T.fz
  have i0 := H7.out.I.c0
  have i1 := H7.out.I.c1
  have i2 := H7.out.I.c2
  have i3 := H7.out.I.c3
  have xl := H7.out.N.load
  have xf := H7.out.N.fz
  have x8 := H7.out.N.cpc
  have hq1 : n10 ≠ b := by have := H7.out.S.l1; have := H7.out.h8; have := H7.out.h10; omega
  have hq2 : n10 ≠ c := by have := H7.out.S.l2; have := H7.out.h8; have := H7.out.h10; omega
  go_wp2_with fail
  refine (GM.out _ _ hq1 hq2 H7.out.N H7.out.S.Q).mono ?_
  rintro e w8 ⟨rfl, ho8, hr8, hm8⟩
  have H8 := Lib.hid (H7.out.mem ho8 hr8 hm8)
  clear ho8 hr8 hm8 hq1 hq2
  clear p87 p97 hl7 t07 t17 tf7 i0 i1 i2 i3 xl xf x8
  go_upto_region 17 with fail
  have HF9 := H8.out.keep (w2 := w8.alloc (.cells #[.int .i64 0, .int .u32 0] 63)) ((Below.refl _ _).alloc (Nat.le_refl _) _)
  have hS := slot_of w8 0 0
  have hn9 : n10 < w8.heap.size := H8.out.N.lt
  clear H8
  revert HF9 hS
  generalize w8.alloc (.cells #[.int .i64 0, .int .u32 0] 63) = W9
  generalize w8.heap.size = n13 at *
  intro HF9' hS
  have H9 := Lib.hid HF9'
  have u0m := hS.c0
  have u1m := hS.c1
  have HS9 := Lib.hid hS
  clear HF9' hS
  have p879 := H9.out.S.R.cpc
  have p979 := H9.out.S.R.cring
  have hl79 := H9.out.S.R.load
  have t079 := H9.out.S.T.c0
  have t179 := H9.out.S.T.c1
  have tf79 := H9.out.S.T.fz
  have i09 := H9.out.I.c0
  have i19 := H9.out.I.c1
  have i29 := H9.out.I.c2
  have i39 := H9.out.I.c3
  have xl9 := H9.out.N.load
  have xf9 := H9.out.N.fz
  have x89 := H9.out.N.cpc
  go_upto_region 21 with fail
  have hlN := H9.out.N.load
  have hsr := H9.out.S.Z.store (g3)
  have HZr := Lib.hid (H9.out.S.outZ (g3))
  have zfr := HZr.out.T.fz
  have z0r := HZr.out.T.c0
  have z1r := HZr.out.T.c1
  have HO := Lib.hid (HZr.out.outT 0 0)
  go_wp2_with fail
  exact bodyPost_ret (two_results Try.results28 rfl rfl HO.out.Z HO.out.T) rfl ⟨rfl, HO.out.off, HO.out.Q⟩
set_option maxRecDepth 100000 in
set_option maxHeartbeats 2000000 in
theorem step_swap_no {w : World} {g : G} {m m' : M} {b c x A B pc4 a : Nat} {t : Int} (hQ : Room w b c m) {g3 : G} (HX : FetchIs b c m g.pc x 0 0) {C : Int} (HD : DecIs x 25 A B C 0) (hA : A < 8) (hB : B < 8) (hP : ∀ w, (add33 (.int .u32 g.pc) (.int .u32 4)).run Try.prog w = .ok (.int .u32 pc4) w) (hb : (t != 0) = true) (HM : ∀ w1 rb, rb ≠ b → rb ≠ c → Row w1 rb ⟨g.r, pc4, g.ring⟩ → Room w1 b c m → Calls Try.prog 40 #[.pointer (some ⟨rb, 0, none⟩), insA 25 A B C, bus b] w1 fun e w' => e = .returned (trap t a) ∧ Off2 rb c w1 w' ∧ Row w' rb g3 ∧ Room w' b c m')
    : Calls Try.prog 28 #[.agg (cellsA g), bus b] w fun e w' => e = .returned (.tuple #[.agg (cellsA (g)), trap t a]) ∧ Off c w w' ∧ Room w' b c (m') := by
  have GM := Lib.hid HM
  clear HM
  have hA0 : 0 ≤ (A : Int) := by omega
  have hA8 : (A : Int) < 8 := by omega
  have hB0 : 0 ≤ (B : Int) := by omega
  have hB8 : (B : Int) < 8 := by omega
  have GX := Lib.hid HX
  clear HX
  go_enter Try.func28, Try.ntmps28
  go_upto_region 1 with fail
  have HF0 := stp_new hQ g
  revert HF0
  generalize ((w.alloc (.cells (cellsA g) 61)).alloc (.cells (cellsA zeroG) 61)).alloc (.cells #[.int .i64 0, .int .u32 0] 63) = W
  intro HF0
  have HF := Lib.hid HF0
  clear HF0 hQ
  have p8 := HF.out.R.cpc
  have p9 := HF.out.R.cring
  have hl := HF.out.R.load
  have t0 := HF.out.T.c0
  have t1 := HF.out.T.c1
  have tf := HF.out.T.fz
  go_wp2_with fail
  refine (GX.out _ HF.out.Q).mono ?_
  rintro e w2 ⟨rfl, hb2⟩
  have HF2 := Lib.hid (HF.out.keep hb2)
  clear hb2
  go_upto_region 2 with fail
  have HF3 := HF2.out.keep (w2 := w2.alloc (.cells #[.int .i64 0, .int .u32 0] 63)) ((Below.refl _ _).alloc (Nat.le_refl _) _)
  have hS := slot_of w2 0 0
  have hn7 := HF2.out.T.lt
  revert HF3 hS
  generalize w2.alloc (.cells #[.int .i64 0, .int .u32 0] 63) = W3
  generalize w2.heap.size = n7 at *
  intro HF3' hS
  have HF3 := Lib.hid HF3'
  have u0 := hS.c0
  have u1 := hS.c1
  have HS := Lib.hid hS
  clear HF3' hS HF2
  have GD := Lib.hid HD
  clear HD
  go_wp2_with fail
  refine (GD.out _).mono ?_
  rintro e w4 ⟨rfl, hb4⟩
  have HF4 := Lib.hid (HF3.out.keep hb4)
  clear hb4 HF3
  go_upto_region 5 with fail
  have HF5 := HF4.out.keep (w2 := w4.alloc (.cells #[.int .i64 25, .int .i64 A, .int .i64 B, .int .i64 C] 51)) ((Below.refl _ _).alloc (Nat.le_refl _) _)
  have hI := ins_new w4 25 A B C
  have hn8 := HF4.out.T.lt
  clear HF4
  revert HF5 hI
  generalize w4.alloc (.cells #[.int .i64 25, .int .i64 A, .int .i64 B, .int .i64 C] 51) = W5
  generalize w4.heap.size = n8 at *
  intro HF5' hI
  have HF5 := Lib.hid HF5'
  have i0 := hI.c0
  have i1 := hI.c1
  have i2 := hI.c2
  have i3 := hI.c3
  have HI := Lib.hid hI
  clear HF5' hI
  have p85 := HF5.out.R.cpc
  have p95 := HF5.out.R.cring
  have hl5 := HF5.out.R.load
  have t05 := HF5.out.T.c0
  have t15 := HF5.out.T.c1
  have tf5 := HF5.out.T.fz
  go_upto_region 7 with fail
  have hs5 := (row_new W5 zeroG).store g
  go_upto_region 8 with fail
  have H6 := st3_new HF5.out HI.out hn8
  revert H6
  generalize (W5.alloc (.cells (cellsA zeroG) 61)).setRow W5.heap.size (cellsA g) = W6
  generalize W5.heap.size = n10 at *
  intro H6'
  have H6 := Lib.hid H6'
  have x8 := H6'.N.cpc
  have xf := H6'.N.fz
  clear H6' i0 i1 i2 i3 p85 p95 hl5 t05 t15 tf5
  go_upto_region 10 with fail
  have H7 := H6.out.setPc pc4
  revert H7
  generalize W6.setCell ⟨n10, 8, none⟩ (.int .u32 pc4) = W7
  intro H7'
  have H7 := Lib.hid H7'
  clear H7' x8 xf H6
  have p87 := H7.out.S.R.cpc
  have p97 := H7.out.S.R.cring
  have hl7 := H7.out.S.R.load
  have t07 := H7.out.S.T.c0
  have t17 := H7.out.S.T.c1
  have tf7 := H7.out.S.T.fz
  have i0 := H7.out.I.c0
  have i1 := H7.out.I.c1
  have i2 := H7.out.I.c2
  have i3 := H7.out.I.c3
  have xl := H7.out.N.load
  have xf := H7.out.N.fz
  have x8 := H7.out.N.cpc
  have hq1 : n10 ≠ b := by have := H7.out.S.l1; have := H7.out.h8; have := H7.out.h10; omega
  have hq2 : n10 ≠ c := by have := H7.out.S.l2; have := H7.out.h8; have := H7.out.h10; omega
  go_wp2_with fail
  refine (GM.out _ _ hq1 hq2 H7.out.N H7.out.S.Q).mono ?_
  rintro e w8 ⟨rfl, ho8, hr8, hm8⟩
  have H8 := Lib.hid (H7.out.mem ho8 hr8 hm8)
  clear ho8 hr8 hm8 hq1 hq2
  clear p87 p97 hl7 t07 t17 tf7 i0 i1 i2 i3 xl xf x8
  go_upto_region 17 with fail
  have HF9 := H8.out.keep (w2 := w8.alloc (.cells #[.int .i64 t, .int .u32 a] 63)) ((Below.refl _ _).alloc (Nat.le_refl _) _)
  have hS := slot_of w8 t a
  have hn9 : n10 < w8.heap.size := H8.out.N.lt
  clear H8
  revert HF9 hS
  generalize w8.alloc (.cells #[.int .i64 t, .int .u32 a] 63) = W9
  generalize w8.heap.size = n13 at *
  intro HF9' hS
  have H9 := Lib.hid HF9'
  have u0m := hS.c0
  have u1m := hS.c1
  have HS9 := Lib.hid hS
  clear HF9' hS
  have p879 := H9.out.S.R.cpc
  have p979 := H9.out.S.R.cring
  have hl79 := H9.out.S.R.load
  have t079 := H9.out.S.T.c0
  have t179 := H9.out.S.T.c1
  have tf79 := H9.out.S.T.fz
  have i09 := H9.out.I.c0
  have i19 := H9.out.I.c1
  have i29 := H9.out.I.c2
  have i39 := H9.out.I.c3
  have xl9 := H9.out.N.load
  have xf9 := H9.out.N.fz
  have x89 := H9.out.N.cpc
  have p83 := H9.out.S.R.cpc
  have p93 := H9.out.S.R.cring
  have hl3 := H9.out.S.R.load
  have t03 := H9.out.S.T.c0
  have t13 := H9.out.S.T.c1
  have tf3 := H9.out.S.T.fz
  have HFd := Lib.hid H9.out.S.drew
  have HT := Lib.hid (H9.out.S.outT t a).drew
  have p8d := HFd.out.R.cpc
  have p9d := HFd.out.R.cring
  have hld := HFd.out.R.load
  have t0d := HFd.out.T.c0
  have t1d := HFd.out.T.c1
  have tfd := HFd.out.T.fz
  have hsd := HFd.out.Z.store (g)
  have HZd := Lib.hid (HFd.out.outZ (g))
  have zfd := HZd.out.T.fz
  have z0d := HZd.out.T.c0
  have z1d := HZd.out.T.c1
  have hlT := HT.out.R.load
  have hsT := HT.out.Z.store g
  have hlZ := HZd.out.R.load
  have v7 := HS9.out.keep (Off.of (c := c) (Below.refl _ _).drew) (by have := H9.out.S.l2; have := H9.out.h8; have := H9.out.h10; omega)
  have w7 := v7.setRowO (d := w.heap.size + 1) (by have := H9.out.S.hn; have := H9.out.h8; have := H9.out.h10; omega) (cellsA g)
  have w0 := w7.c0
  have w1 := w7.c1
  clear v7 w7
  have HO := Lib.hid (HZd.out.outT t a)
  have HO2 := Lib.hid (HT.out.outZ g)
  go_wp2_with fail
  go_region
  all_goals go_wp2_with fail
  all_goals first | exact bodyPost_ret (two_results Try.results28 rfl rfl HO.out.Z HO.out.T) rfl ⟨rfl, HO.out.off, HO.out.Q⟩ | exact bodyPost_ret (two_results Try.results28 rfl rfl HO2.out.Z HO2.out.T) rfl ⟨rfl, HO2.out.off, HO2.out.Q⟩
end Go.Proofs.Ytopadiofanaaiaa.CpuLaw
