/- The walk of cpu.Step: words that are no instruction of this ring. -/
import Derived.Test.YtopadiofanaaiaaCpuStepA
namespace Go.Proofs.Ytopadiofanaaiaa.CpuLaw
open Go.RowKit
set_option linter.unusedVariables false
set_option linter.unusedSimpArgs false
attribute [local go_sem ↓] sub33_eq add33_eq or33_eq shl33_eq shr33_eq mul33_eq quo33_eq and33_eq xor33_eq narrow_eq wideB_eq conv33_eq conv83_eq conv8333_eq load61_eq store61_eq zero61 cells61
set_option maxRecDepth 100000 in
set_option maxHeartbeats 2000000 in
theorem step_form {w : World} {g : G} {m m' : M} {b c x A B : Nat} {t : Int} (hQ : Room w b c m) (HX : FetchIs b c m g.pc x 0 0) {op C e : Int} (HD : DecIs x op A B C e) (he : (e != 0) = true)
    : Calls Try.prog 28 #[.agg (cellsA g), bus b] w fun e w' => e = .returned (.tuple #[.agg (cellsA (g)), trap 3 0]) ∧ Off c w w' ∧ Room w' b c (m) := by
  have GX := Lib.hid HX
  clear HX
  go_enter Try.func28, Try.ntmps28
  go_upto_region 1 with fail
  have HF0 := stp_new hQ g
  revert HF0
  generalize ((w.alloc (.cells (cellsA g) 61)).alloc (.cells (cellsA zeroG) 61)).alloc (.cells #[.int .i64 0, .int .u32 0] 63) = W
  intro HF0
  have HF := Lib.hid HF0
  clear HF0 hQ
  have p8 := HF.out.R.cpc
  have p9 := HF.out.R.cring
  have hl := HF.out.R.load
  have t0 := HF.out.T.c0
  have t1 := HF.out.T.c1
  have tf := HF.out.T.fz
  go_wp2_with fail
  refine (GX.out _ HF.out.Q).mono ?_
  rintro e w2 ⟨rfl, hb2⟩
  have HF2 := Lib.hid (HF.out.keep hb2)
  clear hb2
  go_upto_region 2 with fail
  have HF3 := HF2.out.keep (w2 := w2.alloc (.cells #[.int .i64 0, .int .u32 0] 63)) ((Below.refl _ _).alloc (Nat.le_refl _) _)
  have hS := slot_of w2 0 0
  have hn7 := HF2.out.T.lt
  revert HF3 hS
  generalize w2.alloc (.cells #[.int .i64 0, .int .u32 0] 63) = W3
  generalize w2.heap.size = n7 at *
  intro HF3' hS
  have HF3 := Lib.hid HF3'
  have u0 := hS.c0
  have u1 := hS.c1
  have HS := Lib.hid hS
  clear HF3' hS HF2
  have GD := Lib.hid HD
  clear HD
  go_wp2_with fail
  refine (GD.out _).mono ?_
  rintro e w4 ⟨rfl, hb4⟩
  have HF4 := Lib.hid (HF3.out.keep hb4)
  clear hb4 HF3
  go_upto_region 5 with fail
  have HF5 := HF4.out.keep (w2 := w4.alloc (.cells #[.int .i64 op, .int .i64 A, .int .i64 B, .int .i64 C] 51)) ((Below.refl _ _).alloc (Nat.le_refl _) _)
  have hI := ins_new w4 op A B C
  have hn8 := HF4.out.T.lt
  clear HF4
  revert HF5 hI
  generalize w4.alloc (.cells #[.int .i64 op, .int .i64 A, .int .i64 B, .int .i64 C] 51) = W5
  generalize w4.heap.size = n8 at *
  intro HF5' hI
  have HF5 := Lib.hid HF5'
  have i0 := hI.c0
  have i1 := hI.c1
  have i2 := hI.c2
  have i3 := hI.c3
  have HI := Lib.hid hI
  clear HF5' hI
  have p85 := HF5.out.R.cpc
  have p95 := HF5.out.R.cring
  have hl5 := HF5.out.R.load
  have t05 := HF5.out.T.c0
  have t15 := HF5.out.T.c1
  have tf5 := HF5.out.T.fz
  have hs5 := HF5.out.Z.store (g)
  have HZ5 := Lib.hid (HF5.out.outZ (g))
  have zf5 := HZ5.out.T.fz
  have z05 := HZ5.out.T.c0
  have z15 := HZ5.out.T.c1
  have HO := Lib.hid (HZ5.out.outT 3 0)
  go_wp2_with fail
  exact bodyPost_ret (two_results Try.results28 rfl rfl HO.out.Z HO.out.T) rfl ⟨rfl, HO.out.off, HO.out.Q⟩
set_option maxRecDepth 100000 in
set_option maxHeartbeats 2000000 in
theorem step_halt {w : World} {g : G} {m m' : M} {b c x A B : Nat} {t : Int} (hQ : Room w b c m) (HX : FetchIs b c m g.pc x 0 0) {C : Int} (HD : DecIs x 1 A B C 0) (hr : (g.ring != 0) = true)
    : Calls Try.prog 28 #[.agg (cellsA g), bus b] w fun e w' => e = .returned (.tuple #[.agg (cellsA (g)), trap 3 0]) ∧ Off c w w' ∧ Room w' b c (m) := by
  have GX := Lib.hid HX
  clear HX
  go_enter Try.func28, Try.ntmps28
  go_upto_region 1 with fail
  have HF0 := stp_new hQ g
  revert HF0
  generalize ((w.alloc (.cells (cellsA g) 61)).alloc (.cells (cellsA zeroG) 61)).alloc (.cells #[.int .i64 0, .int .u32 0] 63) = W
  intro HF0
  have HF := Lib.hid HF0
  clear HF0 hQ
  have p8 := HF.out.R.cpc
  have p9 := HF.out.R.cring
  have hl := HF.out.R.load
  have t0 := HF.out.T.c0
  have t1 := HF.out.T.c1
  have tf := HF.out.T.fz
  go_wp2_with fail
  refine (GX.out _ HF.out.Q).mono ?_
  rintro e w2 ⟨rfl, hb2⟩
  have HF2 := Lib.hid (HF.out.keep hb2)
  clear hb2
  go_upto_region 2 with fail
  have HF3 := HF2.out.keep (w2 := w2.alloc (.cells #[.int .i64 0, .int .u32 0] 63)) ((Below.refl _ _).alloc (Nat.le_refl _) _)
  have hS := slot_of w2 0 0
  have hn7 := HF2.out.T.lt
  revert HF3 hS
  generalize w2.alloc (.cells #[.int .i64 0, .int .u32 0] 63) = W3
  generalize w2.heap.size = n7 at *
  intro HF3' hS
  have HF3 := Lib.hid HF3'
  have u0 := hS.c0
  have u1 := hS.c1
  have HS := Lib.hid hS
  clear HF3' hS HF2
  have GD := Lib.hid HD
  clear HD
  go_wp2_with fail
  refine (GD.out _).mono ?_
  rintro e w4 ⟨rfl, hb4⟩
  have HF4 := Lib.hid (HF3.out.keep hb4)
  clear hb4 HF3
  go_upto_region 5 with fail
  have HF5 := HF4.out.keep (w2 := w4.alloc (.cells #[.int .i64 1, .int .i64 A, .int .i64 B, .int .i64 C] 51)) ((Below.refl _ _).alloc (Nat.le_refl _) _)
  have hI := ins_new w4 1 A B C
  have hn8 := HF4.out.T.lt
  clear HF4
  revert HF5 hI
  generalize w4.alloc (.cells #[.int .i64 1, .int .i64 A, .int .i64 B, .int .i64 C] 51) = W5
  generalize w4.heap.size = n8 at *
  intro HF5' hI
  have HF5 := Lib.hid HF5'
  have i0 := hI.c0
  have i1 := hI.c1
  have i2 := hI.c2
  have i3 := hI.c3
  have HI := Lib.hid hI
  clear HF5' hI
  have p85 := HF5.out.R.cpc
  have p95 := HF5.out.R.cring
  have hl5 := HF5.out.R.load
  have t05 := HF5.out.T.c0
  have t15 := HF5.out.T.c1
  have tf5 := HF5.out.T.fz
  have hs5 := HF5.out.Z.store (g)
  have HZ5 := Lib.hid (HF5.out.outZ (g))
  have zf5 := HZ5.out.T.fz
  have z05 := HZ5.out.T.c0
  have z15 := HZ5.out.T.c1
  have HO := Lib.hid (HZ5.out.outT 3 0)
  go_wp2_with fail
  exact bodyPost_ret (two_results Try.results28 rfl rfl HO.out.Z HO.out.T) rfl ⟨rfl, HO.out.off, HO.out.Q⟩
set_option maxRecDepth 100000 in
set_option maxHeartbeats 2000000 in
theorem step_home {w : World} {g : G} {m m' : M} {b c x A B : Nat} {t : Int} (hQ : Room w b c m) (HX : FetchIs b c m g.pc x 0 0) {C : Int} (HD : DecIs x 26 A B C 0) (hr : (g.ring != 0) = true)
    : Calls Try.prog 28 #[.agg (cellsA g), bus b] w fun e w' => e = .returned (.tuple #[.agg (cellsA (g)), trap 3 0]) ∧ Off c w w' ∧ Room w' b c (m) := by
  have GX := Lib.hid HX
  clear HX
  go_enter Try.func28, Try.ntmps28
  go_upto_region 1 with fail
  have HF0 := stp_new hQ g
  revert HF0
  generalize ((w.alloc (.cells (cellsA g) 61)).alloc (.cells (cellsA zeroG) 61)).alloc (.cells #[.int .i64 0, .int .u32 0] 63) = W
  intro HF0
  have HF := Lib.hid HF0
  clear HF0 hQ
  have p8 := HF.out.R.cpc
  have p9 := HF.out.R.cring
  have hl := HF.out.R.load
  have t0 := HF.out.T.c0
  have t1 := HF.out.T.c1
  have tf := HF.out.T.fz
  go_wp2_with fail
  refine (GX.out _ HF.out.Q).mono ?_
  rintro e w2 ⟨rfl, hb2⟩
  have HF2 := Lib.hid (HF.out.keep hb2)
  clear hb2
  go_upto_region 2 with fail
  have HF3 := HF2.out.keep (w2 := w2.alloc (.cells #[.int .i64 0, .int .u32 0] 63)) ((Below.refl _ _).alloc (Nat.le_refl _) _)
  have hS := slot_of w2 0 0
  have hn7 := HF2.out.T.lt
  revert HF3 hS
  generalize w2.alloc (.cells #[.int .i64 0, .int .u32 0] 63) = W3
  generalize w2.heap.size = n7 at *
  intro HF3' hS
  have HF3 := Lib.hid HF3'
  have u0 := hS.c0
  have u1 := hS.c1
  have HS := Lib.hid hS
  clear HF3' hS HF2
  have GD := Lib.hid HD
  clear HD
  go_wp2_with fail
  refine (GD.out _).mono ?_
  rintro e w4 ⟨rfl, hb4⟩
  have HF4 := Lib.hid (HF3.out.keep hb4)
  clear hb4 HF3
  go_upto_region 5 with fail
  have HF5 := HF4.out.keep (w2 := w4.alloc (.cells #[.int .i64 26, .int .i64 A, .int .i64 B, .int .i64 C] 51)) ((Below.refl _ _).alloc (Nat.le_refl _) _)
  have hI := ins_new w4 26 A B C
  have hn8 := HF4.out.T.lt
  clear HF4
  revert HF5 hI
  generalize w4.alloc (.cells #[.int .i64 26, .int .i64 A, .int .i64 B, .int .i64 C] 51) = W5
  generalize w4.heap.size = n8 at *
  intro HF5' hI
  have HF5 := Lib.hid HF5'
  have i0 := hI.c0
  have i1 := hI.c1
  have i2 := hI.c2
  have i3 := hI.c3
  have HI := Lib.hid hI
  clear HF5' hI
  have p85 := HF5.out.R.cpc
  have p95 := HF5.out.R.cring
  have hl5 := HF5.out.R.load
  have t05 := HF5.out.T.c0
  have t15 := HF5.out.T.c1
  have tf5 := HF5.out.T.fz
  have hs5 := HF5.out.Z.store (g)
  have HZ5 := Lib.hid (HF5.out.outZ (g))
  have zf5 := HZ5.out.T.fz
  have z05 := HZ5.out.T.c0
  have z15 := HZ5.out.T.c1
  have HO := Lib.hid (HZ5.out.outT 3 0)
  go_wp2_with fail
  exact bodyPost_ret (two_results Try.results28 rfl rfl HO.out.Z HO.out.T) rfl ⟨rfl, HO.out.off, HO.out.Q⟩
end Go.Proofs.Ytopadiofanaaiaa.CpuLaw
