/- Swap. -/
import Derived.Test.YtopadiofanaaiaaCpuMem
namespace Go.Proofs.Ytopadiofanaaiaa.CpuLaw
open Go.RowKit
set_option linter.unusedVariables false
set_option linter.unusedSimpArgs false
attribute [local go_sem ↓] sub33_eq add33_eq or33_eq shl33_eq shr33_eq mul33_eq quo33_eq and33_eq xor33_eq narrow_eq wideB_eq conv33_eq conv83_eq conv8333_eq load61_eq store61_eq zero61 cells61
set_option maxRecDepth 100000 in
set_option maxHeartbeats 1000000 in
theorem mem_swap_f {w : World} {g : G} {m m' : M} {rb b c A B k tt x a : Nat} {C t : Int} (hR : Row w rb g) (hQ : Room w b c m) (q0 : rb ≠ b) (q1 : rb ≠ c) (hA : A < 8) (hB : B < 8) (hc : ∀ w, (conv33 (.int .i64 C)).run Try.prog w = .ok (.int .u32 k) w) (ht : ∀ w, (add33 (.int .u32 (g.r B)) (.int .u32 k)).run Try.prog w = .ok (.int .u32 tt) w) (HX : ∀ w1, Room w1 b c m → Calls Try.prog 38 #[bus b, .int .u32 tt, .int .i64 1] w1 fun e w' => e = .returned (.tuple #[.int .u32 x, trap t a]) ∧ Below w1.heap.size w1 w') (hb : (t == 0) = false)
    : Calls Try.prog 40 #[.pointer (some ⟨rb, 0, none⟩), .agg #[.int .i64 25, .int .i64 A, .int .i64 B, .int .i64 C], bus b] w fun e w' => e = .returned (trap t a) ∧ Off2 rb c w w' ∧ Row w' rb (g) ∧ Room w' b c (m) := by
  have hA0 : 0 ≤ (A : Int) := by omega
  have hA8 : (A : Int) < 8 := by omega
  have hB0 : 0 ≤ (B : Int) := by omega
  have hB8 : (B : Int) < 8 := by omega
  go_enter Try.func40, Try.ntmps40
  go_upto_region 1 with fail
  have HF0 := mem_new hR hQ q0 q1 25 A B C
  revert HF0
  generalize (w.alloc (.cells #[.int .i64 25, .int .i64 A, .int .i64 B, .int .i64 C] 51)).alloc (.cells #[.int .i64 0, .int .u32 0] 63) = W
  intro HF0
  have HF := Lib.hid HF0
  clear HF0
  have hn := nil_store b
  have hm := meth_load b
  have hm2 := meth_store b
  have GX := Lib.hid HX
  clear HX hR hQ
  have ca := HF.out.R.cr hA
  have cb := HF.out.R.cr hB
  have i0 := HF.out.I.c0
  have i1 := HF.out.I.c1
  have i2 := HF.out.I.c2
  have i3 := HF.out.I.c3
  have f0 := HF.out.R.fz
  have t0 := HF.out.T.c0
  have t1 := HF.out.T.c1
  have f1 := HF.out.T.fz
  go_wp2
  go_region
  go_wp2_with fail
  refine (GX.out _ HF.out.drew.Q).mono ?_
  rintro e w2 ⟨rfl, hb2⟩
  have HF2 := Lib.hid (HF.out.drew.keep hb2)
  clear hb2
  go_upto_region 22 with fail
  have HF3 := HF2.out.keep (w2 := w2.alloc (.cells #[.int .i64 t, .int .u32 a] 63)) ((Below.refl _ _).alloc (Nat.le_refl _) _)
  have hS := slot_of w2 t a
  have hnn := HF2.out.T.lt
  revert HF3 hS
  generalize w2.alloc (.cells #[.int .i64 t, .int .u32 a] 63) = W3
  generalize w2.heap.size = n2 at *
  intro HF3' hS
  have HF3 := Lib.hid HF3'
  have u0 := hS.c0
  have u1 := hS.c1
  have HS := Lib.hid hS
  clear HF3' hS
  have ca3 := HF3.out.R.cr hA
  have cb3 := HF3.out.R.cr hB
  have i03 := HF3.out.I.c0
  have i13 := HF3.out.I.c1
  have i23 := HF3.out.I.c2
  have i33 := HF3.out.I.c3
  have f03 := HF3.out.R.fz
  have t03 := HF3.out.T.c0
  have t13 := HF3.out.T.c1
  have f13 := HF3.out.T.fz
  have HO := Lib.hid (HF3.out.out t a)
  clear hnn
  go_wp2_with fail
  exact bodyPost_ret (results_cell1 rfl rfl HO.out.T) rfl ⟨rfl, HO.out.off, HO.out.R, HO.out.Q⟩
set_option maxRecDepth 100000 in
set_option maxHeartbeats 1000000 in
theorem mem_swap_p {w : World} {g : G} {m m' : M} {rb b c A B k tt x a : Nat} {C t : Int} (hR : Row w rb g) (hQ : Room w b c m) (q0 : rb ≠ b) (q1 : rb ≠ c) (hA : A < 8) (hB : B < 8) (hc : ∀ w, (conv33 (.int .i64 C)).run Try.prog w = .ok (.int .u32 k) w) (ht : ∀ w, (add33 (.int .u32 (g.r B)) (.int .u32 k)).run Try.prog w = .ok (.int .u32 tt) w) (HX : ∀ w1, Room w1 b c m → Calls Try.prog 38 #[bus b, .int .u32 tt, .int .i64 1] w1 fun e w' => e = .returned (.tuple #[.int .u32 x, trap 0 0]) ∧ Below w1.heap.size w1 w') (HY : ∀ w1, Room w1 b c m → Calls Try.prog 46 #[bus b, .int .u32 tt, .int .u32 (g.r A)] w1 fun e w' => e = .returned (trap t a) ∧ Off c w1 w' ∧ Room w' b c m') (hb : (t == 0) = false)
    : Calls Try.prog 40 #[.pointer (some ⟨rb, 0, none⟩), .agg #[.int .i64 25, .int .i64 A, .int .i64 B, .int .i64 C], bus b] w fun e w' => e = .returned (trap t a) ∧ Off2 rb c w w' ∧ Row w' rb (g) ∧ Room w' b c (m') := by
  have hA0 : 0 ≤ (A : Int) := by omega
  have hA8 : (A : Int) < 8 := by omega
  have hB0 : 0 ≤ (B : Int) := by omega
  have hB8 : (B : Int) < 8 := by omega
  go_enter Try.func40, Try.ntmps40
  go_upto_region 1 with fail
  have HF0 := mem_new hR hQ q0 q1 25 A B C
  revert HF0
  generalize (w.alloc (.cells #[.int .i64 25, .int .i64 A, .int .i64 B, .int .i64 C] 51)).alloc (.cells #[.int .i64 0, .int .u32 0] 63) = W
  intro HF0
  have HF := Lib.hid HF0
  clear HF0
  have hn := nil_store b
  have hm := meth_load b
  have hm2 := meth_store b
  have GX := Lib.hid HX
  clear HX hR hQ
  have GY := Lib.hid HY
  clear HY
  have ca := HF.out.R.cr hA
  have cb := HF.out.R.cr hB
  have i0 := HF.out.I.c0
  have i1 := HF.out.I.c1
  have i2 := HF.out.I.c2
  have i3 := HF.out.I.c3
  have f0 := HF.out.R.fz
  have t0 := HF.out.T.c0
  have t1 := HF.out.T.c1
  have f1 := HF.out.T.fz
  go_wp2
  go_region
  go_wp2_with fail
  refine (GX.out _ HF.out.drew.Q).mono ?_
  rintro e w2 ⟨rfl, hb2⟩
  have HF2 := Lib.hid (HF.out.drew.keep hb2)
  clear hb2
  go_upto_region 22 with fail
  have HF3 := HF2.out.keep (w2 := w2.alloc (.cells #[.int .i64 0, .int .u32 0] 63)) ((Below.refl _ _).alloc (Nat.le_refl _) _)
  have hS := slot_of w2 0 0
  have hnn := HF2.out.T.lt
  revert HF3 hS
  generalize w2.alloc (.cells #[.int .i64 0, .int .u32 0] 63) = W3
  generalize w2.heap.size = n2 at *
  intro HF3' hS
  have HF3 := Lib.hid HF3'
  have u0 := hS.c0
  have u1 := hS.c1
  have HS := Lib.hid hS
  clear HF3' hS
  have ca3 := HF3.out.R.cr hA
  have cb3 := HF3.out.R.cr hB
  have i03 := HF3.out.I.c0
  have i13 := HF3.out.I.c1
  have i23 := HF3.out.I.c2
  have i33 := HF3.out.I.c3
  have f03 := HF3.out.R.fz
  have t03 := HF3.out.T.c0
  have t13 := HF3.out.T.c1
  have f13 := HF3.out.T.fz
  have hnc : n2 ≠ c := by have := HF3.out.l2; omega
  have hn1 : w.heap.size + 1 < n2 := hnn
  go_wp2_with fail
  go_region_with (go_at_call 46; refine (GY.out _ ?_).mono ?_; exact HF3.out.drew.Q; rintro e w4 ⟨rfl, ho, hq⟩; have HF4 := Lib.hid (HF3.out.drew.put ho hq); have HS4 := Lib.hid ((HS.out.keep (Off.of (c := c) (Below.refl _ _).drew) hnc).keep ho hnc); have s0 := HS4.out.c0; have s1 := HS4.out.c1; have s2 := HS4.out.fz; clear ho hq)
  go_upto_region 24 with fail
  have HF5 := (HF4.out.other (i := 0) (v := .int .i64 t) hn1).other (i := 1) (v := .int .u32 a) hn1
  have HS5 := HS4.out.set2 t a
  clear s0 s1 s2
  revert HF5 HS5
  generalize (w4.setCell ⟨n2, 0, none⟩ (.int .i64 t)).setCell ⟨n2, 1, none⟩ (.int .u32 a) = W5
  intro HF5' HS5'
  have HF5 := Lib.hid HF5'
  have HS5 := Lib.hid HS5'
  have y0 := HS5'.c0
  have y1 := HS5'.c1
  clear HF5' HS5'
  have ca5 := HF5.out.R.cr hA
  have cb5 := HF5.out.R.cr hB
  have i05 := HF5.out.I.c0
  have i15 := HF5.out.I.c1
  have i25 := HF5.out.I.c2
  have i35 := HF5.out.I.c3
  have f05 := HF5.out.R.fz
  have t05 := HF5.out.T.c0
  have t15 := HF5.out.T.c1
  have f15 := HF5.out.T.fz
  have HO := Lib.hid (HF5.out.out t a)
  go_wp2_with fail
  exact bodyPost_ret (results_cell1 rfl rfl HO.out.T) rfl ⟨rfl, HO.out.off, HO.out.R, HO.out.Q⟩
set_option maxRecDepth 100000 in
set_option maxHeartbeats 1000000 in
theorem mem_swap {w : World} {g : G} {m m' : M} {rb b c A B k tt x : Nat} {C t : Int} (hR : Row w rb g) (hQ : Room w b c m) (q0 : rb ≠ b) (q1 : rb ≠ c) (hA : A < 8) (hB : B < 8) (hc : ∀ w, (conv33 (.int .i64 C)).run Try.prog w = .ok (.int .u32 k) w) (ht : ∀ w, (add33 (.int .u32 (g.r B)) (.int .u32 k)).run Try.prog w = .ok (.int .u32 tt) w) (HX : ∀ w1, Room w1 b c m → Calls Try.prog 38 #[bus b, .int .u32 tt, .int .i64 1] w1 fun e w' => e = .returned (.tuple #[.int .u32 x, trap 0 0]) ∧ Below w1.heap.size w1 w') (HY : ∀ w1, Room w1 b c m → Calls Try.prog 46 #[bus b, .int .u32 tt, .int .u32 (g.r A)] w1 fun e w' => e = .returned (trap 0 0) ∧ Off c w1 w' ∧ Room w' b c m')
    : Calls Try.prog 40 #[.pointer (some ⟨rb, 0, none⟩), .agg #[.int .i64 25, .int .i64 A, .int .i64 B, .int .i64 C], bus b] w fun e w' => e = .returned (trap 0 0) ∧ Off2 rb c w w' ∧ Row w' rb (setR g A x) ∧ Room w' b c (m') := by
  have hA0 : 0 ≤ (A : Int) := by omega
  have hA8 : (A : Int) < 8 := by omega
  have hB0 : 0 ≤ (B : Int) := by omega
  have hB8 : (B : Int) < 8 := by omega
  go_enter Try.func40, Try.ntmps40
  go_upto_region 1 with fail
  have HF0 := mem_new hR hQ q0 q1 25 A B C
  revert HF0
  generalize (w.alloc (.cells #[.int .i64 25, .int .i64 A, .int .i64 B, .int .i64 C] 51)).alloc (.cells #[.int .i64 0, .int .u32 0] 63) = W
  intro HF0
  have HF := Lib.hid HF0
  clear HF0
  have hn := nil_store b
  have hm := meth_load b
  have hm2 := meth_store b
  have GX := Lib.hid HX
  clear HX hR hQ
  have GY := Lib.hid HY
  clear HY
  have ca := HF.out.R.cr hA
  have cb := HF.out.R.cr hB
  have i0 := HF.out.I.c0
  have i1 := HF.out.I.c1
  have i2 := HF.out.I.c2
  have i3 := HF.out.I.c3
  have f0 := HF.out.R.fz
  have t0 := HF.out.T.c0
  have t1 := HF.out.T.c1
  have f1 := HF.out.T.fz
  go_wp2
  go_region
  go_wp2_with fail
  refine (GX.out _ HF.out.drew.Q).mono ?_
  rintro e w2 ⟨rfl, hb2⟩
  have HF2 := Lib.hid (HF.out.drew.keep hb2)
  clear hb2
  go_upto_region 22 with fail
  have HF3 := HF2.out.keep (w2 := w2.alloc (.cells #[.int .i64 0, .int .u32 0] 63)) ((Below.refl _ _).alloc (Nat.le_refl _) _)
  have hS := slot_of w2 0 0
  have hnn := HF2.out.T.lt
  revert HF3 hS
  generalize w2.alloc (.cells #[.int .i64 0, .int .u32 0] 63) = W3
  generalize w2.heap.size = n2 at *
  intro HF3' hS
  have HF3 := Lib.hid HF3'
  have u0 := hS.c0
  have u1 := hS.c1
  have HS := Lib.hid hS
  clear HF3' hS
  have ca3 := HF3.out.R.cr hA
  have cb3 := HF3.out.R.cr hB
  have i03 := HF3.out.I.c0
  have i13 := HF3.out.I.c1
  have i23 := HF3.out.I.c2
  have i33 := HF3.out.I.c3
  have f03 := HF3.out.R.fz
  have t03 := HF3.out.T.c0
  have t13 := HF3.out.T.c1
  have f13 := HF3.out.T.fz
  have hnc : n2 ≠ c := by have := HF3.out.l2; omega
  have hn1 : w.heap.size + 1 < n2 := hnn
  go_wp2_with fail
  go_region_with (go_at_call 46; refine (GY.out _ ?_).mono ?_; exact HF3.out.drew.Q; rintro e w4 ⟨rfl, ho, hq⟩; have HF4 := Lib.hid (HF3.out.drew.put ho hq); have HS4 := Lib.hid ((HS.out.keep (Off.of (c := c) (Below.refl _ _).drew) hnc).keep ho hnc); have s0 := HS4.out.c0; have s1 := HS4.out.c1; have s2 := HS4.out.fz; clear ho hq)
  go_upto_region 24 with fail
  have HF5 := (HF4.out.other (i := 0) (v := .int .i64 0) hn1).other (i := 1) (v := .int .u32 0) hn1
  have HS5 := HS4.out.set2 0 0
  clear s0 s1 s2
  revert HF5 HS5
  generalize (w4.setCell ⟨n2, 0, none⟩ (.int .i64 0)).setCell ⟨n2, 1, none⟩ (.int .u32 0) = W5
  intro HF5' HS5'
  have HF5 := Lib.hid HF5'
  have HS5 := Lib.hid HS5'
  have y0 := HS5'.c0
  have y1 := HS5'.c1
  clear HF5' HS5'
  have ca5 := HF5.out.R.cr hA
  have cb5 := HF5.out.R.cr hB
  have i05 := HF5.out.I.c0
  have i15 := HF5.out.I.c1
  have i25 := HF5.out.I.c2
  have i35 := HF5.out.I.c3
  have f05 := HF5.out.R.fz
  have t05 := HF5.out.T.c0
  have t15 := HF5.out.T.c1
  have f15 := HF5.out.T.fz
  have hno : rb ≠ n2 := by have := HF5.out.l0; omega
  have HG := Lib.hid (HF5.out.setReg hA x)
  have hS6 := HS5.out.setO hno (v := .int .u32 x) (i := A)
  have v0 := hS6.c0
  have v1 := hS6.c1
  clear hS6 hno hnn
  have ca6 := HG.out.R.cr hA
  have cb6 := HG.out.R.cr hB
  have i06 := HG.out.I.c0
  have i16 := HG.out.I.c1
  have i26 := HG.out.I.c2
  have i36 := HG.out.I.c3
  have f06 := HG.out.R.fz
  have t06 := HG.out.T.c0
  have t16 := HG.out.T.c1
  have f16 := HG.out.T.fz
  have HO := Lib.hid (HG.out.out 0 0).drew
  go_wp2_with fail
  go_region
  go_wp2_with fail
  exact bodyPost_ret (results_cell1 rfl rfl HO.out.T) rfl ⟨rfl, HO.out.off, HO.out.R, HO.out.Q⟩
end Go.Proofs.Ytopadiofanaaiaa.CpuLaw
