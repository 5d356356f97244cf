/- Stores. -/
import Derived.Test.YtopadiofanaaiaaCpuMem
namespace Go.Proofs.Ytopadiofanaaiaa.CpuLaw
open Go.RowKit
set_option linter.unusedVariables false
set_option linter.unusedSimpArgs false
attribute [local go_sem ↓] sub33_eq add33_eq or33_eq shl33_eq shr33_eq mul33_eq quo33_eq and33_eq xor33_eq narrow_eq wideB_eq conv33_eq conv83_eq conv8333_eq load61_eq store61_eq zero61 cells61
set_option maxRecDepth 100000 in
set_option maxHeartbeats 1000000 in
theorem mem_store {w : World} {g : G} {m m' : M} {rb b c A B k tt a : Nat} {C t : Int} (hR : Row w rb g) (hQ : Room w b c m) (q0 : rb ≠ b) (q1 : rb ≠ c) (hA : A < 8) (hB : B < 8) (hc : ∀ w, (conv33 (.int .i64 C)).run Try.prog w = .ok (.int .u32 k) w) (ht : ∀ w, (add33 (.int .u32 (g.r B)) (.int .u32 k)).run Try.prog w = .ok (.int .u32 tt) w) (HX : ∀ w1, Room w1 b c m → Calls Try.prog 46 #[bus b, .int .u32 tt, .int .u32 (g.r A)] w1 fun e w' => e = .returned (trap t a) ∧ Off c w1 w' ∧ Room w' b c m')
    : Calls Try.prog 40 #[.pointer (some ⟨rb, 0, none⟩), .agg #[.int .i64 17, .int .i64 A, .int .i64 B, .int .i64 C], bus b] w fun e w' => e = .returned (trap t a) ∧ Off2 rb c w w' ∧ Row w' rb (g) ∧ Room w' b c (m') := by
  have hA0 : 0 ≤ (A : Int) := by omega
  have hA8 : (A : Int) < 8 := by omega
  have hB0 : 0 ≤ (B : Int) := by omega
  have hB8 : (B : Int) < 8 := by omega
  go_enter Try.func40, Try.ntmps40
  go_upto_region 1 with fail
  have HF0 := mem_new hR hQ q0 q1 17 A B C
  revert HF0
  generalize (w.alloc (.cells #[.int .i64 17, .int .i64 A, .int .i64 B, .int .i64 C] 51)).alloc (.cells #[.int .i64 0, .int .u32 0] 63) = W
  intro HF0
  have HF := Lib.hid HF0
  clear HF0
  have hn := nil_store b
  have hm := meth_load b
  have hm2 := meth_store b
  have GX := Lib.hid HX
  clear HX hR hQ
  have ca := HF.out.R.cr hA
  have cb := HF.out.R.cr hB
  have i0 := HF.out.I.c0
  have i1 := HF.out.I.c1
  have i2 := HF.out.I.c2
  have i3 := HF.out.I.c3
  have f0 := HF.out.R.fz
  have t0 := HF.out.T.c0
  have t1 := HF.out.T.c1
  have f1 := HF.out.T.fz
  go_wp2
  go_region
  go_wp2_with fail
  go_region_with (go_at_call 46; refine (GX.out _ ?_).mono ?_; exact HF.out.drew.drew.Q; rintro e w2 ⟨rfl, ho, hq⟩; have HF2 := Lib.hid (HF.out.drew.drew.put ho hq); have e0 := HF2.out.T.c0; have e1 := HF2.out.T.c1; have e2 := HF2.out.T.fz; clear ho hq)
  have HO := Lib.hid (HF2.out.out t a)
  go_wp2_with fail
  exact bodyPost_ret (results_cell1 rfl rfl HO.out.T) rfl ⟨rfl, HO.out.off, HO.out.R, HO.out.Q⟩
set_option maxRecDepth 100000 in
set_option maxHeartbeats 1000000 in
theorem mem_storeb {w : World} {g : G} {m m' : M} {rb b c A B k tt x : Nat} {C t : Int} (hR : Row w rb g) (hQ : Room w b c m) (q0 : rb ≠ b) (q1 : rb ≠ c) (hA : A < 8) (hB : B < 8) (hc : ∀ w, (conv33 (.int .i64 C)).run Try.prog w = .ok (.int .u32 k) w) (ht : ∀ w, (add33 (.int .u32 (g.r B)) (.int .u32 k)).run Try.prog w = .ok (.int .u32 tt) w) (HX : ∀ w1, Room w1 b c m → Calls Try.prog 63 #[.pointer (some ⟨b, 0, none⟩), .int .u32 tt, .int .u8 x] w1 fun e w' => e = .returned (.int .i64 0) ∧ Off c w1 w' ∧ Room w' b c m') (v : ∀ w, (narrow (.int .u32 (g.r A))).run Try.prog w = .ok (.int .u8 x) w)
    : Calls Try.prog 40 #[.pointer (some ⟨rb, 0, none⟩), .agg #[.int .i64 18, .int .i64 A, .int .i64 B, .int .i64 C], bus b] w fun e w' => e = .returned (trap 0 0) ∧ Off2 rb c w w' ∧ Row w' rb (g) ∧ Room w' b c (m') := by
  have hA0 : 0 ≤ (A : Int) := by omega
  have hA8 : (A : Int) < 8 := by omega
  have hB0 : 0 ≤ (B : Int) := by omega
  have hB8 : (B : Int) < 8 := by omega
  go_enter Try.func40, Try.ntmps40
  go_upto_region 1 with fail
  have HF0 := mem_new hR hQ q0 q1 18 A B C
  revert HF0
  generalize (w.alloc (.cells #[.int .i64 18, .int .i64 A, .int .i64 B, .int .i64 C] 51)).alloc (.cells #[.int .i64 0, .int .u32 0] 63) = W
  intro HF0
  have HF := Lib.hid HF0
  clear HF0
  have hn := nil_store b
  have hm := meth_load b
  have hm2 := meth_store b
  have GX := Lib.hid HX
  clear HX hR hQ
  have ca := HF.out.R.cr hA
  have cb := HF.out.R.cr hB
  have i0 := HF.out.I.c0
  have i1 := HF.out.I.c1
  have i2 := HF.out.I.c2
  have i3 := HF.out.I.c3
  have f0 := HF.out.R.fz
  have t0 := HF.out.T.c0
  have t1 := HF.out.T.c1
  have f1 := HF.out.T.fz
  go_wp2
  go_region
  go_wp2_with fail
  go_region_with (go_at_call 63; refine (GX.out _ ?_).mono ?_; exact HF.out.drew.drew.Q; rintro e w2 ⟨rfl, ho, hq⟩; have HF2 := Lib.hid (HF.out.drew.drew.put ho hq); have e0 := HF2.out.T.c0; have e1 := HF2.out.T.c1; have e2 := HF2.out.T.fz; clear ho hq)
  all_goals have HO := Lib.hid (HF2.out.out 0 0)
  all_goals go_wp2_with fail
  all_goals (exact bodyPost_ret (results_cell1 rfl rfl HO.out.T) rfl ⟨rfl, HO.out.off, HO.out.R, HO.out.Q⟩)
set_option maxRecDepth 100000 in
set_option maxHeartbeats 1000000 in
theorem mem_storeb_bad {w : World} {g : G} {m m' : M} {rb b c A B k tt x : Nat} {C t : Int} (hR : Row w rb g) (hQ : Room w b c m) (q0 : rb ≠ b) (q1 : rb ≠ c) (hA : A < 8) (hB : B < 8) (hc : ∀ w, (conv33 (.int .i64 C)).run Try.prog w = .ok (.int .u32 k) w) (ht : ∀ w, (add33 (.int .u32 (g.r B)) (.int .u32 k)).run Try.prog w = .ok (.int .u32 tt) w) (HX : ∀ w1, Room w1 b c m → Calls Try.prog 63 #[.pointer (some ⟨b, 0, none⟩), .int .u32 tt, .int .u8 x] w1 fun e w' => e = .returned (.int .i64 11) ∧ Off c w1 w' ∧ Room w' b c m) (v : ∀ w, (narrow (.int .u32 (g.r A))).run Try.prog w = .ok (.int .u8 x) w)
    : Calls Try.prog 40 #[.pointer (some ⟨rb, 0, none⟩), .agg #[.int .i64 18, .int .i64 A, .int .i64 B, .int .i64 C], bus b] w fun e w' => e = .returned (trap 2 tt) ∧ Off2 rb c w w' ∧ Row w' rb (g) ∧ Room w' b c (m) := by
  have hA0 : 0 ≤ (A : Int) := by omega
  have hA8 : (A : Int) < 8 := by omega
  have hB0 : 0 ≤ (B : Int) := by omega
  have hB8 : (B : Int) < 8 := by omega
  go_enter Try.func40, Try.ntmps40
  go_upto_region 1 with fail
  have HF0 := mem_new hR hQ q0 q1 18 A B C
  revert HF0
  generalize (w.alloc (.cells #[.int .i64 18, .int .i64 A, .int .i64 B, .int .i64 C] 51)).alloc (.cells #[.int .i64 0, .int .u32 0] 63) = W
  intro HF0
  have HF := Lib.hid HF0
  clear HF0
  have hn := nil_store b
  have hm := meth_load b
  have hm2 := meth_store b
  have GX := Lib.hid HX
  clear HX hR hQ
  have ca := HF.out.R.cr hA
  have cb := HF.out.R.cr hB
  have i0 := HF.out.I.c0
  have i1 := HF.out.I.c1
  have i2 := HF.out.I.c2
  have i3 := HF.out.I.c3
  have f0 := HF.out.R.fz
  have t0 := HF.out.T.c0
  have t1 := HF.out.T.c1
  have f1 := HF.out.T.fz
  go_wp2
  go_region
  go_wp2_with fail
  go_region_with (go_at_call 63; refine (GX.out _ ?_).mono ?_; exact HF.out.drew.drew.Q; rintro e w2 ⟨rfl, ho, hq⟩; have HF2 := Lib.hid (HF.out.drew.drew.put ho hq); have e0 := HF2.out.T.c0; have e1 := HF2.out.T.c1; have e2 := HF2.out.T.fz; clear ho hq)
  all_goals have HO := Lib.hid (HF2.out.out 2 tt)
  all_goals go_wp2_with fail
  all_goals (exact bodyPost_ret (results_cell1 rfl rfl HO.out.T) rfl ⟨rfl, HO.out.off, HO.out.R, HO.out.Q⟩)
end Go.Proofs.Ytopadiofanaaiaa.CpuLaw
