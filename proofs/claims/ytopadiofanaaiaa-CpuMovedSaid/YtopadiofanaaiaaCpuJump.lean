/- The walk of cpu.jump. -/
import Derived.Test.YtopadiofanaaiaaCpuOther
namespace Go.Proofs.Ytopadiofanaaiaa.CpuLaw
open Go.RowKit
set_option linter.unusedVariables false
set_option linter.unusedSimpArgs false
attribute [local go_sem ↓] sub33_eq add33_eq or33_eq shl33_eq shr33_eq mul33_eq quo33_eq and33_eq xor33_eq narrow_eq wideB_eq conv33_eq conv83_eq conv8333_eq load61_eq store61_eq zero61 cells61
/-- the registers of the caller and the one block of a call of jump -/
structure Jmp (w w1 : World) (n rb : Nat) (g : G) (op : Int) (a b : Nat) (c : Int) : Prop where
  hn : w.heap.size = n
  lt : rb < n
  off : Off rb w w1
  R : Row w1 rb g
  I : InsAt w1 n op a b c
section
variable {w w1 : World} {n rb : Nat} {g : G} {op : Int} {a b : Nat} {c : Int}
theorem Off.drew {c : Nat} {w w1 : World} (h : Off c w w1) : Off c w w1.drew := h.trans (.of (Below.refl _ _).drew)
theorem Off.set' {c i : Nat} {w w1 : World} {v : Value} (h : Off c w w1) : Off c w (w1.setCell ⟨c, i, none⟩ v) := h.trans (.set _ _)
theorem Jmp.drew (h : Jmp w w1 n rb g op a b c) : Jmp w w1.drew n rb g op a b c := ⟨h.hn, h.lt, h.off.drew, h.R.keep (Below.refl _ _).drew, h.I.keep (Below.refl _ _).drew⟩
theorem Jmp.setPc (h : Jmp w w1 n rb g op a b c) (x : Nat) : Jmp w (w1.setCell ⟨rb, 8, none⟩ (.int .u32 x)) n rb ⟨g.r, x, g.ring⟩ op a b c := ⟨h.hn, h.lt, h.off.set', h.R.setPc x, h.I.setO (Nat.ne_of_lt h.lt) _⟩
theorem Jmp.setReg (h : Jmp w w1 n rb g op a b c) {k : Nat} (hk : k < 8) (x : Nat) : Jmp w (w1.setCell ⟨rb, k, none⟩ (.int .u32 x)) n rb (setR g k x) op a b c := ⟨h.hn, h.lt, h.off.set', h.R.setReg hk x, h.I.setO (Nat.ne_of_lt h.lt) _⟩
theorem jmp_new (h : Row w rb g) (op : Int) (a b : Nat) (c : Int) : Jmp w (w.alloc (.cells #[.int .i64 op, .int .i64 a, .int .i64 b, .int .i64 c] 51)) w.heap.size rb g op a b c :=
  ⟨rfl, h.lt, .of (Go.Joins.below_alloc1 _ _), h.alloc _, ins_new w op a b c⟩
end
set_option maxRecDepth 100000 in
set_option maxHeartbeats 1000000 in
theorem jump_jump {w : World} {g : G} {rb at' A B k tt : Nat} {C : Int} (hR : Row w rb g) (hA : A < 8) (hB : B < 8) (hc : ∀ w, (conv33 (.int .i64 C)).run Try.prog w = .ok (.int .u32 k) w) (ht : ∀ w, (add33 (.int .u32 at') (.int .u32 k)).run Try.prog w = .ok (.int .u32 tt) w) 
    : Calls Try.prog 41 #[.pointer (some ⟨rb, 0, none⟩), .agg #[.int .i64 19, .int .i64 A, .int .i64 B, .int .i64 C], .int .u32 at'] w fun e w' => e = .returned (.tuple #[]) ∧ Off rb w w' ∧ Row w' rb (⟨g.r, tt, g.ring⟩) := by
  have hA0 : 0 ≤ (A : Int) := by omega
  have hA8 : (A : Int) < 8 := by omega
  have hB0 : 0 ≤ (B : Int) := by omega
  have hB8 : (B : Int) < 8 := by omega
  go_enter Try.func41, Try.ntmps41
  go_upto_region 1 with fail
  have HF0 := jmp_new hR 19 A B C
  revert HF0
  generalize w.alloc (.cells #[.int .i64 19, .int .i64 A, .int .i64 B, .int .i64 C] 51) = W
  intro HF0
  have HF := Lib.hid HF0
  have HR0 := Lib.hid hR
  clear HF0 hR
  have ca := HF.out.R.cr hA
  have cb := HF.out.R.cr hB
  have i0 := HF.out.I.c0
  have i1 := HF.out.I.c1
  have i2 := HF.out.I.c2
  have i3 := HF.out.I.c3
  have f0 := HF.out.R.fz
  have p8 := HF.out.R.cpc
  have p9 := HF.out.R.cring
  have HG := Lib.hid (HF.out.setPc tt)
  go_wp2_with fail
  go_end0
  exact ⟨rfl, HG.out.off, HG.out.R⟩
set_option maxRecDepth 100000 in
set_option maxHeartbeats 1000000 in
theorem jump_zeroY {w : World} {g : G} {rb at' A B k tt : Nat} {C : Int} (hR : Row w rb g) (hA : A < 8) (hB : B < 8) (hc : ∀ w, (conv33 (.int .i64 C)).run Try.prog w = .ok (.int .u32 k) w) (ht : ∀ w, (add33 (.int .u32 at') (.int .u32 k)).run Try.prog w = .ok (.int .u32 tt) w) (hz : ((g.r A : Int) == 0) = true)
    : Calls Try.prog 41 #[.pointer (some ⟨rb, 0, none⟩), .agg #[.int .i64 20, .int .i64 A, .int .i64 B, .int .i64 C], .int .u32 at'] w fun e w' => e = .returned (.tuple #[]) ∧ Off rb w w' ∧ Row w' rb (⟨g.r, tt, g.ring⟩) := by
  have hA0 : 0 ≤ (A : Int) := by omega
  have hA8 : (A : Int) < 8 := by omega
  have hB0 : 0 ≤ (B : Int) := by omega
  have hB8 : (B : Int) < 8 := by omega
  go_enter Try.func41, Try.ntmps41
  go_upto_region 1 with fail
  have HF0 := jmp_new hR 20 A B C
  revert HF0
  generalize w.alloc (.cells #[.int .i64 20, .int .i64 A, .int .i64 B, .int .i64 C] 51) = W
  intro HF0
  have HF := Lib.hid HF0
  have HR0 := Lib.hid hR
  clear HF0 hR
  have ca := HF.out.R.cr hA
  have cb := HF.out.R.cr hB
  have i0 := HF.out.I.c0
  have i1 := HF.out.I.c1
  have i2 := HF.out.I.c2
  have i3 := HF.out.I.c3
  have f0 := HF.out.R.fz
  have p8 := HF.out.R.cpc
  have p9 := HF.out.R.cring
  have HG := Lib.hid ((HF.out.setPc tt).drew)
  go_wp2
  go_region
  go_wp2
  go_end0
  exact ⟨rfl, HG.out.off, HG.out.R⟩
set_option maxRecDepth 100000 in
set_option maxHeartbeats 1000000 in
theorem jump_zeroN {w : World} {g : G} {rb at' A B k tt : Nat} {C : Int} (hR : Row w rb g) (hA : A < 8) (hB : B < 8) (hc : ∀ w, (conv33 (.int .i64 C)).run Try.prog w = .ok (.int .u32 k) w) (ht : ∀ w, (add33 (.int .u32 at') (.int .u32 k)).run Try.prog w = .ok (.int .u32 tt) w) (hz : ((g.r A : Int) == 0) = false)
    : Calls Try.prog 41 #[.pointer (some ⟨rb, 0, none⟩), .agg #[.int .i64 20, .int .i64 A, .int .i64 B, .int .i64 C], .int .u32 at'] w fun e w' => e = .returned (.tuple #[]) ∧ Off rb w w' ∧ Row w' rb (g) := by
  have hA0 : 0 ≤ (A : Int) := by omega
  have hA8 : (A : Int) < 8 := by omega
  have hB0 : 0 ≤ (B : Int) := by omega
  have hB8 : (B : Int) < 8 := by omega
  go_enter Try.func41, Try.ntmps41
  go_upto_region 1 with fail
  have HF0 := jmp_new hR 20 A B C
  revert HF0
  generalize w.alloc (.cells #[.int .i64 20, .int .i64 A, .int .i64 B, .int .i64 C] 51) = W
  intro HF0
  have HF := Lib.hid HF0
  have HR0 := Lib.hid hR
  clear HF0 hR
  have ca := HF.out.R.cr hA
  have cb := HF.out.R.cr hB
  have i0 := HF.out.I.c0
  have i1 := HF.out.I.c1
  have i2 := HF.out.I.c2
  have i3 := HF.out.I.c3
  have f0 := HF.out.R.fz
  have p8 := HF.out.R.cpc
  have p9 := HF.out.R.cring
  have HG := Lib.hid (HF.out.drew.drew)
  go_wp2
  go_region
  go_wp2
  go_region
  go_wp2
  go_end0
  exact ⟨rfl, HG.out.off, HG.out.R⟩
set_option maxRecDepth 100000 in
set_option maxHeartbeats 1000000 in
theorem jump_lessY {w : World} {g : G} {rb at' A B k tt : Nat} {C : Int} (hR : Row w rb g) (hA : A < 8) (hB : B < 8) (hc : ∀ w, (conv33 (.int .i64 C)).run Try.prog w = .ok (.int .u32 k) w) (ht : ∀ w, (add33 (.int .u32 at') (.int .u32 k)).run Try.prog w = .ok (.int .u32 tt) w) (hz : g.r A < g.r B) (hz2 : decide (g.r A < g.r B) = true)
    : Calls Try.prog 41 #[.pointer (some ⟨rb, 0, none⟩), .agg #[.int .i64 21, .int .i64 A, .int .i64 B, .int .i64 C], .int .u32 at'] w fun e w' => e = .returned (.tuple #[]) ∧ Off rb w w' ∧ Row w' rb (⟨g.r, tt, g.ring⟩) := by
  have hA0 : 0 ≤ (A : Int) := by omega
  have hA8 : (A : Int) < 8 := by omega
  have hB0 : 0 ≤ (B : Int) := by omega
  have hB8 : (B : Int) < 8 := by omega
  go_enter Try.func41, Try.ntmps41
  go_upto_region 1 with fail
  have HF0 := jmp_new hR 21 A B C
  revert HF0
  generalize w.alloc (.cells #[.int .i64 21, .int .i64 A, .int .i64 B, .int .i64 C] 51) = W
  intro HF0
  have HF := Lib.hid HF0
  have HR0 := Lib.hid hR
  clear HF0 hR
  have ca := HF.out.R.cr hA
  have cb := HF.out.R.cr hB
  have i0 := HF.out.I.c0
  have i1 := HF.out.I.c1
  have i2 := HF.out.I.c2
  have i3 := HF.out.I.c3
  have f0 := HF.out.R.fz
  have p8 := HF.out.R.cpc
  have p9 := HF.out.R.cring
  have HG := Lib.hid ((HF.out.setPc tt).drew.drew)
  go_wp2
  go_region
  go_wp2
  go_region
  go_wp2
  go_end0
  exact ⟨rfl, HG.out.off, HG.out.R⟩
set_option maxRecDepth 100000 in
set_option maxHeartbeats 1000000 in
theorem jump_lessN {w : World} {g : G} {rb at' A B k tt : Nat} {C : Int} (hR : Row w rb g) (hA : A < 8) (hB : B < 8) (hc : ∀ w, (conv33 (.int .i64 C)).run Try.prog w = .ok (.int .u32 k) w) (ht : ∀ w, (add33 (.int .u32 at') (.int .u32 k)).run Try.prog w = .ok (.int .u32 tt) w) (hz : ¬ g.r A < g.r B) (hz2 : decide (g.r A < g.r B) = false)
    : Calls Try.prog 41 #[.pointer (some ⟨rb, 0, none⟩), .agg #[.int .i64 21, .int .i64 A, .int .i64 B, .int .i64 C], .int .u32 at'] w fun e w' => e = .returned (.tuple #[]) ∧ Off rb w w' ∧ Row w' rb (g) := by
  have hA0 : 0 ≤ (A : Int) := by omega
  have hA8 : (A : Int) < 8 := by omega
  have hB0 : 0 ≤ (B : Int) := by omega
  have hB8 : (B : Int) < 8 := by omega
  go_enter Try.func41, Try.ntmps41
  go_upto_region 1 with fail
  have HF0 := jmp_new hR 21 A B C
  revert HF0
  generalize w.alloc (.cells #[.int .i64 21, .int .i64 A, .int .i64 B, .int .i64 C] 51) = W
  intro HF0
  have HF := Lib.hid HF0
  have HR0 := Lib.hid hR
  clear HF0 hR
  have ca := HF.out.R.cr hA
  have cb := HF.out.R.cr hB
  have i0 := HF.out.I.c0
  have i1 := HF.out.I.c1
  have i2 := HF.out.I.c2
  have i3 := HF.out.I.c3
  have f0 := HF.out.R.fz
  have p8 := HF.out.R.cpc
  have p9 := HF.out.R.cring
  have HG := Lib.hid (HF.out.drew.drew)
  go_wp2
  go_region
  go_wp2
  go_region
  go_wp2
  go_end0
  exact ⟨rfl, HG.out.off, HG.out.R⟩
set_option maxRecDepth 100000 in
set_option maxHeartbeats 1000000 in
theorem jump_call {w : World} {g : G} {rb at' A B k tt z : Nat} {C : Int} (hR : Row w rb g) (hA : A < 8) (hB : B < 8) (hc : ∀ w, (conv33 (.int .i64 C)).run Try.prog w = .ok (.int .u32 k) w) (ht : ∀ w, (add33 (.int .u32 at') (.int .u32 k)).run Try.prog w = .ok (.int .u32 tt) w) (h4 : ∀ w, (add33 (.int .u32 at') (.int .u32 4)).run Try.prog w = .ok (.int .u32 z) w)
    : Calls Try.prog 41 #[.pointer (some ⟨rb, 0, none⟩), .agg #[.int .i64 22, .int .i64 A, .int .i64 B, .int .i64 C], .int .u32 at'] w fun e w' => e = .returned (.tuple #[]) ∧ Off rb w w' ∧ Row w' rb (⟨(setR g A z).r, tt, g.ring⟩) := by
  have hA0 : 0 ≤ (A : Int) := by omega
  have hA8 : (A : Int) < 8 := by omega
  have hB0 : 0 ≤ (B : Int) := by omega
  have hB8 : (B : Int) < 8 := by omega
  go_enter Try.func41, Try.ntmps41
  go_upto_region 1 with fail
  have HF0 := jmp_new hR 22 A B C
  revert HF0
  generalize w.alloc (.cells #[.int .i64 22, .int .i64 A, .int .i64 B, .int .i64 C] 51) = W
  intro HF0
  have HF := Lib.hid HF0
  have HR0 := Lib.hid hR
  clear HF0 hR
  have ca := HF.out.R.cr hA
  have cb := HF.out.R.cr hB
  have i0 := HF.out.I.c0
  have i1 := HF.out.I.c1
  have i2 := HF.out.I.c2
  have i3 := HF.out.I.c3
  have f0 := HF.out.R.fz
  have p8 := HF.out.R.cpc
  have p9 := HF.out.R.cring
  have HG := Lib.hid (((HF.out.setReg hA z).setPc tt).drew.drew.drew)
  go_wp2
  go_region
  go_wp2
  go_region
  go_wp2
  go_region
  go_wp2
  go_end0
  exact ⟨rfl, HG.out.off, HG.out.R⟩
set_option maxRecDepth 100000 in
set_option maxHeartbeats 1000000 in
theorem jump_back {w : World} {g : G} {rb at' A B k tt : Nat} {C : Int} (hR : Row w rb g) (hA : A < 8) (hB : B < 8) (hc : ∀ w, (conv33 (.int .i64 C)).run Try.prog w = .ok (.int .u32 k) w) (ht : ∀ w, (add33 (.int .u32 at') (.int .u32 k)).run Try.prog w = .ok (.int .u32 tt) w) 
    : Calls Try.prog 41 #[.pointer (some ⟨rb, 0, none⟩), .agg #[.int .i64 23, .int .i64 A, .int .i64 B, .int .i64 C], .int .u32 at'] w fun e w' => e = .returned (.tuple #[]) ∧ Off rb w w' ∧ Row w' rb (⟨g.r, g.r A, g.ring⟩) := by
  have hA0 : 0 ≤ (A : Int) := by omega
  have hA8 : (A : Int) < 8 := by omega
  have hB0 : 0 ≤ (B : Int) := by omega
  have hB8 : (B : Int) < 8 := by omega
  go_enter Try.func41, Try.ntmps41
  go_upto_region 1 with fail
  have HF0 := jmp_new hR 23 A B C
  revert HF0
  generalize w.alloc (.cells #[.int .i64 23, .int .i64 A, .int .i64 B, .int .i64 C] 51) = W
  intro HF0
  have HF := Lib.hid HF0
  have HR0 := Lib.hid hR
  clear HF0 hR
  have ca := HF.out.R.cr hA
  have cb := HF.out.R.cr hB
  have i0 := HF.out.I.c0
  have i1 := HF.out.I.c1
  have i2 := HF.out.I.c2
  have i3 := HF.out.I.c3
  have f0 := HF.out.R.fz
  have p8 := HF.out.R.cpc
  have p9 := HF.out.R.cring
  have HG := Lib.hid ((HF.out.setPc (g.r A)).drew.drew.drew)
  go_wp2
  go_region
  go_wp2
  go_region
  go_wp2
  go_region
  go_wp2
  go_end0
  exact ⟨rfl, HG.out.off, HG.out.R⟩
end Go.Proofs.Ytopadiofanaaiaa.CpuLaw
