/- The walk of cpu.fetch over the kernel's bus. The walk of cpu.Step: jumps. The walk of cpu.Step: the other ones. cpu.Step over the kernel's bus: additions of a constant, and jumps. The walks of kernel.Step: a processor that nobody runs on; handled. -/
import Derived.Test.YtnbhohaphmilmaaGreatDoorSpP
import Derived.Test.YtnbhohaphmilmaaGreatDoorKerG
import Derived.Test.YtnbhohaphmilmaaGreatDoorSprT
namespace Go.Proofs.YtnbhohaphmilmaaGreatDoor.CpuLaw
open Go.RowKit
set_option linter.unusedVariables false
set_option linter.unusedSimpArgs false
attribute [local go_sem ↓] sub33_eq add33_eq or33_eq shl33_eq wideB_eq
theorem meth_load (v : Value) (w : World) : (method 671 123 v "Load").run Tryz.prog w = .ok (459, v) w := by kernel_rfl
/-- the bus of space s -/
abbrev kbus (M : Nat) (s : Int) : Value := .iface 123 (.agg #[.pointer (some ⟨M, 0, none⟩), .int .i64 s])
/-- the memory, whatever pages are in frames -/
def MemQ (M so : Nat) (fr sl : Int) (m : MS) (w : World) : Prop := ∃ h', MemG w M so fr sl { m with h := h' }
def memS (M : Nat) (m : MS) (k : Nat) : Prop := k = M ∨ k ∈ m.pl
theorem Off.toUpd {w w' : World} {d : Nat} (h : Off d w w') : Upd (fun k => k = d) w w' := by
  have hb := h.low 0 (Nat.zero_le _) (Nat.zero_le _)
  exact ⟨hb.os, hb.tape, hb.output, h.size, h.keep⟩
theorem mB_h {M so : Nat} {m : MS} {h' : Nat → Bool} {k : Nat} (h : mB M so { m with h := h' } k) : mB M so m k := h
theorem memQ_calm {M so : Nat} {fr sl : Int} {m : MS} {w : World} (h : MemG w M so fr sl m) : CalmQ (MemQ M so fr sl m) (memS M m) w.heap.size := by
  refine ⟨fun w1 w2 ⟨h', q⟩ hb => ⟨h', q.keep hb⟩, fun w1 w2 d ⟨h', q⟩ hd ho => ⟨h', q.upd ho.toUpd fun k hk e => ?_⟩, fun k hk => ?_⟩
  · have := h.lt (mB_h hk)
    have e : k = d := e
    omega
  · rcases hk with q | q
    · exact h.lt (.inl q)
    · exact h.lt (.inr (.inr (.inr (.inr q))))
section
variable {w : World} {M so g b : Nat} {fr sl s pg o r wt : Int} {m : MS}
theorem here_or {h' : Nat → Bool} (hg : g ∈ m.pl) (hl : (m.pl.length : Int) ≤ fr) : h' g = true ∨ ((m.pl.countP h' : Nat) : Int) < fr := by
  cases e : h' g
  · right
    have h1 := List.countP_le_length (p := h') (l := m.pl)
    have h2 : m.pl.countP h' ≠ m.pl.length := fun q => by
      have := List.countP_eq_length.1 q g hg
      rw [e] at this
      cases this
    omega
  · exact .inl rfl
/-- one byte over the bus -/
theorem ld1 (hQ : MemQ M so fr sl m w) (hs : m.S s = some b) (hwf : (Lit.int .i64 s).wf = true) (h0 : 0 ≤ pg) (h63 : pg < 64) (hF : m.F b pg = some (g, r)) (hg : g ∈ m.pl) (hl : (m.pl.length : Int) ≤ fr) {ad : Nat} (had : (ad : Int) = 16 * pg + o) (o0 : 0 ≤ o) (o16 : o < 16) (hw1 : wt = 1 ∨ wt = 4) (hw : bits .and .i64 r wt = wt) {x : Nat} (hx : m.d g o.toNat = (x : Int)) :
    Calls Tryz.prog 459 #[.agg #[.pointer (some ⟨M, 0, none⟩), .int .i64 s], .int .u32 ad, .int .i64 wt] w fun e w' => e = .returned (.tuple #[.int .u8 x, .int .i64 0]) ∧ MemQ M so fr sl m w' ∧ Upd (memS M m) w w' := by
  obtain ⟨h', hm⟩ := hQ
  refine (bload_is hm hs hwf h0 h63 hF hg (here_or hg hl) had o0 o16 hw1 hw).mono ?_
  rintro e w' ⟨rfl, hm', hu⟩
  refine ⟨?_, ⟨_, hm'⟩, hu.mono fun k _ e => ?_⟩
  · show Ending.returned (.tuple #[.int .u8 (m.d g o.toNat), .int .i64 0]) = _
    rw [hx]
  · rcases e with e | e
    · exact .inl e
    · exact .inr (by rw [e]; exact hg)
abbrev LdIs (Q : World → Prop) (S : Nat → Prop) (M : Nat) (s wt : Int) (a x : Nat) : Prop := ∀ w1, Q w1 → Calls Tryz.prog 459 #[.agg #[.pointer (some ⟨M, 0, none⟩), .int .i64 s], .int .u32 a, .int .i64 wt] w1 fun e w' => e = .returned (.tuple #[.int .u8 x, .int .i64 0]) ∧ Q w' ∧ Upd S w1 w'
end
set_option maxRecDepth 100000 in
set_option maxHeartbeats 1000000 in
theorem fetch_walk {w : World} {M : Nat} {s : Int} {Q : World → Prop} {S : Nat → Prop} {B : Nat} {a a1 a2 a3 x0 x1 x2 x3 y0 y1 y2 y3 z0 z1 z2 z3 : Nat} {want : Int} (hK : CalmQ Q S B) (hB : B ≤ w.heap.size) (hQ : Q w) (h4 : ((a : Int) % 4 != 0) = false)
    (d0 : ∀ w, (add33 (.int .u32 a) (.int .u32 0)).run Tryz.prog w = .ok (.int .u32 a) w) (v0 : ∀ w, (wideB (.int .u8 x0)).run Tryz.prog w = .ok (.int .u32 x0) w) (s0 : ∀ w, (shl33 (.int .u32 x0) (.int .u32 0)).run Tryz.prog w = .ok (.int .u32 y0) w) (t0 : ∀ w, (or33 (.int .u32 0) (.int .u32 y0)).run Tryz.prog w = .ok (.int .u32 z0) w)
    (H0 : LdIs Q S M s want a x0)
    (d1 : ∀ w, (add33 (.int .u32 a) (.int .u32 1)).run Tryz.prog w = .ok (.int .u32 a1) w) (v1 : ∀ w, (wideB (.int .u8 x1)).run Tryz.prog w = .ok (.int .u32 x1) w) (s1 : ∀ w, (shl33 (.int .u32 x1) (.int .u32 8)).run Tryz.prog w = .ok (.int .u32 y1) w) (t1 : ∀ w, (or33 (.int .u32 z0) (.int .u32 y1)).run Tryz.prog w = .ok (.int .u32 z1) w)
    (H1 : LdIs Q S M s want a1 x1)
    (d2 : ∀ w, (add33 (.int .u32 a) (.int .u32 2)).run Tryz.prog w = .ok (.int .u32 a2) w) (v2 : ∀ w, (wideB (.int .u8 x2)).run Tryz.prog w = .ok (.int .u32 x2) w) (s2 : ∀ w, (shl33 (.int .u32 x2) (.int .u32 16)).run Tryz.prog w = .ok (.int .u32 y2) w) (t2 : ∀ w, (or33 (.int .u32 z1) (.int .u32 y2)).run Tryz.prog w = .ok (.int .u32 z2) w)
    (H2 : LdIs Q S M s want a2 x2)
    (d3 : ∀ w, (add33 (.int .u32 a) (.int .u32 3)).run Tryz.prog w = .ok (.int .u32 a3) w) (v3 : ∀ w, (wideB (.int .u8 x3)).run Tryz.prog w = .ok (.int .u32 x3) w) (s3 : ∀ w, (shl33 (.int .u32 x3) (.int .u32 24)).run Tryz.prog w = .ok (.int .u32 y3) w) (t3 : ∀ w, (or33 (.int .u32 z2) (.int .u32 y3)).run Tryz.prog w = .ok (.int .u32 z3) w)
    (H3 : LdIs Q S M s want a3 x3)
    : Calls Tryz.prog 93 #[kbus M s, .int .u32 a, .int .i64 want] w fun e w' => e = .returned (.tuple #[.int .u32 z3, trap 0 0]) ∧ Q w' ∧ Upd S w w' := by
  have hm := meth_load (.agg #[.pointer (some ⟨M, 0, none⟩), .int .i64 s])
  have g0 : ∀ w, (add33 (.int .u32 0) (.int .u32 1)).run Tryz.prog w = .ok (.int .u32 1) w := step_u32 0 1 rfl (by decide)
  have g1 : ∀ w, (add33 (.int .u32 1) (.int .u32 1)).run Tryz.prog w = .ok (.int .u32 2) w := step_u32 1 2 rfl (by decide)
  have g2 : ∀ w, (add33 (.int .u32 2) (.int .u32 1)).run Tryz.prog w = .ok (.int .u32 3) w := step_u32 2 3 rfl (by decide)
  have g3 : ∀ w, (add33 (.int .u32 3) (.int .u32 1)).run Tryz.prog w = .ok (.int .u32 4) w := step_u32 3 4 rfl (by decide)
  have G0 := Lib.hid H0
  have G1 := Lib.hid H1
  have G2 := Lib.hid H2
  have G3 := Lib.hid H3
  have HK := Lib.hid hK
  have HB := Lib.hid hB
  have HQ0 := Lib.hid (hK.keep _ _ hQ (Go.Joins.below_alloc1 w (.cells #[.int .i64 0, .int .u32 0] 64)))
  have HU0 : Hid (Upd S w (w.alloc (.cells #[.int .i64 0, .int .u32 0] 64))) := Lib.hid (Upd.alloc _ _)
  have HS0 := Lib.hid (slot_new w)
  clear H0 H1 H2 H3 hK hQ hB
  have HN : Hid (¬ S w.heap.size) := Lib.hid fun e => by have := HK.out.low _ e; have := HB.out; omega
  go_enter Tryz.func93, Tryz.ntmps93
  go_upto_region 1 with fail
  obtain ⟨n, hn⟩ : ∃ n, n = w.heap.size := ⟨_, rfl⟩
  rw [← hn] at HS0 HN ⊢
  have HNB : Hid (w.heap.size ≤ n) := Lib.hid (by omega)
  clear hn
  generalize w.alloc (.cells #[.int .i64 0, .int .u32 0] 64) = W0 at *
  have HS1 : Hid (∀ w1 w2, Slot n 0 0 w1 → Upd S w1 w2 → Slot n 0 0 w2) := Lib.hid fun w1 w2 h u => h.keepU u HN.out
  go_wp2_with fail
  refine wp_loop_rounds 5 ?_
  rw [rounds_succ]
  go_wp2_with (go_at_call 459; refine (G0.out _ HQ0.out).mono ?_; rintro e w1 ⟨rfl, hq1, hu1⟩; have HQ1 := Lib.hid hq1; have HT1 := Lib.hid (HS1.out _ _ HS0.out hu1); have HU1 := Lib.hid (HU0.out.trans hu1); clear hq1 hu1)
  rw [rounds_succ]
  go_wp2_with (go_at_call 459; refine (G1.out _ HQ1.out).mono ?_; rintro e w2 ⟨rfl, hq2, hu2⟩; have HQ2 := Lib.hid hq2; have HT2 := Lib.hid (HS1.out _ _ HT1.out hu2); have HU2 := Lib.hid (HU1.out.trans hu2); clear hq2 hu2)
  rw [rounds_succ]
  go_wp2_with (go_at_call 459; refine (G2.out _ HQ2.out).mono ?_; rintro e w3 ⟨rfl, hq3, hu3⟩; have HQ3 := Lib.hid hq3; have HT3 := Lib.hid (HS1.out _ _ HT2.out hu3); have HU3 := Lib.hid (HU2.out.trans hu3); clear hq3 hu3)
  rw [rounds_succ]
  go_wp2_with (go_at_call 459; refine (G3.out _ HQ3.out).mono ?_; rintro e w4 ⟨rfl, hq4, hu4⟩; have HQ4 := Lib.hid hq4; have HT4 := Lib.hid (HS1.out _ _ HT3.out hu4); have HU4 := Lib.hid (HU3.out.trans hu4); clear hq4 hu4)
  rw [rounds_succ]
  have c0 := HT4.out.c0
  have c1 := HT4.out.c1
  have fz := HT4.out.fz
  go_wp2_with fail
  have hf := HT4.out.set2 0 0
  have hq := HK.out.own w4 ((w4.setCell ⟨n, 0, none⟩ (.int .i64 0)).setCell ⟨n, 1, none⟩ (.int .u32 0)) n HQ4.out (Nat.le_trans HB.out HNB.out) ((Off.set _ _).trans (.set _ _))
  have hu := Off.upd HU4.out (d := n) (w' := (w4.setCell ⟨n, 0, none⟩ (.int .i64 0)).setCell ⟨n, 1, none⟩ (.int .u32 0)) ((Off.set _ _).trans (.set _ _)) HNB.out
  have e0 := hf.c0
  have e1 := hf.c1
  generalize (w4.setCell ⟨n, 0, none⟩ (.int .i64 0)).setCell ⟨n, 1, none⟩ (.int .u32 0) = W9 at *
  exact bodyPost_ret (v := .tuple #[.int .u32 z3, trap 0 0]) (by simp [results, Tryz.results93, go_sem, e0, e1]) rfl ⟨rfl, hq, hu⟩
/-- a word of a page -/
theorem fetchK_is {w0 : World} {M so g b : Nat} {fr sl s pg : Int} {m : MS} {r : Int} (h : MemG w0 M so fr sl m) (hs : m.S s = some b) (hwf : (Lit.int .i64 s).wf = true) (h0 : 0 ≤ pg) (h63 : pg < 64) (hF : m.F b pg = some (g, r)) (hg : g ∈ m.pl) (hl : (m.pl.length : Int) ≤ fr) {want : Int} (hw1 : want = 1 ∨ want = 4) (hw : bits .and .i64 r want = want) {o a x0 x1 x2 x3 : Nat} (ho : o + 3 < 16) (h4 : o % 4 = 0) (ha : (a : Int) = 16 * pg + o)
    (e0 : m.d g o = (x0 : Int)) (e1 : m.d g (o + 1) = (x1 : Int)) (e2 : m.d g (o + 2) = (x2 : Int)) (e3 : m.d g (o + 3) = (x3 : Int)) (q0 : x0 < 256) (q1 : x1 < 256) (q2 : x2 < 256) (q3 : x3 < 256) {w : World} (hB : w0.heap.size ≤ w.heap.size) (hQ : MemQ M so fr sl m w) :
    Calls Tryz.prog 93 #[kbus M s, .int .u32 a, .int .i64 want] w fun e w' => e = .returned (.tuple #[.int .u32 (x0 + x1 * 256 + x2 * 65536 + x3 * 16777216 : Nat), trap 0 0]) ∧ MemQ M so fr sl m w' ∧ Upd (memS M m) w w' := by
  have hlt : a < 1024 := by omega
  refine fetch_walk (memQ_calm h) hB hQ (by simp; omega)
    (fun w => by have := up_u32 a 0 w; rw [up_zero (by omega)] at this; exact this) (v_ok q0) (s_ok 0 x0 1 q0 (by decide) rfl (by omega)) (t0_ok q0) (fun w1 hq => ld1 hq hs hwf h0 h63 hF hg hl (o := o) ha (by omega) (by omega) hw1 hw (by rw [Int.toNat_natCast]; exact e0))
    (up_u32 a 1) (v_ok q1) (s_ok 8 _ 256 q1 (by decide) rfl rfl) (t1_ok q0 q1) (fun w1 hq => ld1 hq hs hwf h0 h63 hF hg hl (o := ((o + 1 : Nat) : Int)) (by unfold up; omega) (by omega) (by omega) hw1 hw (by rw [Int.toNat_natCast]; exact e1))
    (up_u32 a 2) (v_ok q2) (s_ok 16 _ 65536 q2 (by decide) rfl rfl) (t2_ok q0 q1 q2) (fun w1 hq => ld1 hq hs hwf h0 h63 hF hg hl (o := ((o + 2 : Nat) : Int)) (by unfold up; omega) (by omega) (by omega) hw1 hw (by rw [Int.toNat_natCast]; exact e2))
    (up_u32 a 3) (v_ok q3) (s_ok 24 _ 16777216 q3 (by decide) rfl rfl) (t3_ok q0 q1 q2 q3) (fun w1 hq => ld1 hq hs hwf h0 h63 hF hg hl (o := ((o + 3 : Nat) : Int)) (by unfold up; omega) (by omega) (by omega) hw1 hw (by rw [Int.toNat_natCast]; exact e3))
end Go.Proofs.YtnbhohaphmilmaaGreatDoor.CpuLaw
namespace Go.Proofs.YtnbhohaphmilmaaGreatDoor.CpuLaw
open Go.RowKit
set_option linter.unusedVariables false
set_option linter.unusedSimpArgs false
attribute [local go_sem ↓] sub33_eq add33_eq or33_eq shl33_eq shr33_eq mul33_eq quo33_eq and33_eq xor33_eq narrow_eq wideB_eq conv33_eq conv83_eq conv8333_eq load61_eq store61_eq zero61 cells61
set_option maxRecDepth 100000 in
set_option maxHeartbeats 2000000 in
theorem step_jump {w : World} {g : G} {Q : World → Prop} {S : Nat → Prop} {bv : Value} {x A B pc4 : Nat} {t : Int} (hK : CalmQ Q S w.heap.size) (hQ : Q w) {g3 : G} (HX : FetchIs Q S bv g.pc x) {op C : Int} (HD : DecIs x op A B C 0) (hA : A < 8) (hB : B < 8) (hP : ∀ w, (add33 (.int .u32 g.pc) (.int .u32 4)).run Tryz.prog w = .ok (.int .u32 pc4) w) (n1 : (op == 1) = false) (n26 : (op == 26) = false) (o1 : 19 ≤ op) (o2 : op ≤ 23) (o3 : decide (5 ≤ op) = true) (o4 : decide (op ≤ 13) = false) (o5 : decide (15 ≤ op) = true) (o6 : decide (op ≤ 18) = false) (o7 : (op == 25) = false) (o8 : decide (19 ≤ op) = true) (o9 : decide (op ≤ 23) = true) (HJ : ∀ w1 rb, Row w1 rb ⟨g.r, pc4, g.ring⟩ → Calls Tryz.prog 97 #[.pointer (some ⟨rb, 0, none⟩), insA op A B C, .int .u32 g.pc] w1 fun e w' => e = .returned (.tuple #[]) ∧ Off rb w1 w' ∧ Row w' rb g3)
    : Calls Tryz.prog 45 #[.agg (cellsA g), bv] w fun e w' => e = .returned (.tuple #[.agg (cellsA (g3)), trap 0 0]) ∧ Upd S w w' ∧ Q w' := by
  have GJ := Lib.hid HJ
  clear HJ
  have hA0 : 0 ≤ (A : Int) := by omega
  have hA8 : (A : Int) < 8 := by omega
  have hB0 : 0 ≤ (B : Int) := by omega
  have hB8 : (B : Int) < 8 := by omega
  have GX := Lib.hid HX
  clear HX
  go_enter Tryz.func45, Tryz.ntmps45
  go_upto_region 1 with fail
  have HF0 := stp_new hK hQ g
  revert HF0
  generalize ((w.alloc (.cells (cellsA g) 36)).alloc (.cells (cellsA zeroG) 36)).alloc (.cells #[.int .i64 0, .int .u32 0] 64) = W
  intro HF0
  have HF := Lib.hid HF0
  clear HF0 hQ hK
  have p8 := HF.out.R.cpc
  have p9 := HF.out.R.cring
  have hl := HF.out.R.load
  have t0 := HF.out.T.c0
  have t1 := HF.out.T.c1
  have tf := HF.out.T.fz
  go_wp2_with fail
  refine (GX.out _ HF.out.Q).mono ?_
  rintro e w2 ⟨rfl, hq2, hu2⟩
  have HF2 := Lib.hid (HF.out.fetched hq2 hu2)
  clear hq2 hu2
  go_upto_region 2 with fail
  have HF3 := HF2.out.keep (w2 := w2.alloc (.cells #[.int .i64 0, .int .u32 0] 64)) ((Below.refl _ _).alloc (Nat.le_refl _) _)
  have hS := slot_of w2 0 0
  have hn7 := HF2.out.T.lt
  revert HF3 hS
  generalize w2.alloc (.cells #[.int .i64 0, .int .u32 0] 64) = W3
  generalize w2.heap.size = n7 at *
  intro HF3' hS
  have HF3 := Lib.hid HF3'
  have u0 := hS.c0
  have u1 := hS.c1
  have HS := Lib.hid hS
  clear HF3' hS HF2
  have GD := Lib.hid HD
  clear HD
  go_wp2_with fail
  refine (GD.out _).mono ?_
  rintro e w4 ⟨rfl, hb4⟩
  have HF4 := Lib.hid (HF3.out.keep hb4)
  clear hb4 HF3
  go_upto_region 5 with fail
  have HF5 := HF4.out.keep (w2 := w4.alloc (.cells #[.int .i64 op, .int .i64 A, .int .i64 B, .int .i64 C] 89)) ((Below.refl _ _).alloc (Nat.le_refl _) _)
  have hI := ins_new w4 op A B C
  have hn8 := HF4.out.T.lt
  clear HF4
  revert HF5 hI
  generalize w4.alloc (.cells #[.int .i64 op, .int .i64 A, .int .i64 B, .int .i64 C] 89) = W5
  generalize w4.heap.size = n8 at *
  intro HF5' hI
  have HF5 := Lib.hid HF5'
  have i0 := hI.c0
  have i1 := hI.c1
  have i2 := hI.c2
  have i3 := hI.c3
  have HI := Lib.hid hI
  clear HF5' hI
  have p85 := HF5.out.R.cpc
  have p95 := HF5.out.R.cring
  have hl5 := HF5.out.R.load
  have t05 := HF5.out.T.c0
  have t15 := HF5.out.T.c1
  have tf5 := HF5.out.T.fz
  go_upto_region 7 with fail
  have hs5 := (row_new W5 zeroG).store g
  go_upto_region 8 with fail
  have H6 := st3_new HF5.out HI.out hn8
  revert H6
  generalize (W5.alloc (.cells (cellsA zeroG) 36)).setRow W5.heap.size (cellsA g) = W6
  generalize W5.heap.size = n10 at *
  intro H6'
  have H6 := Lib.hid H6'
  have x8 := H6'.N.cpc
  have xf := H6'.N.fz
  clear H6' i0 i1 i2 i3 p85 p95 hl5 t05 t15 tf5
  go_upto_region 10 with fail
  have H7 := H6.out.setPc pc4
  revert H7
  generalize W6.setCell ⟨n10, 8, none⟩ (.int .u32 pc4) = W7
  intro H7'
  have H7 := Lib.hid H7'
  clear H7' x8 xf H6
  have p87 := H7.out.S.R.cpc
  have p97 := H7.out.S.R.cring
  have hl7 := H7.out.S.R.load
  have t07 := H7.out.S.T.c0
  have t17 := H7.out.S.T.c1
  have tf7 := H7.out.S.T.fz
  have i0 := H7.out.I.c0
  have i1 := H7.out.I.c1
  have i2 := H7.out.I.c2
  have i3 := H7.out.I.c3
  have xl := H7.out.N.load
  have xf := H7.out.N.fz
  have x8 := H7.out.N.cpc
  go_wp2_with fail
  refine (GJ.out _ _ H7.out.N).mono ?_
  rintro e w8 ⟨rfl, ho8, hr8⟩
  have H8 := Lib.hid (H7.out.next ho8 hr8)
  clear ho8 hr8
  clear p87 p97 hl7 t07 t17 tf7 i0 i1 i2 i3 xl xf x8
  have p878 := H8.out.S.R.cpc
  have p978 := H8.out.S.R.cring
  have hl78 := H8.out.S.R.load
  have t078 := H8.out.S.T.c0
  have t178 := H8.out.S.T.c1
  have tf78 := H8.out.S.T.fz
  have i08 := H8.out.I.c0
  have i18 := H8.out.I.c1
  have i28 := H8.out.I.c2
  have i38 := H8.out.I.c3
  have xl8 := H8.out.N.load
  have xf8 := H8.out.N.fz
  have x88 := H8.out.N.cpc
  go_upto_region 21 with fail
  have hlN := H8.out.N.load
  have hsr := H8.out.S.Z.store (g3)
  have HZr := Lib.hid (H8.out.S.outZ (g3))
  have zfr := HZr.out.T.fz
  have z0r := HZr.out.T.c0
  have z1r := HZr.out.T.c1
  have HO := Lib.hid (HZr.out.outT 0 0)
  go_wp2_with fail
  exact bodyPost_ret (two_results Tryz.results45 rfl rfl HO.out.Z HO.out.T) rfl ⟨rfl, HO.out.off, HO.out.Q⟩
end Go.Proofs.YtnbhohaphmilmaaGreatDoor.CpuLaw
namespace Go.Proofs.YtnbhohaphmilmaaGreatDoor.CpuLaw
open Go.RowKit
set_option linter.unusedVariables false
set_option linter.unusedSimpArgs false
attribute [local go_sem ↓] sub33_eq add33_eq or33_eq shl33_eq shr33_eq mul33_eq quo33_eq and33_eq xor33_eq narrow_eq wideB_eq conv33_eq conv83_eq conv8333_eq load61_eq store61_eq zero61 cells61
set_option maxRecDepth 100000 in
set_option maxHeartbeats 2000000 in
theorem step_other2 {w : World} {g : G} {Q : World → Prop} {S : Nat → Prop} {bv : Value} {x A B pc4 : Nat} {t : Int} (hK : CalmQ Q S w.heap.size) (hQ : Q w) {g3 : G} (HX : FetchIs Q S bv g.pc x) {C : Int} (HD : DecIs x 2 A B C 0) (hA : A < 8) (hB : B < 8) (hP : ∀ w, (add33 (.int .u32 g.pc) (.int .u32 4)).run Tryz.prog w = .ok (.int .u32 pc4) w) (HO1 : ∀ w1, Calls Tryz.prog 98 #[.agg (cellsA ⟨g.r, pc4, g.ring⟩), insA 2 A B C] w1 fun e w' => e = .returned (.tuple #[.agg (cellsA g3), trap t 0]) ∧ Below w1.heap.size w1 w')
    : Calls Tryz.prog 45 #[.agg (cellsA g), bv] w fun e w' => e = .returned (.tuple #[.agg (cellsA (g3)), trap t 0]) ∧ Upd S w w' ∧ Q w' := by
  have GO := Lib.hid HO1
  clear HO1
  have hA0 : 0 ≤ (A : Int) := by omega
  have hA8 : (A : Int) < 8 := by omega
  have hB0 : 0 ≤ (B : Int) := by omega
  have hB8 : (B : Int) < 8 := by omega
  have GX := Lib.hid HX
  clear HX
  go_enter Tryz.func45, Tryz.ntmps45
  go_upto_region 1 with fail
  have HF0 := stp_new hK hQ g
  revert HF0
  generalize ((w.alloc (.cells (cellsA g) 36)).alloc (.cells (cellsA zeroG) 36)).alloc (.cells #[.int .i64 0, .int .u32 0] 64) = W
  intro HF0
  have HF := Lib.hid HF0
  clear HF0 hQ hK
  have p8 := HF.out.R.cpc
  have p9 := HF.out.R.cring
  have hl := HF.out.R.load
  have t0 := HF.out.T.c0
  have t1 := HF.out.T.c1
  have tf := HF.out.T.fz
  go_wp2_with fail
  refine (GX.out _ HF.out.Q).mono ?_
  rintro e w2 ⟨rfl, hq2, hu2⟩
  have HF2 := Lib.hid (HF.out.fetched hq2 hu2)
  clear hq2 hu2
  go_upto_region 2 with fail
  have HF3 := HF2.out.keep (w2 := w2.alloc (.cells #[.int .i64 0, .int .u32 0] 64)) ((Below.refl _ _).alloc (Nat.le_refl _) _)
  have hS := slot_of w2 0 0
  have hn7 := HF2.out.T.lt
  revert HF3 hS
  generalize w2.alloc (.cells #[.int .i64 0, .int .u32 0] 64) = W3
  generalize w2.heap.size = n7 at *
  intro HF3' hS
  have HF3 := Lib.hid HF3'
  have u0 := hS.c0
  have u1 := hS.c1
  have HS := Lib.hid hS
  clear HF3' hS HF2
  have GD := Lib.hid HD
  clear HD
  go_wp2_with fail
  refine (GD.out _).mono ?_
  rintro e w4 ⟨rfl, hb4⟩
  have HF4 := Lib.hid (HF3.out.keep hb4)
  clear hb4 HF3
  go_upto_region 5 with fail
  have HF5 := HF4.out.keep (w2 := w4.alloc (.cells #[.int .i64 2, .int .i64 A, .int .i64 B, .int .i64 C] 89)) ((Below.refl _ _).alloc (Nat.le_refl _) _)
  have hI := ins_new w4 2 A B C
  have hn8 := HF4.out.T.lt
  clear HF4
  revert HF5 hI
  generalize w4.alloc (.cells #[.int .i64 2, .int .i64 A, .int .i64 B, .int .i64 C] 89) = W5
  generalize w4.heap.size = n8 at *
  intro HF5' hI
  have HF5 := Lib.hid HF5'
  have i0 := hI.c0
  have i1 := hI.c1
  have i2 := hI.c2
  have i3 := hI.c3
  have HI := Lib.hid hI
  clear HF5' hI
  have p85 := HF5.out.R.cpc
  have p95 := HF5.out.R.cring
  have hl5 := HF5.out.R.load
  have t05 := HF5.out.T.c0
  have t15 := HF5.out.T.c1
  have tf5 := HF5.out.T.fz
  go_upto_region 7 with fail
  have hs5 := (row_new W5 zeroG).store g
  go_upto_region 8 with fail
  have H6 := st3_new HF5.out HI.out hn8
  revert H6
  generalize (W5.alloc (.cells (cellsA zeroG) 36)).setRow W5.heap.size (cellsA g) = W6
  generalize W5.heap.size = n10 at *
  intro H6'
  have H6 := Lib.hid H6'
  have x8 := H6'.N.cpc
  have xf := H6'.N.fz
  clear H6' i0 i1 i2 i3 p85 p95 hl5 t05 t15 tf5
  go_upto_region 10 with fail
  have H7 := H6.out.setPc pc4
  revert H7
  generalize W6.setCell ⟨n10, 8, none⟩ (.int .u32 pc4) = W7
  intro H7'
  have H7 := Lib.hid H7'
  clear H7' x8 xf H6
  have p87 := H7.out.S.R.cpc
  have p97 := H7.out.S.R.cring
  have hl7 := H7.out.S.R.load
  have t07 := H7.out.S.T.c0
  have t17 := H7.out.S.T.c1
  have tf7 := H7.out.S.T.fz
  have i0 := H7.out.I.c0
  have i1 := H7.out.I.c1
  have i2 := H7.out.I.c2
  have i3 := H7.out.I.c3
  have xl := H7.out.N.load
  have xf := H7.out.N.fz
  have x8 := H7.out.N.cpc
  go_wp2_with fail
  refine (GO.out _).mono ?_
  rintro e w8 ⟨rfl, hb8⟩
  have H8 := Lib.hid (H7.out.keep hb8)
  clear hb8
  clear p87 p97 hl7 t07 t17 tf7 i0 i1 i2 i3 xl xf x8
  have p878 := H8.out.S.R.cpc
  have p978 := H8.out.S.R.cring
  have hl78 := H8.out.S.R.load
  have t078 := H8.out.S.T.c0
  have t178 := H8.out.S.T.c1
  have tf78 := H8.out.S.T.fz
  have i08 := H8.out.I.c0
  have i18 := H8.out.I.c1
  have i28 := H8.out.I.c2
  have i38 := H8.out.I.c3
  have xl8 := H8.out.N.load
  have xf8 := H8.out.N.fz
  have x88 := H8.out.N.cpc
  have hsr := H8.out.S.Z.store (g3)
  have HZr := Lib.hid (H8.out.S.outZ (g3))
  have zfr := HZr.out.T.fz
  have z0r := HZr.out.T.c0
  have z1r := HZr.out.T.c1
  have HO := Lib.hid (HZr.out.outT t 0)
  go_wp2_with fail
  exact bodyPost_ret (two_results Tryz.results45 rfl rfl HO.out.Z HO.out.T) rfl ⟨rfl, HO.out.off, HO.out.Q⟩
set_option maxRecDepth 100000 in
set_option maxHeartbeats 2000000 in
theorem step_other14 {w : World} {g : G} {Q : World → Prop} {S : Nat → Prop} {bv : Value} {x A B pc4 : Nat} {t : Int} (hK : CalmQ Q S w.heap.size) (hQ : Q w) {g3 : G} (HX : FetchIs Q S bv g.pc x) {C : Int} (HD : DecIs x 14 A B C 0) (hA : A < 8) (hB : B < 8) (hP : ∀ w, (add33 (.int .u32 g.pc) (.int .u32 4)).run Tryz.prog w = .ok (.int .u32 pc4) w) (HO1 : ∀ w1, Calls Tryz.prog 98 #[.agg (cellsA ⟨g.r, pc4, g.ring⟩), insA 14 A B C] w1 fun e w' => e = .returned (.tuple #[.agg (cellsA g3), trap t 0]) ∧ Below w1.heap.size w1 w')
    : Calls Tryz.prog 45 #[.agg (cellsA g), bv] w fun e w' => e = .returned (.tuple #[.agg (cellsA (g3)), trap t 0]) ∧ Upd S w w' ∧ Q w' := by
  have GO := Lib.hid HO1
  clear HO1
  have hA0 : 0 ≤ (A : Int) := by omega
  have hA8 : (A : Int) < 8 := by omega
  have hB0 : 0 ≤ (B : Int) := by omega
  have hB8 : (B : Int) < 8 := by omega
  have GX := Lib.hid HX
  clear HX
  go_enter Tryz.func45, Tryz.ntmps45
  go_upto_region 1 with fail
  have HF0 := stp_new hK hQ g
  revert HF0
  generalize ((w.alloc (.cells (cellsA g) 36)).alloc (.cells (cellsA zeroG) 36)).alloc (.cells #[.int .i64 0, .int .u32 0] 64) = W
  intro HF0
  have HF := Lib.hid HF0
  clear HF0 hQ hK
  have p8 := HF.out.R.cpc
  have p9 := HF.out.R.cring
  have hl := HF.out.R.load
  have t0 := HF.out.T.c0
  have t1 := HF.out.T.c1
  have tf := HF.out.T.fz
  go_wp2_with fail
  refine (GX.out _ HF.out.Q).mono ?_
  rintro e w2 ⟨rfl, hq2, hu2⟩
  have HF2 := Lib.hid (HF.out.fetched hq2 hu2)
  clear hq2 hu2
  go_upto_region 2 with fail
  have HF3 := HF2.out.keep (w2 := w2.alloc (.cells #[.int .i64 0, .int .u32 0] 64)) ((Below.refl _ _).alloc (Nat.le_refl _) _)
  have hS := slot_of w2 0 0
  have hn7 := HF2.out.T.lt
  revert HF3 hS
  generalize w2.alloc (.cells #[.int .i64 0, .int .u32 0] 64) = W3
  generalize w2.heap.size = n7 at *
  intro HF3' hS
  have HF3 := Lib.hid HF3'
  have u0 := hS.c0
  have u1 := hS.c1
  have HS := Lib.hid hS
  clear HF3' hS HF2
  have GD := Lib.hid HD
  clear HD
  go_wp2_with fail
  refine (GD.out _).mono ?_
  rintro e w4 ⟨rfl, hb4⟩
  have HF4 := Lib.hid (HF3.out.keep hb4)
  clear hb4 HF3
  go_upto_region 5 with fail
  have HF5 := HF4.out.keep (w2 := w4.alloc (.cells #[.int .i64 14, .int .i64 A, .int .i64 B, .int .i64 C] 89)) ((Below.refl _ _).alloc (Nat.le_refl _) _)
  have hI := ins_new w4 14 A B C
  have hn8 := HF4.out.T.lt
  clear HF4
  revert HF5 hI
  generalize w4.alloc (.cells #[.int .i64 14, .int .i64 A, .int .i64 B, .int .i64 C] 89) = W5
  generalize w4.heap.size = n8 at *
  intro HF5' hI
  have HF5 := Lib.hid HF5'
  have i0 := hI.c0
  have i1 := hI.c1
  have i2 := hI.c2
  have i3 := hI.c3
  have HI := Lib.hid hI
  clear HF5' hI
  have p85 := HF5.out.R.cpc
  have p95 := HF5.out.R.cring
  have hl5 := HF5.out.R.load
  have t05 := HF5.out.T.c0
  have t15 := HF5.out.T.c1
  have tf5 := HF5.out.T.fz
  go_upto_region 7 with fail
  have hs5 := (row_new W5 zeroG).store g
  go_upto_region 8 with fail
  have H6 := st3_new HF5.out HI.out hn8
  revert H6
  generalize (W5.alloc (.cells (cellsA zeroG) 36)).setRow W5.heap.size (cellsA g) = W6
  generalize W5.heap.size = n10 at *
  intro H6'
  have H6 := Lib.hid H6'
  have x8 := H6'.N.cpc
  have xf := H6'.N.fz
  clear H6' i0 i1 i2 i3 p85 p95 hl5 t05 t15 tf5
  go_upto_region 10 with fail
  have H7 := H6.out.setPc pc4
  revert H7
  generalize W6.setCell ⟨n10, 8, none⟩ (.int .u32 pc4) = W7
  intro H7'
  have H7 := Lib.hid H7'
  clear H7' x8 xf H6
  have p87 := H7.out.S.R.cpc
  have p97 := H7.out.S.R.cring
  have hl7 := H7.out.S.R.load
  have t07 := H7.out.S.T.c0
  have t17 := H7.out.S.T.c1
  have tf7 := H7.out.S.T.fz
  have i0 := H7.out.I.c0
  have i1 := H7.out.I.c1
  have i2 := H7.out.I.c2
  have i3 := H7.out.I.c3
  have xl := H7.out.N.load
  have xf := H7.out.N.fz
  have x8 := H7.out.N.cpc
  go_wp2_with fail
  refine (GO.out _).mono ?_
  rintro e w8 ⟨rfl, hb8⟩
  have H8 := Lib.hid (H7.out.keep hb8)
  clear hb8
  clear p87 p97 hl7 t07 t17 tf7 i0 i1 i2 i3 xl xf x8
  have p878 := H8.out.S.R.cpc
  have p978 := H8.out.S.R.cring
  have hl78 := H8.out.S.R.load
  have t078 := H8.out.S.T.c0
  have t178 := H8.out.S.T.c1
  have tf78 := H8.out.S.T.fz
  have i08 := H8.out.I.c0
  have i18 := H8.out.I.c1
  have i28 := H8.out.I.c2
  have i38 := H8.out.I.c3
  have xl8 := H8.out.N.load
  have xf8 := H8.out.N.fz
  have x88 := H8.out.N.cpc
  have hsr := H8.out.S.Z.store (g3)
  have HZr := Lib.hid (H8.out.S.outZ (g3))
  have zfr := HZr.out.T.fz
  have z0r := HZr.out.T.c0
  have z1r := HZr.out.T.c1
  have HO := Lib.hid (HZr.out.outT t 0)
  go_wp2_with fail
  exact bodyPost_ret (two_results Tryz.results45 rfl rfl HO.out.Z HO.out.T) rfl ⟨rfl, HO.out.off, HO.out.Q⟩
end Go.Proofs.YtnbhohaphmilmaaGreatDoor.CpuLaw
namespace Go.Proofs.YtnbhohaphmilmaaGreatDoor.CpuLaw
open Go.RowKit
set_option linter.unusedVariables false
set_option linter.unusedSimpArgs false
def u32z (c : Int) : Nat := (c % 4294967296).toNat
theorem conv_u32 (C : Int) (w : World) : (conv33 (.int .i64 C)).run Tryz.prog w = .ok (.int .u32 (u32z C)) w := by
  have e : IntKind.u32.wrap C = (u32z C : Int) := by rw [IntKind.wrap_u32]; unfold u32z; omega
  unfold conv33
  simp [go_sem, e]
theorem up_u32' (a k : Nat) : ∀ w, (add33 (.int .u32 a) (.int .u32 k)).run Tryz.prog w = .ok (.int .u32 (up a k)) w := up_u32 a k
theorem dec_any {x : Nat} (hx : x < 4294967296) {op C e : Int} {A B : Nat} (h : CodeLaw.decR x = (⟨op, A, B, C⟩, e)) : DecIs x op A B C e := by
  intro w1
  have := CodeLaw.dec_is (x : Int) w1 (by omega) (by omega)
  rw [h] at this
  exact this
/-- a word that a space holds at an address, to be executed -/
structure WordAt (m : MS) (b a x : Nat) : Prop where
  at' : ∃ (pg r : Int) (g o x0 x1 x2 x3 : Nat), 0 ≤ pg ∧ pg < 64 ∧ m.F b pg = some (g, r) ∧ g ∈ m.pl ∧ bits .and .i64 r 4 = 4 ∧ o + 3 < 16 ∧ o % 4 = 0 ∧ (a : Int) = 16 * pg + o ∧ m.d g o = (x0 : Int) ∧ m.d g (o + 1) = (x1 : Int) ∧ m.d g (o + 2) = (x2 : Int) ∧ m.d g (o + 3) = (x3 : Int) ∧ x0 < 256 ∧ x1 < 256 ∧ x2 < 256 ∧ x3 < 256 ∧ x = x0 + x1 * 256 + x2 * 65536 + x3 * 16777216
theorem WordAt.lt {m : MS} {b a x : Nat} (h : WordAt m b a x) : x < 4294967296 := by
  obtain ⟨pg, r, g, o, x0, x1, x2, x3, -, -, -, -, -, -, -, -, -, -, -, -, q0, q1, q2, q3, e⟩ := h.at'
  omega
/-- what an instruction makes of the registers -/
def exG (g : G) (op : Int) (A B : Nat) (C : Int) : G := if op = 14 then setR ⟨g.r, up g.pc 4, g.ring⟩ A (up (g.r B) (u32z C)) else ⟨g.r, up g.pc (u32z C), g.ring⟩
section
variable {w : World} {M so b : Nat} {fr sl s : Int} {m : MS} {g : G} {x A B : Nat} {op C : Int}
theorem fetchQ (hs : m.S s = some b) (hwf : (Lit.int .i64 s).wf = true) (hl : (m.pl.length : Int) ≤ fr) {a : Nat} (hx : WordAt m b a x) : FetchIs (MemQ M so fr sl m) (memS M m) (kbus M s) a x := by
  obtain ⟨pg, r, g, o, x0, x1, x2, x3, h0, h63, hF, hg, hr, ho, h4, ha, e0, e1, e2, e3, q0, q1, q2, q3, rfl⟩ := hx.at'
  intro w1 hQ
  obtain ⟨h', hm⟩ := hQ
  exact fetchK_is (m := { m with h := h' }) hm hs hwf h0 h63 hF hg hl (.inr rfl) hr ho h4 ha e0 e1 e2 e3 q0 q1 q2 q3 (Nat.le_refl _) ⟨h', hm⟩
theorem calmK (hQ : MemQ M so fr sl m w) : CalmQ (MemQ M so fr sl m) (memS M m) w.heap.size := by
  obtain ⟨h', hm⟩ := hQ
  exact memQ_calm (m := { m with h := h' }) hm
/-- one step of a program -/
theorem cstep_is (hQ : MemQ M so fr sl m w) (hs : m.S s = some b) (hwf : (Lit.int .i64 s).wf = true) (hl : (m.pl.length : Int) ≤ fr) (hx : WordAt m b g.pc x) (hd : CodeLaw.decR x = (⟨op, A, B, C⟩, 0)) (hA : A < 8) (hB : B < 8) (hop : op = 14 ∨ op = 19) :
    Calls Tryz.prog 45 #[.agg (cellsA g), kbus M s] w fun e w' => e = .returned (.tuple #[.agg (cellsA (exG g op A B C)), trap 0 0]) ∧ Upd (memS M m) w w' ∧ MemQ M so fr sl m w' := by
  rcases hop with rfl | rfl
  · exact step_other14 (calmK hQ) hQ (fetchQ hs hwf hl hx) (dec_any hx.lt hd) hA hB (up_u32' _ _) (fun w1 => other_plus hA hB (conv_u32 C) (up_u32' _ _))
  · exact step_jump (t := 0) (calmK hQ) hQ (fetchQ hs hwf hl hx) (dec_any hx.lt hd) hA hB (up_u32' _ _) (by decide) (by decide) (by decide) (by decide) (by decide) (by decide) (by decide) (by decide) (by decide) (by decide) (by decide) (fun w1 rb hr => by
      have := jump_jump hr hA hB (conv_u32 C) (up_u32' g.pc (u32z C))
      exact this)
end
end Go.Proofs.YtnbhohaphmilmaaGreatDoor.CpuLaw
namespace Go.Proofs.YtnbhohaphmilmaaGreatDoor
open Go.RowKit
set_option linter.unusedVariables false
set_option linter.unusedSimpArgs false
section
variable {w w0 : World} {k : KC} {s : KSt} {p : Nat}
attribute [local go_sem ↓] ld_sig st_sig
set_option maxRecDepth 100000 in
set_option maxHeartbeats 400000 in
theorem handledP_is (h : KT w k s) (ha : Awake s p) : Calls Tryz.prog 44 #[.pointer (some ⟨k.K, 0, none⟩), .int .i64 p] w fun e w' => e = .returned (.bool true) ∧ Below w.heap.size w w' := by
  have l1 := h.ldsig ha.p16 ha.sg
  have i0 : (p : Int) < 17 := by have := ha.p16; omega
  have HT := Lib.hid (SigLaw.take_is SigLaw.zeroG 0 0 w ⟨⟨by decide, by decide⟩, by decide, by decide⟩ sig_right)
  have HST := Lib.hid (fun (w : World) (g : SigLaw.G) => st0_new w (T := 76) (c := #[.int .i64 0, .int .i64 0, .int .i64 0, .int .i64 0, .int .i64 0, .int .i64 0, .int .i64 0, .int .i64 0, .int .i64 0, .int .i64 0, .int .i64 0, .int .i64 0, .int .i64 0, .int .i64 0, .int .i64 0, .int .i64 0, .int .i64 0, .int .i64 0]) (cs := SigLaw.cellsA g) rfl (by kernel_rfl) (SigLaw.cellsA_one g))
  clear h ha
  generalize SigLaw.cellsA SigLaw.zeroG = ZG at *
  go_enter Tryz.func44, Tryz.ntmps44
  go_wp2_with (go_at_call 86; refine HT.out.mono ?_; rintro e1 w1 ⟨hb1, h1⟩; (rcases h1 with ⟨g1, n1, h1, rfl⟩ | ⟨k, _, _, hk, _⟩; rotate_left; exact absurd hk (by simp)); have st1 := HST.out w1 g1; have HB1 := Lib.hid (hb1.trans ((Go.Joins.below_alloc1 w1 (.cells (SigLaw.cellsA g1) 76)).mono hb1.size)); clear hb1; generalize SigLaw.cellsA g1 = C1 at *)
  go_ret
  exact ⟨rfl, HB1.out⟩
set_option maxRecDepth 100000 in
set_option maxHeartbeats 400000 in
theorem kstep_no (h : KT w k s) {c : Nat} (hc : c < s.nc) (ho : onG s.l c = none) : Calls Tryz.prog 16 #[.pointer (some ⟨k.K, 0, none⟩), .int .i64 c] w fun e w' => e = .returned (.tuple #[.int .i64 0, .agg #[.int .i64 5, .int .u32 0]]) ∧ Below w.heap.size w w' := by
  have hal := Go.Joins.below_alloc1 w (.cells #[.int .i64 0, .int .u32 0] 64)
  have hk := h.keep hal
  have q4 : (w.alloc (.cells #[.int .i64 0, .int .u32 0] 64)).cell? ⟨k.K, 4, none⟩ = some (.pointer (some ⟨k.R, 0, none⟩)) := by rw [hk.kr.cell (by decide), hk.c4]
  have HP := Lib.hid (pick_no hk.ru hc ho)
  have HS := Lib.hid (CpuLaw.slot_new w)
  have HB := Lib.hid hal
  clear h hk hal ho hc
  go_enter Tryz.func16, Tryz.ntmps16
  go_upto_region 1 with fail
  obtain ⟨n, hn⟩ : ∃ n, n = w.heap.size := ⟨_, rfl⟩
  rw [← hn] at HS ⊢
  have HN : Hid (w.heap.size ≤ n) := Lib.hid (by omega)
  clear hn
  generalize w.alloc (.cells #[.int .i64 0, .int .u32 0] 64) = W0 at *
  have c0 := HS.out.c0
  have c1 := HS.out.c1
  have fz := HS.out.fz
  go_wp2_with (go_at_call 43; refine HP.out.mono ?_; rintro e1 w1 ⟨rfl, rfl⟩)
  have hf := HS.out.set2 5 0
  have e0 := hf.c0
  have e1 := hf.c1
  have hb : Below w.heap.size w ((W0.setCell ⟨n, 0, none⟩ (.int .i64 5)).setCell ⟨n, 1, none⟩ (.int .u32 0)) := (HB.out.setCell HN.out _).setCell HN.out _
  generalize (W0.setCell ⟨n, 0, none⟩ (.int .i64 5)).setCell ⟨n, 1, none⟩ (.int .u32 0) = W9 at *
  exact bodyPost_ret (v := .tuple #[.int .i64 0, .agg #[.int .i64 5, .int .u32 0]]) (by simp [results, Tryz.results16, go_sem, e0, e1]) rfl ⟨rfl, hb⟩
end
end Go.Proofs.YtnbhohaphmilmaaGreatDoor
