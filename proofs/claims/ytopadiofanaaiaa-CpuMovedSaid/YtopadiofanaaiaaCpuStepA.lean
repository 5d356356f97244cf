/- The walk of cpu.Step: what it lays; no word is fetched. -/
import Derived.Test.YtopadiofanaaiaaCpuMemU
namespace Go.Proofs.Ytopadiofanaaiaa.CpuLaw
open Go.RowKit
set_option linter.unusedVariables false
set_option linter.unusedSimpArgs false
attribute [local go_sem ↓] sub33_eq add33_eq or33_eq shl33_eq shr33_eq mul33_eq quo33_eq and33_eq xor33_eq narrow_eq wideB_eq conv33_eq conv83_eq conv8333_eq load61_eq store61_eq zero61 cells61
/-- the blocks of a call of Step: its registers, its two results, and the room -/
structure Stp (w w1 : World) (n b c : Nat) (g g2 : G) (m : M) (t : Int) (a : Nat) : Prop where
  hn : w.heap.size = n
  l1 : b < n
  l2 : c < n
  off : Off c w w1
  R : Row w1 n g
  Z : Row w1 (n + 1) g2
  T : Slot (n + 1 + 1) t a w1
  Q : Room w1 b c m
section
variable {w w1 w2 : World} {n b c d : Nat} {g g2 : G} {m : M} {t : Int} {a : Nat}
theorem Stp.keep (h : Stp w w1 n b c g g2 m t a) (hb : Below w1.heap.size w1 w2) : Stp w w2 n b c g g2 m t a :=
  ⟨h.hn, h.l1, h.l2, h.off.trans (.of hb), h.R.keep hb, h.Z.keep hb, h.T.keep (.of hb) (Nat.ne_of_lt h.T.lt), h.Q.keep hb⟩
theorem Stp.drew (h : Stp w w1 n b c g g2 m t a) : Stp w w1.drew n b c g g2 m t a := h.keep (Below.refl _ _).drew
theorem Stp.keepO (h : Stp w w1 n b c g g2 m t a) (ho : Off d w1 w2) (hd : n + 1 + 1 < d) : Stp w w2 n b c g g2 m t a := by
  have := h.l1; have := h.l2; have := h.hn
  exact ⟨h.hn, h.l1, h.l2, ⟨Nat.le_trans h.off.size ho.size, fun k hk hc => (ho.keep k (Nat.lt_of_lt_of_le hk h.off.size) (by omega)).trans (h.off.keep k hk hc), fun B hB hs => (h.off.low B hB hs).trans (ho.low B (by omega) (Nat.le_trans hs h.off.size))⟩, h.R.keepO ho (by omega), h.Z.keepO ho (by omega), h.T.keep ho (by omega), h.Q.keepO ho (by omega) (by omega)⟩
theorem Stp.put {m' : M} (h : Stp w w1 n b c g g2 m t a) (ho : Off c w1 w2) (hq : Room w2 b c m') : Stp w w2 n b c g g2 m' t a := by
  have := h.l2
  exact ⟨h.hn, h.l1, h.l2, h.off.trans ho, h.R.keepO ho (by omega), h.Z.keepO ho (by omega), h.T.keep ho (by omega), hq⟩
theorem Stp.outZ (h : Stp w w1 n b c g g2 m t a) (g3 : G) : Stp w (w1.setRow (n + 1) (cellsA g3)) n b c g g3 m t a := by
  have := h.l1; have := h.l2; have := h.hn
  exact ⟨h.hn, h.l1, h.l2, h.off.row (by omega) _, h.R.setRowO (by omega) _, h.Z.setRow g3, h.T.setRowO (by omega) _, h.Q.keepO (d := n + 1) ((Off.refl _ _).trans ⟨by simp [World.setRow], fun k hk hc => heap_setRow _ _ _ _ hc, fun B hB hs => below_setRow (Below.refl _ _) hB _⟩) (by omega) (by omega)⟩
theorem Stp.outT (h : Stp w w1 n b c g g2 m t a) (t2 : Int) (a2 : Nat) : Stp w ((w1.setCell ⟨n + 1 + 1, 0, none⟩ (.int .i64 t2)).setCell ⟨n + 1 + 1, 1, none⟩ (.int .u32 a2)) n b c g g2 m t2 a2 := by
  have := h.l1; have := h.l2; have := h.hn
  exact ⟨h.hn, h.l1, h.l2, (h.off.own (by omega)).own (by omega), (h.R.setO (by omega) _).setO (by omega) _, (h.Z.setO (by omega) _).setO (by omega) _, h.T.set2 _ _, (h.Q.other (by omega) (by omega)).other (by omega) (by omega)⟩
theorem stp_new (hQ : Room w b c m) (g : G) : Stp w (((w.alloc (.cells (cellsA g) 61)).alloc (.cells (cellsA zeroG) 61)).alloc (.cells #[.int .i64 0, .int .u32 0] 63)) w.heap.size b c g zeroG m 0 0 := by
  have r0 := row_new w g
  have z0 := row_new (w.alloc (.cells (cellsA g) 61)) zeroG
  have s0 := slot_new ((w.alloc (.cells (cellsA g) 61)).alloc (.cells (cellsA zeroG) 61))
  have al : ∀ (w : World) (o : Obj), Below w.heap.size w (w.alloc o) := fun w o => (Below.refl _ _).alloc (Nat.le_refl _) o
  simp only [World.size_alloc] at z0 s0
  exact ⟨rfl, hQ.bl, hQ.cl, ((Off.of (al _ _)).trans (.of (al _ _))).trans (.of (al _ _)), (r0.alloc _).alloc _, z0.alloc _, s0, ((hQ.keep (al _ _)).keep (al _ _)).keep (al _ _)⟩
end
/-- what a call leaves that writes the room's bytes and one block of its caller's -/
theorem Off2.toOff {w0 w w1 : World} {d c : Nat} (h0 : Off c w0 w) (h : Off2 d c w w1) (hd : w0.heap.size ≤ d) : Off c w0 w1 :=
  ⟨Nat.le_trans h0.size h.size, fun k hk hc => (h.keep k (Nat.lt_of_lt_of_le hk h0.size) (by omega) hc).trans (h0.keep k hk hc), fun B hB hs => (h0.low B hB hs).trans (h.low B (Nat.le_trans hs hd) hB (Nat.le_trans hs h0.size))⟩
theorem Off2.cell {w w1 : World} {d c : Nat} (h : Off2 d c w w1) {p : Addr} (hp : p.block < w.heap.size) (hd : p.block ≠ d) (hc : p.block ≠ c) : w1.cell? p = w.cell? p := World.cell?_of_block (w := w) (h.keep _ hp hd hc)
theorem Off2.frozen {w w1 : World} {d c : Nat} (h : Off2 d c w w1) {p : Addr} (hp : p.block < w.heap.size) (hd : p.block ≠ d) (hc : p.block ≠ c) : w1.frozen? p = w.frozen? p := World.frozen?_of_block (w := w) (h.keep _ hp hd hc)
/-- the three blocks more: the trap of the fetch, the instruction, the next registers -/
structure St3 (w w1 : World) (n b c n8 n10 : Nat) (g g1 g2 : G) (m : M) (op : Int) (A B : Nat) (C : Int) (t : Int) (a : Nat) : Prop where
  S : Stp w w1 n b c g g2 m t a
  I : InsAt w1 n8 op A B C
  N : Row w1 n10 g1
  h8 : n + 1 + 1 < n8
  h10 : n8 < n10
section
variable {w w1 w2 : World} {n b c n8 n10 d : Nat} {g g1 g2 : G} {m : M} {op : Int} {A B : Nat} {C : Int} {t : Int} {a : Nat}
theorem St3.keep (h : St3 w w1 n b c n8 n10 g g1 g2 m op A B C t a) (hb : Below w1.heap.size w1 w2) : St3 w w2 n b c n8 n10 g g1 g2 m op A B C t a := ⟨h.S.keep hb, h.I.keep hb, h.N.keep hb, h.h8, h.h10⟩
theorem St3.drew (h : St3 w w1 n b c n8 n10 g g1 g2 m op A B C t a) : St3 w w1.drew n b c n8 n10 g g1 g2 m op A B C t a := h.keep (Below.refl _ _).drew
theorem St3.next {g3 : G} (h : St3 w w1 n b c n8 n10 g g1 g2 m op A B C t a) (ho : Off n10 w1 w2) (hr : Row w2 n10 g3) : St3 w w2 n b c n8 n10 g g3 g2 m op A B C t a := by
  have := h.h8; have := h.h10
  exact ⟨h.S.keepO ho (by omega), h.I.keepO ho (by omega), hr, h.h8, h.h10⟩
theorem St3.mem {g3 : G} {m' : M} (h : St3 w w1 n b c n8 n10 g g1 g2 m op A B C t a) (ho : Off2 n10 c w1 w2) (hr : Row w2 n10 g3) (hq : Room w2 b c m') : St3 w w2 n b c n8 n10 g g3 g2 m' op A B C t a := by
  have := h.h8; have := h.h10; have := h.S.l1; have := h.S.l2; have := h.S.hn
  have hT := h.S.T
  have hI := h.I
  exact ⟨⟨h.S.hn, h.S.l1, h.S.l2, ho.toOff h.S.off (by omega), (ho.keep _ h.S.R.lt (by omega) (by omega)).trans h.S.R, (ho.keep _ h.S.Z.lt (by omega) (by omega)).trans h.S.Z, ⟨Nat.lt_of_lt_of_le hT.lt ho.size, (ho.cell (p := ⟨_, 0, none⟩) hT.lt (by simp; omega) (by simp; omega)).trans hT.c0, (ho.cell (p := ⟨_, 1, none⟩) hT.lt (by simp; omega) (by simp; omega)).trans hT.c1, fun i => (ho.frozen (p := ⟨_, i, none⟩) hT.lt (by simp; omega) (by simp; omega)).trans (hT.fz i)⟩, hq⟩,
    ⟨Nat.lt_of_lt_of_le hI.lt ho.size, (ho.cell (p := ⟨_, 0, none⟩) hI.lt (by simp; omega) (by simp; omega)).trans hI.c0, (ho.cell (p := ⟨_, 1, none⟩) hI.lt (by simp; omega) (by simp; omega)).trans hI.c1, (ho.cell (p := ⟨_, 2, none⟩) hI.lt (by simp; omega) (by simp; omega)).trans hI.c2, (ho.cell (p := ⟨_, 3, none⟩) hI.lt (by simp; omega) (by simp; omega)).trans hI.c3⟩, hr, h.h8, h.h10⟩
theorem St3.setReg (h : St3 w w1 n b c n8 n10 g g1 g2 m op A B C t a) {k : Nat} (hk : k < 8) (x : Nat) : St3 w (w1.setCell ⟨n10, k, none⟩ (.int .u32 x)) n b c n8 n10 g (setR g1 k x) g2 m op A B C t a := h.next (.set _ _) (h.N.setReg hk x)
theorem St3.setPc (h : St3 w w1 n b c n8 n10 g g1 g2 m op A B C t a) (x : Nat) : St3 w (w1.setCell ⟨n10, 8, none⟩ (.int .u32 x)) n b c n8 n10 g ⟨g1.r, x, g1.ring⟩ g2 m op A B C t a := h.next (.set _ _) (h.N.setPc x)
theorem Off.setRow (w : World) (d : Nat) (C : Array Value) : Off d w (w.setRow d C) := ⟨by simp [World.setRow], fun k hk hc => heap_setRow _ _ _ _ hc, fun B hB hs => below_setRow (Below.refl _ _) hB _⟩
theorem st3_new (h : Stp w w1 n b c g g2 m t a) (hI : InsAt w1 n8 op A B C) (h8 : n + 1 + 1 < n8) : St3 w ((w1.alloc (.cells (cellsA zeroG) 61)).setRow w1.heap.size (cellsA g)) n b c n8 w1.heap.size g g g2 m op A B C t a := by
  have al : Below w1.heap.size w1 (w1.alloc (.cells (cellsA zeroG) 61)) := (Below.refl _ _).alloc (Nat.le_refl _) _
  have hlt := hI.lt
  exact ⟨(h.keep al).keepO (Off.setRow _ _ _) (by omega), (hI.keep al).setRowO (by omega) _, (row_new w1 zeroG).setRow g, h8, hlt⟩
end
abbrev insA (op : Int) (A B : Nat) (C : Int) : Value := .agg #[.int .i64 op, .int .i64 A, .int .i64 B, .int .i64 C]
abbrev DecIs (x : Nat) (op : Int) (A B : Nat) (C e : Int) : Prop := ∀ w1, Calls Try.prog 26 #[.int .u32 x] w1 fun en w' => en = .returned (.tuple #[insA op A B C, .int .i64 e]) ∧ Below w1.heap.size w1 w'
abbrev FetchIs (b c : Nat) (m : M) (pc x : Nat) (t : Int) (a : Nat) : Prop := ∀ w1, Room w1 b c m → Calls Try.prog 38 #[bus b, .int .u32 pc, .int .i64 4] w1 fun e w' => e = .returned (.tuple #[.int .u32 x, trap t a]) ∧ Below w1.heap.size w1 w'
set_option maxRecDepth 100000 in
set_option maxHeartbeats 2000000 in
theorem step_fault {w : World} {g : G} {m m' : M} {b c x a : Nat} {t : Int} (hQ : Room w b c m) (HX : FetchIs b c m g.pc x t a) (hb : (t != 0) = true)
    : Calls Try.prog 28 #[.agg (cellsA g), bus b] w fun e w' => e = .returned (.tuple #[.agg (cellsA (g)), trap t a]) ∧ Off c w w' ∧ Room w' b c (m) := by
  have GX := Lib.hid HX
  clear HX
  go_enter Try.func28, Try.ntmps28
  go_upto_region 1 with fail
  have HF0 := stp_new hQ g
  revert HF0
  generalize ((w.alloc (.cells (cellsA g) 61)).alloc (.cells (cellsA zeroG) 61)).alloc (.cells #[.int .i64 0, .int .u32 0] 63) = W
  intro HF0
  have HF := Lib.hid HF0
  clear HF0 hQ
  have p8 := HF.out.R.cpc
  have p9 := HF.out.R.cring
  have hl := HF.out.R.load
  have t0 := HF.out.T.c0
  have t1 := HF.out.T.c1
  have tf := HF.out.T.fz
  go_wp2_with fail
  refine (GX.out _ HF.out.Q).mono ?_
  rintro e w2 ⟨rfl, hb2⟩
  have HF2 := Lib.hid (HF.out.keep hb2)
  clear hb2
  go_upto_region 2 with fail
  have HF3 := HF2.out.keep (w2 := w2.alloc (.cells #[.int .i64 t, .int .u32 a] 63)) ((Below.refl _ _).alloc (Nat.le_refl _) _)
  have hS := slot_of w2 t a
  have hn7 := HF2.out.T.lt
  revert HF3 hS
  generalize w2.alloc (.cells #[.int .i64 t, .int .u32 a] 63) = W3
  generalize w2.heap.size = n7 at *
  intro HF3' hS
  have HF3 := Lib.hid HF3'
  have u0 := hS.c0
  have u1 := hS.c1
  have HS := Lib.hid hS
  clear HF3' hS HF2
  have p83 := HF3.out.R.cpc
  have p93 := HF3.out.R.cring
  have hl3 := HF3.out.R.load
  have t03 := HF3.out.T.c0
  have t13 := HF3.out.T.c1
  have tf3 := HF3.out.T.fz
  have HFd := Lib.hid HF3.out.drew
  have HT := Lib.hid (HF3.out.outT t a).drew
  have p8d := HFd.out.R.cpc
  have p9d := HFd.out.R.cring
  have hld := HFd.out.R.load
  have t0d := HFd.out.T.c0
  have t1d := HFd.out.T.c1
  have tfd := HFd.out.T.fz
  have hsd := HFd.out.Z.store (g)
  have HZd := Lib.hid (HFd.out.outZ (g))
  have zfd := HZd.out.T.fz
  have z0d := HZd.out.T.c0
  have z1d := HZd.out.T.c1
  have hlT := HT.out.R.load
  have hsT := HT.out.Z.store g
  have hlZ := HZd.out.R.load
  have v7 := HS.out.keep (Off.of (c := c) (Below.refl _ _).drew) (by have := HF3.out.l2; omega)
  have w7 := v7.setRowO (d := w.heap.size + 1) (by omega) (cellsA g)
  have w0 := w7.c0
  have w1 := w7.c1
  clear v7 w7
  have HO := Lib.hid (HZd.out.outT t a)
  have HO2 := Lib.hid (HT.out.outZ g)
  go_wp2_with fail
  go_region
  all_goals go_wp2_with fail
  all_goals first | exact bodyPost_ret (two_results Try.results28 rfl rfl HO.out.Z HO.out.T) rfl ⟨rfl, HO.out.off, HO.out.Q⟩ | exact bodyPost_ret (two_results Try.results28 rfl rfl HO2.out.Z HO2.out.T) rfl ⟨rfl, HO2.out.off, HO2.out.Q⟩
end Go.Proofs.Ytopadiofanaaiaa.CpuLaw
