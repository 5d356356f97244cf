/- cpu.Step over any bus: what it lays, and what stays. The walks of space: may, shared, fetch, in one page, at any memory. The walks of space: fetch, Read, in one page, at any memory. The walks of space's may, fetch and Load at one byte, at any memory. The walks of space's Load, and of the kernel's bus. -/
import Derived.Test.YtnbhohaphmilmaaGreatDoorCpuJump
import Derived.Test.YtnbhohaphmilmaaGreatDoorSpG
import Derived.Test.YtnbhohaphmilmaaGreatDoorTpA
import Derived.Test.YtnbhohaphmilmaaGreatDoorTpB
namespace Go.Proofs.YtnbhohaphmilmaaGreatDoor.CpuLaw
open Go.RowKit
set_option linter.unusedVariables false
set_option linter.unusedSimpArgs false
/-- what is known of the bus stays where other blocks are written or made -/
structure CalmQ (Q : World → Prop) (S : Nat → Prop) (B : Nat) : Prop where
  keep : ∀ w w', Q w → Below w.heap.size w w' → Q w'
  own : ∀ w w' d, Q w → B ≤ d → Off d w w' → Q w'
  low : ∀ k, S k → k < B
theorem Off.upd {S : Nat → Prop} {w0 w w' : World} {d : Nat} (h0 : Upd S w0 w) (h : Off d w w') (hd : w0.heap.size ≤ d) : Upd S w0 w' := by
  have hb := h.low w0.heap.size hd h0.size
  exact ⟨hb.os.trans h0.os, hb.tape.trans h0.tape, hb.output.trans h0.output, Nat.le_trans h0.size h.size, fun k hk hn => (hb.block k hk).trans (h0.block k hk hn)⟩
/-- the blocks of a call of Step: its registers, its two results -/
structure Stp (w w1 : World) (n : Nat) (Q : World → Prop) (S : Nat → Prop) (g g2 : G) (t : Int) (a : Nat) : Prop where
  hn : w.heap.size = n
  kq : CalmQ Q S n
  off : Upd S w w1
  R : Row w1 n g
  Z : Row w1 (n + 1) g2
  T : Slot (n + 1 + 1) t a w1
  Q : Q w1
section
variable {w w1 w2 : World} {n d : Nat} {Q : World → Prop} {S : Nat → Prop} {g g2 : G} {t : Int} {a : Nat}
theorem Row.keepU (h : Row w1 n g) (hu : Upd S w1 w2) (hn : ¬ S n) : Row w2 n g := (hu.block n h.lt hn).trans h
theorem Slot.keepU (h : Slot n t a w1) (hu : Upd S w1 w2) (hn : ¬ S n) : Slot n t a w2 :=
  ⟨Nat.lt_of_lt_of_le h.lt hu.size, (hu.cell h.lt hn).trans h.c0, (hu.cell h.lt hn).trans h.c1, fun i => (hu.frozen h.lt hn).trans (h.fz i)⟩
theorem Stp.keep (h : Stp w w1 n Q S g g2 t a) (hb : Below w1.heap.size w1 w2) : Stp w w2 n Q S g g2 t a :=
  ⟨h.hn, h.kq, h.off.trans (Upd.below hb), h.R.keep hb, h.Z.keep hb, h.T.keep (.of hb) (Nat.ne_of_lt h.T.lt), h.kq.keep _ _ h.Q hb⟩
theorem Stp.drew (h : Stp w w1 n Q S g g2 t a) : Stp w w1.drew n Q S g g2 t a := h.keep (Below.refl _ _).drew
theorem Stp.keepO (h : Stp w w1 n Q S g g2 t a) (ho : Off d w1 w2) (hd : n + 1 + 1 < d) : Stp w w2 n Q S g g2 t a := by
  have := h.hn
  exact ⟨h.hn, h.kq, ho.upd h.off (by omega), h.R.keepO ho (by omega), h.Z.keepO ho (by omega), h.T.keep ho (by omega), h.kq.own _ _ _ h.Q (by omega) ho⟩
theorem Stp.fetched (h : Stp w w1 n Q S g g2 t a) (hq : Q w2) (hu : Upd S w1 w2) : Stp w w2 n Q S g g2 t a := by
  have n0 : ∀ k, n ≤ k → ¬ S k := fun k hk e => by have := h.kq.low k e; omega
  exact ⟨h.hn, h.kq, h.off.trans hu, h.R.keepU hu (n0 _ (by omega)), h.Z.keepU hu (n0 _ (by omega)), h.T.keepU hu (n0 _ (by omega)), hq⟩
theorem Stp.outZ (h : Stp w w1 n Q S g g2 t a) (g3 : G) : Stp w (w1.setRow (n + 1) (cellsA g3)) n Q S g g3 t a := by
  have := h.hn
  have ho : Off (n + 1) w1 (w1.setRow (n + 1) (cellsA g3)) := ⟨by simp [World.setRow], fun k hk hc => heap_setRow _ _ _ _ hc, fun B hB hs => below_setRow (Below.refl _ _) hB _⟩
  exact ⟨h.hn, h.kq, ho.upd h.off (by omega), h.R.setRowO (by omega) _, h.Z.setRow g3, h.T.setRowO (by omega) _, h.kq.own _ _ _ h.Q (by omega) ho⟩
theorem Stp.outT (h : Stp w w1 n Q S g g2 t a) (t2 : Int) (a2 : Nat) : Stp w ((w1.setCell ⟨n + 1 + 1, 0, none⟩ (.int .i64 t2)).setCell ⟨n + 1 + 1, 1, none⟩ (.int .u32 a2)) n Q S g g2 t2 a2 := by
  have := h.hn
  have ho : Off (n + 1 + 1) w1 ((w1.setCell ⟨n + 1 + 1, 0, none⟩ (.int .i64 t2)).setCell ⟨n + 1 + 1, 1, none⟩ (.int .u32 a2)) := (Off.set _ _).trans (.set _ _)
  exact ⟨h.hn, h.kq, ho.upd h.off (by omega), (h.R.setO (by omega) _).setO (by omega) _, (h.Z.setO (by omega) _).setO (by omega) _, h.T.set2 _ _, h.kq.own _ _ _ h.Q (by omega) ho⟩
theorem stp_new (hK : CalmQ Q S w.heap.size) (hQ : Q w) (g : G) : Stp w (((w.alloc (.cells (cellsA g) 36)).alloc (.cells (cellsA zeroG) 36)).alloc (.cells #[.int .i64 0, .int .u32 0] 64)) w.heap.size Q S g zeroG 0 0 := by
  have r0 := row_new w g
  have z0 := row_new (w.alloc (.cells (cellsA g) 36)) zeroG
  have s0 := slot_new ((w.alloc (.cells (cellsA g) 36)).alloc (.cells (cellsA zeroG) 36))
  have al : ∀ (w : World) (o : Obj), Below w.heap.size w (w.alloc o) := fun w o => (Below.refl _ _).alloc (Nat.le_refl _) o
  simp only [World.size_alloc] at z0 s0
  exact ⟨rfl, hK, ((Upd.alloc _ _).trans (Upd.alloc _ _)).trans (Upd.alloc _ _), (r0.alloc _).alloc _, z0.alloc _, s0, hK.keep _ _ (hK.keep _ _ (hK.keep _ _ hQ (al _ _)) (al _ _)) (al _ _)⟩
end
/-- the three blocks more: the trap of the fetch, the instruction, the next registers -/
structure St3 (w w1 : World) (n n8 n10 : Nat) (Q : World → Prop) (S : Nat → Prop) (g g1 g2 : G) (op : Int) (A B : Nat) (C : Int) (t : Int) (a : Nat) : Prop where
  S : Stp w w1 n Q S g g2 t a
  I : InsAt w1 n8 op A B C
  N : Row w1 n10 g1
  h8 : n + 1 + 1 < n8
  h10 : n8 < n10
section
variable {w w1 w2 : World} {n n8 n10 d : Nat} {Q : World → Prop} {S : Nat → Prop} {g g1 g2 : G} {op : Int} {A B : Nat} {C : Int} {t : Int} {a : Nat}
theorem St3.keep (h : St3 w w1 n n8 n10 Q S g g1 g2 op A B C t a) (hb : Below w1.heap.size w1 w2) : St3 w w2 n n8 n10 Q S g g1 g2 op A B C t a := ⟨h.S.keep hb, h.I.keep hb, h.N.keep hb, h.h8, h.h10⟩
theorem St3.next {g3 : G} (h : St3 w w1 n n8 n10 Q S g g1 g2 op A B C t a) (ho : Off n10 w1 w2) (hr : Row w2 n10 g3) : St3 w w2 n n8 n10 Q S g g3 g2 op A B C t a := by
  have := h.h8; have := h.h10
  exact ⟨h.S.keepO ho (by omega), h.I.keepO ho (by omega), hr, h.h8, h.h10⟩
theorem St3.setReg (h : St3 w w1 n n8 n10 Q S g g1 g2 op A B C t a) {k : Nat} (hk : k < 8) (x : Nat) : St3 w (w1.setCell ⟨n10, k, none⟩ (.int .u32 x)) n n8 n10 Q S g (setR g1 k x) g2 op A B C t a := h.next (.set _ _) (h.N.setReg hk x)
theorem St3.setPc (h : St3 w w1 n n8 n10 Q S g g1 g2 op A B C t a) (x : Nat) : St3 w (w1.setCell ⟨n10, 8, none⟩ (.int .u32 x)) n n8 n10 Q S g ⟨g1.r, x, g1.ring⟩ g2 op A B C t a := h.next (.set _ _) (h.N.setPc x)
theorem Off.setRow (w : World) (d : Nat) (C : Array Value) : Off d w (w.setRow d C) := ⟨by simp [World.setRow], fun k hk hc => heap_setRow _ _ _ _ hc, fun B hB hs => below_setRow (Below.refl _ _) hB _⟩
theorem st3_new (h : Stp w w1 n Q S g g2 t a) (hI : InsAt w1 n8 op A B C) (h8 : n + 1 + 1 < n8) : St3 w ((w1.alloc (.cells (cellsA zeroG) 36)).setRow w1.heap.size (cellsA g)) n n8 w1.heap.size Q S g g g2 op A B C t a := by
  have al : Below w1.heap.size w1 (w1.alloc (.cells (cellsA zeroG) 36)) := (Below.refl _ _).alloc (Nat.le_refl _) _
  have hlt := hI.lt
  exact ⟨(h.keep al).keepO (Off.setRow _ _ _) (by omega), (hI.keep al).setRowO (by omega) _, (row_new w1 zeroG).setRow g, h8, hlt⟩
end
abbrev insA (op : Int) (A B : Nat) (C : Int) : Value := .agg #[.int .i64 op, .int .i64 A, .int .i64 B, .int .i64 C]
abbrev DecIs (x : Nat) (op : Int) (A B : Nat) (C e : Int) : Prop := ∀ w1, Calls Tryz.prog 94 #[.int .u32 x] w1 fun en w' => en = .returned (.tuple #[insA op A B C, .int .i64 e]) ∧ Below w1.heap.size w1 w'
abbrev FetchIs (Q : World → Prop) (S : Nat → Prop) (bv : Value) (pc x : Nat) : Prop := ∀ w1, Q w1 → Calls Tryz.prog 93 #[bv, .int .u32 pc, .int .i64 4] w1 fun e w' => e = .returned (.tuple #[.int .u32 x, trap 0 0]) ∧ Q w' ∧ Upd S w1 w'
end Go.Proofs.YtnbhohaphmilmaaGreatDoor.CpuLaw
namespace Go.Proofs.YtnbhohaphmilmaaGreatDoor
open Go.RowKit Go.Maps
set_option linter.unusedVariables false
set_option linter.unusedSimpArgs false
theorem td16 {x : Int} (h : 0 ≤ x) : x.tdiv 16 = x / 16 := Int.tdiv_eq_ediv_of_nonneg h
theorem tm16 {x : Int} (h : 0 ≤ x) : x.tmod 16 = x % 16 := Int.tmod_eq_emod_of_nonneg h
section
variable {w w' : World} {M so g b : Nat} {fr sl s pg ad : Int} {m : MS}
theorem MemG.two (h : MemG w M so fr sl m) (hs : m.S s = some b) (hwf : (Lit.int .i64 s).wf = true) : (Instr.lookup 131 (.map (some so)) (.int .i64 s) false).run Tryz.prog w = .ok (.map (some b)) w := by
  have l1 := h.om.look hwf
  rw [hs] at l1
  exact l1
theorem MemG.ent (h : MemG w M so fr sl m) (hs : m.S s = some b) {r : Int} (hF : m.F b pg = some (g, r)) (h0 : 0 ≤ pg) (h63 : pg < 64) : (Instr.lookup 210 (.map (some b)) (.int .i64 pg) false).run Tryz.prog w = .ok (.agg #[.pointer (some ⟨g, 0, none⟩), .int .i64 r]) w := by
  have l2 := (h.im s b hs).look (k := pg) (WalkArith.wf_i64 (by omega))
  rw [hF] at l2
  exact l2
theorem MemG.ent_ok (h : MemG w M so fr sl m) (hs : m.S s = some b) {r : Int} (hF : m.F b pg = some (g, r)) (h0 : 0 ≤ pg) (h63 : pg < 64) : (Instr.lookup 210 (.map (some b)) (.int .i64 pg) true).run Tryz.prog w = .ok (.tuple #[.agg #[.pointer (some ⟨g, 0, none⟩), .int .i64 r], .bool true]) w := by
  have l2 := (h.im s b hs).look_ok (k := pg) (WalkArith.wf_i64 (by omega))
  rw [hF] at l2
  exact l2
theorem fieldE (x y : Value) (w : World) : (Instr.field 222 (.agg #[x, y]) 0).run Tryz.prog w = .ok x w := by kernel_rfl
set_option maxRecDepth 100000 in
set_option maxHeartbeats 400000 in
theorem mayG_is (h : MemG w M so fr sl m) (hs : m.S s = some b) (hwf : (Lit.int .i64 s).wf = true) (h0 : 0 ≤ pg) (h63 : pg < 64) (hF : m.F b pg = some (g, 3)) (had : ad = 16 * pg) {n wt : Int} (n0 : 0 ≤ n) (hn : n ≤ 16) (hw : wt = 1 ∨ wt = 2) :
    Calls Tryz.prog 262 #[.pointer (some ⟨M, 0, none⟩), .int .i64 s, .int .i64 ad, .int .i64 n, .int .i64 wt] w fun e w' => e = .returned (.bool true) ∧ Below w.heap.size w w' := by
  have m4 := h.m4
  have l1 := h.two hs hwf
  have l2 := h.ent_ok hs hF h0 h63
  have HB := Lib.hid (Go.Joins.below_alloc1 w (.cells #[.pointer (some ⟨g, 0, none⟩), .int .i64 3] 222))
  by_cases hz : n = 0
  · subst hz
    clear h l1 l2 m4 hs hwf hF had
    go_enter Tryz.func262, Tryz.ntmps262
    go_wp2_with fail
    go_ret
    exact ⟨rfl, Below.refl _ _⟩
  have i0 : ¬ ad < 0 := by omega
  have i1 : ¬ 1024 - n < ad := by omega
  have i2 : (n == 0) = false := by simp; omega
  have y0 : IntKind.i64.wrap (1024 - n) = 1024 - n := IntWalk.i64_in _ (by omega)
  have y1 : IntKind.i64.wrap (ad + n) = ad + n := IntWalk.i64_in _ (by omega)
  have y2 : IntKind.i64.wrap (ad + n - 1) = ad + n - 1 := IntWalk.i64_in _ (by omega)
  have q0 : ad.tdiv 16 = pg := by rw [td16 (by omega)]; omega
  have q1 : (ad + n - 1).tdiv 16 = pg := by rw [td16 (by omega)]; omega
  have y3 : IntKind.i64.wrap pg = pg := IntWalk.i64_in _ (by omega)
  have y5 : IntKind.i64.wrap (pg + 1) = pg + 1 := IntWalk.i64_in _ (by omega)
  have i5 : ¬ pg + 1 ≤ pg := by omega
  have i6 : pg ≤ pg := by omega
  have i7 : pg < pg + 1 := by omega
  clear h hs hwf hF had hz
  go_enter Tryz.func262, Tryz.ntmps262
  go_wp2_with fail
  refine wp_loop_rounds 2 ?_
  rw [rounds_succ]
  rcases hw with rfl | rfl
  · go_wp2_with fail
    rw [rounds_succ]
    go_wp2_with fail
    go_ret
    exact ⟨rfl, HB.out⟩
  · go_wp2_with fail
    rw [rounds_succ]
    go_wp2_with fail
    go_ret
    exact ⟨rfl, HB.out⟩
set_option maxRecDepth 100000 in
set_option maxHeartbeats 400000 in
theorem sharedG_is (h : MemG w M so fr sl m) (hs : m.S s = some b) (hwf : (Lit.int .i64 s).wf = true) (h0 : 0 ≤ pg) (h63 : pg < 64) (hF : m.F b pg = some (g, 3)) (hg : g ∈ m.pl) (had : ad = 16 * pg) {n u : Int} (n0 : 0 ≤ n) (hn : n ≤ 16) (hu : m.u g = u) (hu1 : u = 1 ∨ u = 2) {x : Int} (hx : x = if 0 < n ∧ u = 2 then 1 else 0) :
    Calls Tryz.prog 327 #[.pointer (some ⟨M, 0, none⟩), .int .i64 s, .int .i64 ad, .int .i64 n] w fun e w' => e = .returned (.int .i64 x) ∧ w = w' := by
  have m4 := h.m4
  have l1 := h.two hs hwf
  have l2 := h.ent hs hF h0 h63
  have fd := fieldE (.pointer (some ⟨g, 0, none⟩)) (.int .i64 3) w
  have us := (h.pg g hg).us
  rw [hu] at us
  by_cases hz : n = 0
  · subst hz
    rw [if_neg (by omega)] at hx
    subst hx
    have q0 : ad.tdiv 16 = pg := by rw [td16 (by omega)]; omega
    have y3 : IntKind.i64.wrap pg = pg := IntWalk.i64_in _ (by omega)
    clear h l1 l2 m4 hs hwf hF had hu us fd
    go_enter Tryz.func327, Tryz.ntmps327
    go_wp2_with fail
    refine wp_loop_rounds 1 ?_
    rw [rounds_succ]
    go_wp2_with fail
    go_ret
    exact ⟨rfl, rfl⟩
  have i2 : (0 : Int) < n := by omega
  have y1 : IntKind.i64.wrap (ad + n) = ad + n := IntWalk.i64_in _ (by omega)
  have y2 : IntKind.i64.wrap (ad + n - 1) = ad + n - 1 := IntWalk.i64_in _ (by omega)
  have q0 : ad.tdiv 16 = pg := by rw [td16 (by omega)]; omega
  have q1 : (ad + n - 1).tdiv 16 = pg := by rw [td16 (by omega)]; omega
  have y3 : IntKind.i64.wrap pg = pg := IntWalk.i64_in _ (by omega)
  have y5 : IntKind.i64.wrap (pg + 1) = pg + 1 := IntWalk.i64_in _ (by omega)
  have i5 : ¬ pg + 1 ≤ pg := by omega
  have i6 : pg ≤ pg := by omega
  have i7 : pg < pg + 1 := by omega
  clear h hs hwf hF had hz hu
  go_enter Tryz.func327, Tryz.ntmps327
  go_wp2_with fail
  refine wp_loop_rounds 2 ?_
  rw [rounds_succ]
  rcases hu1 with rfl | rfl
  · rw [if_neg (by omega)] at hx
    subst hx
    go_wp2_with fail
    rw [rounds_succ]
    go_wp2_with fail
    go_ret
    exact ⟨rfl, rfl⟩
  · rw [if_pos ⟨i2, rfl⟩] at hx
    subst hx
    go_wp2_with fail
    rw [rounds_succ]
    go_wp2_with fail
    go_ret
    exact ⟨rfl, rfl⟩
end
end Go.Proofs.YtnbhohaphmilmaaGreatDoor
namespace Go.Proofs.YtnbhohaphmilmaaGreatDoor
open Go.RowKit Go.Maps
set_option linter.unusedVariables false
set_option linter.unusedSimpArgs false
theorem MS.askd3 (m : MS) {g : Nat} (h : m.h g = true) : { m with h := fup m.h g true } = m := by
  cases m
  simp only [fup_id _ _ _ h]
/-- the first n bytes of a page -/
def pgl (d : Nat → Int) (n : Nat) : List Int := (List.range n).map d
theorem pgl_succ (d : Nat → Int) (n : Nat) : pgl d (n + 1) = pgl d n ++ [d n] := by simp [pgl, List.range_succ]
theorem pgl_len (d : Nat → Int) (n : Nat) : (pgl d n).length = n := by simp [pgl]
section
variable {w w' : World} {M so g b : Nat} {fr sl s pg ad : Int} {m : MS}
theorem askG_here (h : MemG w M so fr sl m) (hg : g ∈ m.pl) (hh : m.h g = true) : Calls Tryz.prog 150 #[.pointer (some ⟨M, 0, none⟩), .pointer (some ⟨g, 0, none⟩)] w fun e w' => e = .returned (.tuple #[]) ∧ MemG w' M so fr sl m ∧ Upd (fun k => k = M ∨ k = g) w w' := by
  have := askG_is h hg (.inl hh)
  rw [MS.askd3 m hh] at this
  exact this
attribute [local go_sem ↓] appB_eq
set_option maxRecDepth 100000 in
set_option maxHeartbeats 1000000 in
theorem fetchG_is (h : MemG w M so fr sl m) (hs : m.S s = some b) (hwf : (Lit.int .i64 s).wf = true) (h0 : 0 ≤ pg) (h63 : pg < 64) {r : Int} (hF : m.F b pg = some (g, r)) (hg : g ∈ m.pl) (hh : m.h g = true) (had : ad = 16 * pg) {n : Nat} (hn : n ≤ 16) {N : Int} (hN : N = n) :
    Calls Tryz.prog 263 #[.pointer (some ⟨M, 0, none⟩), .int .i64 s, .int .i64 ad, .int .i64 N] w fun e w' => (∃ v, e = .returned v ∧ OB w.heap.size w' v (pgl (m.d g) n)) ∧ MemG w' M so fr sl m ∧ Upd (fun k => k = M ∨ k = g) w w' := by
  have HM := Lib.hid h
  have HX := Lib.hid (And.intro hs (And.intro hwf (And.intro hF (And.intro hg hh))))
  have a0 : 0 ≤ ad := by omega
  have a1 : ad ≤ 1008 := by omega
  have y1 : IntKind.i64.wrap (ad + N) = ad + N := IntWalk.i64_in _ (by omega)
  have HAD := Lib.hid had
  have HGM : Hid (g < w.heap.size ∧ M < w.heap.size) := Lib.hid ⟨h.lt (.inr (.inr (.inr (.inr hg)))), h.mlt⟩
  have HMB : Hid (∀ j, mB M so m j → j < w.heap.size) := Lib.hid fun j hj => h.lt hj
  clear h hs hwf hF hg hh had
  subst hN
  go_enter Tryz.func263, Tryz.ntmps263
  go_wp2_with fail
  go_loopw [9, 10] (fun ov kv wr => ∃ k : Nat, k ≤ n ∧ kv = .int .i64 (ad + k) ∧ Hid (OB w.heap.size wr ov (pgl (m.d g) k)) ∧ Hid (MemG wr M so fr sl m) ∧ Hid (Upd (fun k => k = M ∨ k = g) w wr)) (fun _ kv _ => (ad + n - intOf kv).toNat)
  case atStart => exact ⟨0, by omega, by simp, Lib.hid (OB.nil _ _), HM, Lib.hid (Upd.refl _ _)⟩
  case round =>
    obtain ⟨k, hk0, rfl, HO, HM1, HU⟩ := hrel
    by_cases hk : k < n
    · have i1 : ad + (k : Int) < ad + n := by omega
      have m4 := HM1.out.m4
      have l1 := HM1.out.two HX.out.1 HX.out.2.1
      have l2 := HM1.out.ent HX.out.1 HX.out.2.2.1 h0 h63
      have fd := fieldE (.pointer (some ⟨g, 0, none⟩)) (.int .i64 r) wr
      have q0 : (ad + (k : Int)).tdiv 16 = pg := by rw [td16 (by omega)]; have := HAD.out; omega
      have q1 : (ad + (k : Int)).tmod 16 = k := by rw [tm16 (by omega)]; have := HAD.out; omega
      have q2 : (ad + (k : Int)) / 16 = pg := by have := HAD.out; omega
      have q3 : (ad + (k : Int)) % 16 = k := by have := HAD.out; omega
      have y2 : IntKind.i64.wrap pg = pg := IntWalk.i64_in _ (by omega)
      have y3 : IntKind.i64.wrap (k : Int) = k := IntWalk.i64_in _ (by omega)
      have y4 : IntKind.i64.wrap (ad + (k : Int) + 1) = ad + (k : Int) + 1 := IntWalk.i64_in _ (by omega)
      have k16 : (k : Int) < 16 := by omega
      have k0 : (0 : Int) ≤ k := by omega
      have HAS := Lib.hid (askG_here HM1.out HX.out.2.2.2.1 HX.out.2.2.2.2)
      go_upto_region 7 with (go_at_call 150; refine HAS.out.mono ?_; rintro e1 w1 ⟨rfl, hm1, hu1⟩)
      have dc := (hm1.pg g HX.out.2.2.2.1).dc k (by omega)
      have HM2 := Lib.hid hm1
      have ho1 := HO.out.upd hu1 (fun j e q => by
        have := HO.out.far (b := j) (B := w.heap.size) (by rcases q with rfl | rfl; exact HGM.out.2; exact HGM.out.1)
        exact this e)
      have hsz := Nat.le_trans HU.out.size hu1.size
      obtain ⟨x, hx⟩ : ∃ x, x = m.d g k := ⟨_, rfl⟩
      have HPX := Lib.hid (show pgl (m.d g) (k + 1) = pgl (m.d g) k ++ [x] by rw [pgl_succ, hx])
      rw [← hx] at dc
      clear hx
      obtain ⟨p', c', w2, hap, ho2, hg2, hb2⟩ := ho1.push hsz x (by rw [pgl_len]; omega)
      rw [pgl_len] at hap ho2
      rw [← HPX.out] at ho2
      have hu2 : Upd (fun j => u9.ownBlock = some j) w1 w2 := (Upd.below (Go.Joins.below_alloc1 w1 _)).trans (Upd.grown0 hg2 (fun j e _ => e))
      have HM3 := Lib.hid (hm1.upd hu2 (fun j e q => HO.out.far (b := j) (HMB.out j e) q))
      have HO3 : Hid (OB w.heap.size w2 (.slice p' (k + 1) c') (pgl (m.d g) (k + 1))) := Lib.hid ho2
      have HU3 := Lib.hid ((HU.out.trans hu1).trans' hu2 (fun j hj q => absurd q (HO.out.far hj)))
      clear HO HM1 HU HAS HM2 ho1 hm1 hu1 ho2 hg2 hb2 hu2 HPX l1 l2 fd m4
      go_wp2_with fail
      go_roundw
      case rel => exact ⟨k + 1, by omega, by go_num, HO3, HM3, HU3⟩
      case measure => simp [intOf]; omega
    · obtain rfl : k = n := by omega
      go_wp2_with fail
      go_ret
      exact ⟨⟨_, rfl, HO.out⟩, HM1.out, HU.out⟩
end
end Go.Proofs.YtnbhohaphmilmaaGreatDoor
namespace Go.Proofs.YtnbhohaphmilmaaGreatDoor
open Go.RowKit Go.Maps
set_option linter.unusedVariables false
set_option linter.unusedSimpArgs false
section
variable {w w' : World} {M so g b : Nat} {fr sl s pg ad o r wt : Int} {m : MS}
set_option maxRecDepth 100000 in
set_option maxHeartbeats 400000 in
theorem may1_is (h : MemG w M so fr sl m) (hs : m.S s = some b) (hwf : (Lit.int .i64 s).wf = true) (h0 : 0 ≤ pg) (h63 : pg < 64) (hF : m.F b pg = some (g, r)) (had : ad = 16 * pg + o) (o0 : 0 ≤ o) (o16 : o < 16) {n : Int} (hn : n = 1) (hw : bits .and .i64 r wt = wt) :
    Calls Tryz.prog 262 #[.pointer (some ⟨M, 0, none⟩), .int .i64 s, .int .i64 ad, .int .i64 n, .int .i64 wt] w fun e w' => e = .returned (.bool true) ∧ Below w.heap.size w w' := by
  have m4 := h.m4
  have l1 := h.two hs hwf
  have l2 := h.ent_ok hs hF h0 h63
  have HB := Lib.hid (Go.Joins.below_alloc1 w (.cells #[.pointer (some ⟨g, 0, none⟩), .int .i64 r] 222))
  have i0 : ¬ ad < 0 := by omega
  have i1 : ¬ 1024 - n < ad := by omega
  have i2 : (n == 0) = false := by simp; omega
  have i3 : (bits .and .i64 r wt != wt) = false := by simp [hw]
  have y0 : IntKind.i64.wrap (1024 - n) = 1024 - n := IntWalk.i64_in _ (by omega)
  have y1 : IntKind.i64.wrap (ad + n) = ad + n := IntWalk.i64_in _ (by omega)
  have y2 : IntKind.i64.wrap (ad + n - 1) = ad + n - 1 := IntWalk.i64_in _ (by omega)
  have q0 : ad.tdiv 16 = pg := by rw [td16 (by omega)]; omega
  have q1 : (ad + n - 1).tdiv 16 = pg := by rw [td16 (by omega)]; omega
  have y3 : IntKind.i64.wrap pg = pg := IntWalk.i64_in _ (by omega)
  have y5 : IntKind.i64.wrap (pg + 1) = pg + 1 := IntWalk.i64_in _ (by omega)
  have i5 : ¬ pg + 1 ≤ pg := by omega
  have i6 : pg ≤ pg := by omega
  have i7 : pg < pg + 1 := by omega
  clear h hs hwf hF had hw
  go_enter Tryz.func262, Tryz.ntmps262
  go_wp2_with fail
  refine wp_loop_rounds 2 ?_
  rw [rounds_succ]
  go_wp2_with fail
  rw [rounds_succ]
  go_wp2_with fail
  go_ret
  exact ⟨rfl, HB.out⟩
attribute [local go_sem ↓] appB_eq
set_option maxRecDepth 100000 in
set_option maxHeartbeats 1000000 in
theorem fetch1_is (h : MemG w M so fr sl m) (hs : m.S s = some b) (hwf : (Lit.int .i64 s).wf = true) (h0 : 0 ≤ pg) (h63 : pg < 64) (hF : m.F b pg = some (g, r)) (hg : g ∈ m.pl) (hh : m.h g = true ∨ (m.pl.countP m.h : Int) < fr) (had : ad = 16 * pg + o) (o0 : 0 ≤ o) (o16 : o < 16) {n : Int} (hn : n = 1) :
    Calls Tryz.prog 263 #[.pointer (some ⟨M, 0, none⟩), .int .i64 s, .int .i64 ad, .int .i64 n] w fun e w' => (∃ v, e = .returned v ∧ OB w.heap.size w' v [m.d g o.toNat]) ∧ MemG w' M so fr sl { m with h := fup m.h g true } ∧ Upd (fun k => k = M ∨ k = g) w w' := by
  have HX := Lib.hid hg
  have a0 : 0 ≤ ad := by omega
  have a1 : ad < 1024 := by omega
  have y1 : IntKind.i64.wrap (ad + n) = ad + n := IntWalk.i64_in _ (by omega)
  have HGM : Hid (g < w.heap.size ∧ M < w.heap.size) := Lib.hid ⟨h.lt (.inr (.inr (.inr (.inr hg)))), h.mlt⟩
  have HMB : Hid (∀ j, mB M so m j → j < w.heap.size) := Lib.hid fun j hj => h.lt hj
  have i1 : ad < ad + n := by omega
  have m4 := h.m4
  have l1 := h.two hs hwf
  have l2 := h.ent hs hF h0 h63
  have fd := fieldE (.pointer (some ⟨g, 0, none⟩)) (.int .i64 r) w
  have q0 : ad.tdiv 16 = pg := by rw [td16 (by omega)]; omega
  have q1 : ad.tmod 16 = o := by rw [tm16 (by omega)]; omega
  have q2 : ad / 16 = pg := by omega
  have q3 : ad % 16 = o := by omega
  have y2 : IntKind.i64.wrap pg = pg := IntWalk.i64_in _ (by omega)
  have y3 : IntKind.i64.wrap o = o := IntWalk.i64_in _ (by omega)
  have y4 : IntKind.i64.wrap (ad + 1) = ad + 1 := IntWalk.i64_in _ (by omega)
  have i9 : ¬ ad + 1 < ad + n := by omega
  have HAS := Lib.hid (askG_is h hg hh)
  have HO0 := Lib.hid (OB.nil w.heap.size w)
  obtain ⟨k, rfl⟩ : ∃ k : Nat, o = k := ⟨o.toNat, by omega⟩
  have k16 : k < 16 := by omega
  have k16' : (k : Int) < 16 := by omega
  clear h hs hwf hF hg hh had hn o16
  rw [show ((k : Int)).toNat = k from rfl]
  go_enter Tryz.func263, Tryz.ntmps263
  go_wp2_with fail
  refine wp_loop_rounds 2 ?_
  rw [rounds_succ]
  go_wp2_with (go_at_call 150; refine HAS.out.mono ?_; rintro e1 w1 ⟨rfl, hm1, hu1⟩; have dc := (hm1.pg g HX.out).dc k k16; have HM1 := Lib.hid hm1; have HU1 := Lib.hid hu1; obtain ⟨p', c', w2, hap, ho2, hg2, hb2⟩ := (HO0.out.upd hu1 (fun j e q => by cases e)).push hu1.size (m.d g k) (by decide); have HO2 := Lib.hid ho2; have HU2 := Lib.hid ((Upd.below (Go.Joins.below_alloc1 w1 (.cells #[.int .u8 (m.d g k)] 5))).trans (Upd.grown0 hg2 (S := fun _ => False) (fun j e _ => by cases e))); clear hm1 hu1 ho2 hg2 hb2)
  rw [rounds_succ]
  go_wp2_with fail
  go_ret
  exact ⟨⟨_, rfl, HO2.out⟩, HM1.out.upd HU2.out (fun _ _ e => e), HU1.out.trans (HU2.out.mono fun _ _ e => e.elim)⟩
end
end Go.Proofs.YtnbhohaphmilmaaGreatDoor
namespace Go.Proofs.YtnbhohaphmilmaaGreatDoor
open Go.RowKit Go.Maps
set_option linter.unusedVariables false
set_option linter.unusedSimpArgs false
theorem ob_one {B : Nat} {w : World} {v : Value} {x : Int} (h : OB B w v [x]) : ∃ q c, v = .slice (some ⟨q, 0, none⟩) 1 c ∧ w.cell? ⟨q, 0, none⟩ = some (.int .u8 x) := by
  rcases h.2 with ⟨he, hn⟩ | ⟨g2, c2, cur, he, _, hgg, _, _, hcs, htk⟩
  · cases hn
  · refine ⟨g2, c2, he, ?_⟩
    have e : (cur.toList.take (1 * 1))[0]? = ([x].map u8V)[0]? := by rw [← htk]; rfl
    rw [List.getElem?_take, if_pos (by decide), Array.getElem?_toList] at e
    rw [cell_of_row w g2 0 _ _ _ hgg, e]
    rfl
section
variable {w w' : World} {M so g b : Nat} {fr sl s pg o r wt : Int} {m : MS}
set_option maxRecDepth 100000 in
set_option maxHeartbeats 1000000 in
theorem load_is (h : MemG w M so fr sl m) (hs : m.S s = some b) (hwf : (Lit.int .i64 s).wf = true) (h0 : 0 ≤ pg) (h63 : pg < 64) (hF : m.F b pg = some (g, r)) (hg : g ∈ m.pl) (hh : m.h g = true ∨ (m.pl.countP m.h : Int) < fr) {ad : Nat} (had : (ad : Int) = 16 * pg + o) (o0 : 0 ≤ o) (o16 : o < 16) (hw1 : wt = 1 ∨ wt = 4) (hw : bits .and .i64 r wt = wt) :
    Calls Tryz.prog 261 #[.pointer (some ⟨M, 0, none⟩), .int .i64 s, .int .u32 ad, .int .i64 wt] w fun e w' => e = .returned (.tuple #[.int .u8 (m.d g o.toNat), .int .i64 0]) ∧ MemG w' M so fr sl { m with h := fup m.h g true } ∧ Upd (fun k => k = M ∨ k = g) w w' := by
  have HM := Lib.hid h
  have HMA := Lib.hid (may1_is h hs hwf h0 h63 hF had o0 o16 (n := 1) rfl hw)
  have HFE := Lib.hid (fun (w1 : World) (hb : Below w.heap.size w w1) => fetch1_is (h.keep hb) hs hwf h0 h63 hF hg hh had o0 o16 (n := 1) rfl)
  have m4 := h.m4
  have l1 := h.two hs hwf
  have l2 := map_no_nil w b
  have hlt : (ad : Int) < 1024 := by omega
  have y1 : IntKind.i64.wrap (ad : Int) = ad := IntWalk.i64_in _ (by omega)
  clear h hs hwf hF hg hh hw had
  rcases hw1 with rfl | rfl
  all_goals
    go_enter Tryz.func261, Tryz.ntmps261
    go_wp2_with (first | (go_at_call 262; refine HMA.out.mono ?_; rintro e1 w1 ⟨rfl, hb1⟩; have HF1 := Lib.hid (HFE.out w1 hb1); have HB1 := Lib.hid hb1; clear hb1) | (go_at_call 263; refine HF1.out.mono ?_; rintro e2 w2 ⟨⟨v, rfl, ho2⟩, hm2, hu2⟩; have HM2 := Lib.hid hm2; have HU2 := Lib.hid ((Upd.below HB1.out).trans hu2); obtain ⟨q, c, rfl, hq⟩ := ob_one ho2; clear hm2 hu2 ho2))
    go_ret2
    exact ⟨rfl, HM2.out, HU2.out⟩
set_option maxRecDepth 100000 in
set_option maxHeartbeats 1000000 in
theorem bload_is (h : MemG w M so fr sl m) (hs : m.S s = some b) (hwf : (Lit.int .i64 s).wf = true) (h0 : 0 ≤ pg) (h63 : pg < 64) (hF : m.F b pg = some (g, r)) (hg : g ∈ m.pl) (hh : m.h g = true ∨ (m.pl.countP m.h : Int) < fr) {ad : Nat} (had : (ad : Int) = 16 * pg + o) (o0 : 0 ≤ o) (o16 : o < 16) (hw1 : wt = 1 ∨ wt = 4) (hw : bits .and .i64 r wt = wt) :
    Calls Tryz.prog 459 #[.agg #[.pointer (some ⟨M, 0, none⟩), .int .i64 s], .int .u32 ad, .int .i64 wt] w fun e w' => e = .returned (.tuple #[.int .u8 (m.d g o.toNat), .int .i64 0]) ∧ MemG w' M so fr sl { m with h := fup m.h g true } ∧ Upd (fun k => k = M ∨ k = g) w w' := by
  have hal := Go.Joins.below_alloc1 w (.cells #[.pointer (some ⟨M, 0, none⟩), .int .i64 s] 123)
  have hr := row_new w 123 #[.pointer (some ⟨M, 0, none⟩), .int .i64 s]
  have c0 := hr.cell 0
  have c1 := hr.cell 1
  have HL := Lib.hid (load_is (h.keep hal) hs hwf h0 h63 hF hg hh had o0 o16 hw1 hw)
  have HB := Lib.hid hal
  clear h hs hwf hF hg hh hw had hr hw1
  go_enter Tryz.func459, Tryz.ntmps459
  go_wp2_with (go_at_call 261; refine HL.out.mono ?_; rintro e1 w1 ⟨rfl, hm1, hu1⟩; have HM1 := Lib.hid hm1; have HU1 := Lib.hid ((Upd.below HB.out).trans hu1); clear hm1 hu1)
  go_ret2
  exact ⟨rfl, HM1.out, HU1.out⟩
end
end Go.Proofs.YtnbhohaphmilmaaGreatDoor
