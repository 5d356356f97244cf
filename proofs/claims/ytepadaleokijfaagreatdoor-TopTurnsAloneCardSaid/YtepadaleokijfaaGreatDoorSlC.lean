/- The bus of ringtop: bytes of its own (printed by gen_alo.py). The walks of package wheel with one timer: Add at none. The walk of wheel.Step at any timers. -/
import Derived.Test.YtepadaleokijfaaGreatDoorAlG
import Derived.Test.YtepadaleokijfaaGreatDoorAlE
import Derived.Test.YtepadaleokijfaaGreatDoorKerTk
import Derived.Test.YtepadaleokijfaaGreatDoorKerS
namespace Go.Proofs.YtepadaleokijfaaGreatDoor.CpuLaw
open Go.RowKit
set_option linter.unusedVariables false
set_option linter.unusedSimpArgs false
/-- n times 1024 bytes -/
structure MemA (w : World) (M n : Nat) (B : Nat → Nat → Nat) : Prop where
  lt : M < w.heap.size
  c : ∀ j a, j < n → a < 1024 → w.cell? ⟨M, j * 1024 + a, none⟩ = some (.int .u8 (B j a))
  fz : ∀ o, w.frozen? ⟨M, o, none⟩ = false
section
variable {w w' : World} {M n : Nat} {B : Nat → Nat → Nat}
theorem MemA.keepB (h : MemA w M n B) (hb : w'.heap[M]? = w.heap[M]?) (hs : w.heap.size ≤ w'.heap.size) : MemA w' M n B :=
  ⟨Nat.lt_of_lt_of_le h.lt hs, fun j a hj ha => (World.cell?_of_block (w := w) hb).trans (h.c j a hj ha), fun o => (World.frozen?_of_block (w := w) hb).trans (h.fz o)⟩
theorem MemA.keep (h : MemA w M n B) (hb : Below w.heap.size w w') : MemA w' M n B := h.keepB (hb.block M h.lt) hb.size
theorem MemA.store (h : MemA w M n B) {i a z : Nat} (hi : i < n) (ha : a < 1024) : MemA (w.setCell ⟨M, i * 1024 + a, none⟩ (.int .u8 z)) M n (fup B i (fun k => if k = a then z else B i k)) := by
  refine ⟨by simpa [World.setCell] using h.lt, fun j k hj hk => ?_, fun o => by rw [World.frozen?_setCell]; exact h.fz o⟩
  by_cases e : j * 1024 + k = i * 1024 + a
  · obtain rfl : j = i := by omega
    obtain rfl : k = a := by omega
    rw [fup_same, if_pos rfl]
    have hc := h.c j k hj hk
    simp [go_sem, hc]
  · have e1 : (w.setCell ⟨M, i * 1024 + a, none⟩ (.int .u8 z)).cell? ⟨M, j * 1024 + k, none⟩ = w.cell? ⟨M, j * 1024 + k, none⟩ := by
      simp [go_sem, e]
    rw [e1, h.c j k hj hk]
    by_cases q : j = i
    · subst q
      rw [fup_same, if_neg (by omega)]
    · rw [fup_off _ _ q]
end
theorem meth_loadR (v : Value) (w : World) : (method 673 50 v "Load").run Tryz.prog w = .ok (453, v) w := by kernel_rfl
theorem meth_storeR (v : Value) (w : World) : (method 673 50 v "Store").run Tryz.prog w = .ok (454, v) w := by kernel_rfl
section
variable {w w' : World} {M n : Nat} {B : Nat → Nat → Nat}
set_option maxRecDepth 100000 in
set_option maxHeartbeats 400000 in
theorem rload_is (h : MemA w M n B) {i a : Nat} (hi : i < n) (ha : a < 1024) (wt : Int) :
    Calls Tryz.prog 453 #[.agg #[.pointer (some ⟨M, i * 1024, none⟩)], .int .u32 a, .int .i64 wt] w fun e w' => e = .returned (.tuple #[.int .u8 (B i a), .int .i64 0]) ∧ Below w.heap.size w w' := by
  have hal := Go.Joins.below_alloc1 w (.cells #[.pointer (some ⟨M, i * 1024, none⟩)] 50)
  have hr := Go.Proofs.YtepadaleokijfaaGreatDoor.row_new w 50 #[.pointer (some ⟨M, i * 1024, none⟩)]
  have c0 := hr.cell 0
  have c1 := (hal.cell (p := ⟨M, i * 1024 + a, none⟩) h.lt).trans (h.c i a hi ha)
  have HB := Lib.hid hal
  have i1 : (a : Int) < 1024 := by omega
  have i2 : ¬ 1024 ≤ (a : Int) := by omega
  clear h hr hal hi
  go_enter Tryz.func453, Tryz.ntmps453
  go_wp2_with fail
  go_ret2
  exact ⟨rfl, HB.out⟩
set_option maxRecDepth 100000 in
set_option maxHeartbeats 400000 in
theorem rstore_is (h : MemA w M n B) {i a z : Nat} (hi : i < n) (ha : a < 1024) :
    Calls Tryz.prog 454 #[.agg #[.pointer (some ⟨M, i * 1024, none⟩)], .int .u32 a, .int .u8 z] w fun e w' => e = .returned (.int .i64 0) ∧ MemA w' M n (fup B i (fun k => if k = a then z else B i k)) ∧ Upd (fun k => k = M) w w' := by
  have hal := Go.Joins.below_alloc1 w (.cells #[.pointer (some ⟨M, i * 1024, none⟩)] 50)
  have hr := Go.Proofs.YtepadaleokijfaaGreatDoor.row_new w 50 #[.pointer (some ⟨M, i * 1024, none⟩)]
  have c0 := hr.cell 0
  have h2 := h.keep hal
  have c1 := h2.c i a hi ha
  have fz := h2.fz (i * 1024 + a)
  have HS := Lib.hid (h2.store (z := z) hi ha)
  have HU := Lib.hid ((Upd.below hal).trans (Upd.set (w.alloc (.cells #[.pointer (some ⟨M, i * 1024, none⟩)] 50)) (b := M) (i := i * 1024 + a) (.int .u8 z) (S := fun k => k = M) rfl))
  have i1 : (a : Int) < 1024 := by omega
  have i2 : ¬ 1024 ≤ (a : Int) := by omega
  clear h h2 hr hal hi
  go_enter Tryz.func454, Tryz.ntmps454
  go_wp2_with fail
  go_ret
  exact ⟨rfl, HS.out, HU.out⟩
end
section
attribute [local go_sem ↓] sub33_eq add33_eq or33_eq shl33_eq wideB_eq
abbrev LdIsR (Q : World → Prop) (S : Nat → Prop) (M o0 : Nat) (wt : Int) (a x : Nat) : Prop := ∀ w1, Q w1 → Calls Tryz.prog 453 #[.agg #[.pointer (some ⟨M, o0, none⟩)], .int .u32 a, .int .i64 wt] w1 fun e w' => e = .returned (.tuple #[.int .u8 x, .int .i64 0]) ∧ Q w' ∧ Upd S w1 w'
set_option maxRecDepth 100000 in
set_option maxHeartbeats 1000000 in
theorem fetch_walkR {w : World} {M o0 : Nat} {Q : World → Prop} {S : Nat → Prop} {B : Nat} {a a1 a2 a3 x0 x1 x2 x3 y0 y1 y2 y3 z0 z1 z2 z3 : Nat} {want : Int} (hK : CalmQ Q S B) (hB : B ≤ w.heap.size) (hQ : Q w) (h4 : ((a : Int) % 4 != 0) = false)
    (d0 : ∀ w, (add33 (.int .u32 a) (.int .u32 0)).run Tryz.prog w = .ok (.int .u32 a) w) (v0 : ∀ w, (wideB (.int .u8 x0)).run Tryz.prog w = .ok (.int .u32 x0) w) (s0 : ∀ w, (shl33 (.int .u32 x0) (.int .u32 0)).run Tryz.prog w = .ok (.int .u32 y0) w) (t0 : ∀ w, (or33 (.int .u32 0) (.int .u32 y0)).run Tryz.prog w = .ok (.int .u32 z0) w)
    (H0 : LdIsR Q S M o0 want a x0)
    (d1 : ∀ w, (add33 (.int .u32 a) (.int .u32 1)).run Tryz.prog w = .ok (.int .u32 a1) w) (v1 : ∀ w, (wideB (.int .u8 x1)).run Tryz.prog w = .ok (.int .u32 x1) w) (s1 : ∀ w, (shl33 (.int .u32 x1) (.int .u32 8)).run Tryz.prog w = .ok (.int .u32 y1) w) (t1 : ∀ w, (or33 (.int .u32 z0) (.int .u32 y1)).run Tryz.prog w = .ok (.int .u32 z1) w)
    (H1 : LdIsR Q S M o0 want a1 x1)
    (d2 : ∀ w, (add33 (.int .u32 a) (.int .u32 2)).run Tryz.prog w = .ok (.int .u32 a2) w) (v2 : ∀ w, (wideB (.int .u8 x2)).run Tryz.prog w = .ok (.int .u32 x2) w) (s2 : ∀ w, (shl33 (.int .u32 x2) (.int .u32 16)).run Tryz.prog w = .ok (.int .u32 y2) w) (t2 : ∀ w, (or33 (.int .u32 z1) (.int .u32 y2)).run Tryz.prog w = .ok (.int .u32 z2) w)
    (H2 : LdIsR Q S M o0 want a2 x2)
    (d3 : ∀ w, (add33 (.int .u32 a) (.int .u32 3)).run Tryz.prog w = .ok (.int .u32 a3) w) (v3 : ∀ w, (wideB (.int .u8 x3)).run Tryz.prog w = .ok (.int .u32 x3) w) (s3 : ∀ w, (shl33 (.int .u32 x3) (.int .u32 24)).run Tryz.prog w = .ok (.int .u32 y3) w) (t3 : ∀ w, (or33 (.int .u32 z2) (.int .u32 y3)).run Tryz.prog w = .ok (.int .u32 z3) w)
    (H3 : LdIsR Q S M o0 want a3 x3)
    : Calls Tryz.prog 22 #[.iface 50 (.agg #[.pointer (some ⟨M, o0, none⟩)]), .int .u32 a, .int .i64 want] w fun e w' => e = .returned (.tuple #[.int .u32 z3, trap 0 0]) ∧ Q w' ∧ Upd S w w' := by
  have hm := meth_loadR (.agg #[.pointer (some ⟨M, o0, none⟩)])
  have g0 : ∀ w, (add33 (.int .u32 0) (.int .u32 1)).run Tryz.prog w = .ok (.int .u32 1) w := step_u32 0 1 rfl (by decide)
  have g1 : ∀ w, (add33 (.int .u32 1) (.int .u32 1)).run Tryz.prog w = .ok (.int .u32 2) w := step_u32 1 2 rfl (by decide)
  have g2 : ∀ w, (add33 (.int .u32 2) (.int .u32 1)).run Tryz.prog w = .ok (.int .u32 3) w := step_u32 2 3 rfl (by decide)
  have g3 : ∀ w, (add33 (.int .u32 3) (.int .u32 1)).run Tryz.prog w = .ok (.int .u32 4) w := step_u32 3 4 rfl (by decide)
  have G0 := Lib.hid H0
  have G1 := Lib.hid H1
  have G2 := Lib.hid H2
  have G3 := Lib.hid H3
  have HK := Lib.hid hK
  have HB := Lib.hid hB
  have HQ0 := Lib.hid (hK.keep _ _ hQ (Go.Joins.below_alloc1 w (.cells #[.int .i64 0, .int .u32 0] 45)))
  have HU0 : Hid (Upd S w (w.alloc (.cells #[.int .i64 0, .int .u32 0] 45))) := Lib.hid (Upd.alloc _ _)
  have HS0 := Lib.hid (slot_new w)
  clear H0 H1 H2 H3 hK hQ hB
  have HN : Hid (¬ S w.heap.size) := Lib.hid fun e => by have := HK.out.low _ e; have := HB.out; omega
  go_enter Tryz.func22, Tryz.ntmps22
  go_upto_region 1 with fail
  obtain ⟨n, hn⟩ : ∃ n, n = w.heap.size := ⟨_, rfl⟩
  rw [← hn] at HS0 HN ⊢
  have HNB : Hid (w.heap.size ≤ n) := Lib.hid (by omega)
  clear hn
  generalize w.alloc (.cells #[.int .i64 0, .int .u32 0] 45) = W0 at *
  have HS1 : Hid (∀ w1 w2, Slot n 0 0 w1 → Upd S w1 w2 → Slot n 0 0 w2) := Lib.hid fun w1 w2 h u => h.keepU u HN.out
  go_wp2_with fail
  refine wp_loop_rounds 5 ?_
  rw [rounds_succ]
  go_wp2_with (go_at_call 453; refine (G0.out _ HQ0.out).mono ?_; rintro e w1 ⟨rfl, hq1, hu1⟩; have HQ1 := Lib.hid hq1; have HT1 := Lib.hid (HS1.out _ _ HS0.out hu1); have HU1 := Lib.hid (HU0.out.trans hu1); clear hq1 hu1)
  rw [rounds_succ]
  go_wp2_with (go_at_call 453; refine (G1.out _ HQ1.out).mono ?_; rintro e w2 ⟨rfl, hq2, hu2⟩; have HQ2 := Lib.hid hq2; have HT2 := Lib.hid (HS1.out _ _ HT1.out hu2); have HU2 := Lib.hid (HU1.out.trans hu2); clear hq2 hu2)
  rw [rounds_succ]
  go_wp2_with (go_at_call 453; refine (G2.out _ HQ2.out).mono ?_; rintro e w3 ⟨rfl, hq3, hu3⟩; have HQ3 := Lib.hid hq3; have HT3 := Lib.hid (HS1.out _ _ HT2.out hu3); have HU3 := Lib.hid (HU2.out.trans hu3); clear hq3 hu3)
  rw [rounds_succ]
  go_wp2_with (go_at_call 453; refine (G3.out _ HQ3.out).mono ?_; rintro e w4 ⟨rfl, hq4, hu4⟩; have HQ4 := Lib.hid hq4; have HT4 := Lib.hid (HS1.out _ _ HT3.out hu4); have HU4 := Lib.hid (HU3.out.trans hu4); clear hq4 hu4)
  rw [rounds_succ]
  have c0 := HT4.out.c0
  have c1 := HT4.out.c1
  have fz := HT4.out.fz
  go_wp2_with fail
  have hf := HT4.out.set2 0 0
  have hq := HK.out.own w4 ((w4.setCell ⟨n, 0, none⟩ (.int .i64 0)).setCell ⟨n, 1, none⟩ (.int .u32 0)) n HQ4.out (Nat.le_trans HB.out HNB.out) ((Off.set _ _).trans (.set _ _))
  have hu := Off.upd HU4.out (d := n) (w' := (w4.setCell ⟨n, 0, none⟩ (.int .i64 0)).setCell ⟨n, 1, none⟩ (.int .u32 0)) ((Off.set _ _).trans (.set _ _)) HNB.out
  have e0 := hf.c0
  have e1 := hf.c1
  generalize (w4.setCell ⟨n, 0, none⟩ (.int .i64 0)).setCell ⟨n, 1, none⟩ (.int .u32 0) = W9 at *
  exact bodyPost_ret (v := .tuple #[.int .u32 z3, trap 0 0]) (by simp [results, Tryz.results22, go_sem, e0, e1]) rfl ⟨rfl, hq, hu⟩
end
section
attribute [local go_sem ↓] sub33_eq add33_eq or33_eq shl33_eq wideB_eq shr33_eq narrow_eq
set_option maxRecDepth 100000 in
set_option maxHeartbeats 1000000 in
theorem put_walkR {w : World} {rv : Value} {a a1 a2 a3 x y0 y1 y2 y3 z0 z1 z2 z3 : Nat} {P : Nat → World → Prop} (h4 : ((a : Int) % 4 != 0) = false) (hP0 : P 0 (w.alloc (.cells #[.int .i64 0, .int .u32 0] 45))) (hP : ∀ j w1, P j w1 → Slot w.heap.size 0 0 w1)
    (d0 : ∀ w, (add33 (.int .u32 a) (.int .u32 0)).run Tryz.prog w = .ok (.int .u32 a) w) (s0 : ∀ w, (shr33 (.int .u32 x) (.int .u32 0)).run Tryz.prog w = .ok (.int .u32 y0) w) (v0 : ∀ w, (narrow (.int .u32 y0)).run Tryz.prog w = .ok (.int .u8 z0) w)
    (H0 : ∀ w1, P 0 w1 → Calls Tryz.prog 454 #[rv, .int .u32 a, .int .u8 z0] w1 fun e w' => e = .returned (.int .i64 0) ∧ P 1 w')
    (d1 : ∀ w, (add33 (.int .u32 a) (.int .u32 1)).run Tryz.prog w = .ok (.int .u32 a1) w) (s1 : ∀ w, (shr33 (.int .u32 x) (.int .u32 8)).run Tryz.prog w = .ok (.int .u32 y1) w) (v1 : ∀ w, (narrow (.int .u32 y1)).run Tryz.prog w = .ok (.int .u8 z1) w)
    (H1 : ∀ w1, P 1 w1 → Calls Tryz.prog 454 #[rv, .int .u32 a1, .int .u8 z1] w1 fun e w' => e = .returned (.int .i64 0) ∧ P 2 w')
    (d2 : ∀ w, (add33 (.int .u32 a) (.int .u32 2)).run Tryz.prog w = .ok (.int .u32 a2) w) (s2 : ∀ w, (shr33 (.int .u32 x) (.int .u32 16)).run Tryz.prog w = .ok (.int .u32 y2) w) (v2 : ∀ w, (narrow (.int .u32 y2)).run Tryz.prog w = .ok (.int .u8 z2) w)
    (H2 : ∀ w1, P 2 w1 → Calls Tryz.prog 454 #[rv, .int .u32 a2, .int .u8 z2] w1 fun e w' => e = .returned (.int .i64 0) ∧ P 3 w')
    (d3 : ∀ w, (add33 (.int .u32 a) (.int .u32 3)).run Tryz.prog w = .ok (.int .u32 a3) w) (s3 : ∀ w, (shr33 (.int .u32 x) (.int .u32 24)).run Tryz.prog w = .ok (.int .u32 y3) w) (v3 : ∀ w, (narrow (.int .u32 y3)).run Tryz.prog w = .ok (.int .u8 z3) w)
    (H3 : ∀ w1, P 3 w1 → Calls Tryz.prog 454 #[rv, .int .u32 a3, .int .u8 z3] w1 fun e w' => e = .returned (.int .i64 0) ∧ P 4 w')
    : Calls Tryz.prog 60 #[.iface 50 rv, .int .u32 a, .int .u32 x] w fun e w' => e = .returned (trap 0 0) ∧ ∃ w1, P 4 w1 ∧ w' = (w1.setCell ⟨w.heap.size, 0, none⟩ (.int .i64 0)).setCell ⟨w.heap.size, 1, none⟩ (.int .u32 0) := by
  have hm := meth_storeR rv
  have g0 : ∀ w, (add33 (.int .u32 0) (.int .u32 1)).run Tryz.prog w = .ok (.int .u32 1) w := step_u32 0 1 rfl (by decide)
  have g1 : ∀ w, (add33 (.int .u32 1) (.int .u32 1)).run Tryz.prog w = .ok (.int .u32 2) w := step_u32 1 2 rfl (by decide)
  have g2 : ∀ w, (add33 (.int .u32 2) (.int .u32 1)).run Tryz.prog w = .ok (.int .u32 3) w := step_u32 2 3 rfl (by decide)
  have g3 : ∀ w, (add33 (.int .u32 3) (.int .u32 1)).run Tryz.prog w = .ok (.int .u32 4) w := step_u32 3 4 rfl (by decide)
  have G0 := Lib.hid H0
  have G1 := Lib.hid H1
  have G2 := Lib.hid H2
  have G3 := Lib.hid H3
  have GP := Lib.hid hP0
  have hQ := Lib.hid hP
  clear hP hP0 H0 H1 H2 H3
  go_enter Tryz.func60, Tryz.ntmps60
  go_wp2_with fail
  refine wp_loop_rounds 5 ?_
  rw [rounds_succ]
  go_wp2_with (go_at_call 454; refine (G0.out _ GP.out).mono ?_; rintro e w0 ⟨rfl, p0'⟩; have p0 := Lib.hid p0'; clear p0')
  rw [rounds_succ]
  go_wp2_with (go_at_call 454; refine (G1.out _ p0.out).mono ?_; rintro e w1 ⟨rfl, p1'⟩; have p1 := Lib.hid p1'; clear p1')
  rw [rounds_succ]
  go_wp2_with (go_at_call 454; refine (G2.out _ p1.out).mono ?_; rintro e w2 ⟨rfl, p2'⟩; have p2 := Lib.hid p2'; clear p2')
  rw [rounds_succ]
  go_wp2_with (go_at_call 454; refine (G3.out _ p2.out).mono ?_; rintro e w3 ⟨rfl, p3'⟩; have p3 := Lib.hid p3'; clear p3')
  have q := hQ.out _ _ p3.out
  have q0 := q.c0
  have q1 := q.c1
  have qf := q.fz
  clear q
  rw [rounds_succ]
  go_wp2_with fail
  exact bodyPost_ret (v := trap 0 0) (by simp [results, Tryz.results60, go_sem, q0, q1, qf]) rfl ⟨rfl, _, p3.out, rfl⟩
end
/-- the bytes of a program, with a page of data -/
def bt (c d : Nat → Nat) (a : Nat) : Nat := if 64 ≤ a ∧ a < 80 then d (a - 64) else c a
def RQ (M n : Nat) (B : Nat → Nat → Nat) (i : Nat) (d : Nat → Nat) (w : World) : Prop := MemA w M n (fup B i (bt (B i) d))
theorem bt_put {c d : Nat → Nat} {o x j z : Nat} (ho : o + j < 16) (hz : z = x / 2 ^ (8 * j) % 256) : (fun k => if k = 64 + (o + j) then z else bt c (putd d o x j) k) = bt c (putd d o x (j + 1)) := by
  funext k
  unfold bt
  by_cases h : k = 64 + (o + j)
  · subst h
    rw [if_pos rfl, if_pos ⟨by omega, by omega⟩, ← putd_succ, show 64 + (o + j) - 64 = o + j by omega]
    show z = if o + j = o + j then _ else _
    rw [if_pos rfl, hz]
  · rw [if_neg h]
    by_cases q : 64 ≤ k ∧ k < 80
    · rw [if_pos q, if_pos q, ← putd_succ]
      show _ = if k - 64 = o + j then _ else _
      rw [if_neg (by omega)]
    · rw [if_neg q, if_neg q]
theorem fup_fup {α : Type} (f : Nat → α) (g : Nat) (x y : α) : fup (fup f g x) g y = fup f g y := by
  funext k
  unfold fup
  split <;> rfl
section
variable {w : World} {M n i : Nat} {B : Nat → Nat → Nat}
theorem calmR {d : Nat → Nat} (h : RQ M n B i d w) (d' : Nat → Nat) : CalmQ (RQ M n B i d') (fun k => k = M) w.heap.size :=
  ⟨fun w1 w2 q hb => MemA.keep q hb, fun w1 w2 dd q hd ho => MemA.keepB q (ho.keep M (MemA.lt q) (by have := MemA.lt h; omega)) ho.size, fun k e => by have := MemA.lt h; have e : k = M := e; omega⟩
/-- a word of the program -/
def WordB (c : Nat → Nat) (a x : Nat) : Prop := a % 4 = 0 ∧ a + 3 < 64 ∧ (∀ k, c k < 256) ∧ x = c a + c (a + 1) * 256 + c (a + 2) * 65536 + c (a + 3) * 16777216
theorem ldR1 {d : Nat → Nat} (hi : i < n) {a x : Nat} (wt : Int) (ha : a < 1024) (hx : bt (B i) d a = x) : LdIsR (RQ M n B i d) (fun k => k = M) M (i * 1024) wt a x := fun w1 hQ => (rload_is hQ hi ha wt).mono fun e w' ⟨h1, h2⟩ => by
  refine ⟨?_, MemA.keep hQ h2, Upd.below h2⟩
  rw [h1, fup_same, hx]
theorem rfetch {d : Nat → Nat} (hi : i < n) {a x0 x1 x2 x3 : Nat} (wt : Int) (h4 : a % 4 = 0) (ha : a + 3 < 1024) (e0 : bt (B i) d a = x0) (e1 : bt (B i) d (a + 1) = x1) (e2 : bt (B i) d (a + 2) = x2) (e3 : bt (B i) d (a + 3) = x3) (q0 : x0 < 256) (q1 : x1 < 256) (q2 : x2 < 256) (q3 : x3 < 256) (hQ : RQ M n B i d w) :
    Calls Tryz.prog 22 #[.iface 50 (.agg #[.pointer (some ⟨M, i * 1024, none⟩)]), .int .u32 a, .int .i64 wt] w fun e w' => e = .returned (.tuple #[.int .u32 (x0 + x1 * 256 + x2 * 65536 + x3 * 16777216 : Nat), trap 0 0]) ∧ RQ M n B i d w' ∧ Upd (fun k => k = M) w w' := by
  have up1 : ∀ k, k < 4 → up a k = a + k := fun k hk => by unfold up; omega
  refine fetch_walkR (calmR hQ d) (Nat.le_refl _) hQ (by simp; omega)
    (fun w => by have := up_u32 a 0 w; rw [up_zero (by omega)] at this; exact this) (v_ok q0) (s_ok 0 x0 1 q0 (by decide) rfl (by omega)) (t0_ok q0) (ldR1 hi wt (by omega) e0)
    (fun w => by have := up_u32 a 1 w; rw [up1 1 (by decide)] at this; exact this) (v_ok q1) (s_ok 8 _ 256 q1 (by decide) rfl rfl) (t1_ok q0 q1) (ldR1 hi wt (by omega) e1)
    (fun w => by have := up_u32 a 2 w; rw [up1 2 (by decide)] at this; exact this) (v_ok q2) (s_ok 16 _ 65536 q2 (by decide) rfl rfl) (t2_ok q0 q1 q2) (ldR1 hi wt (by omega) e2)
    (fun w => by have := up_u32 a 3 w; rw [up1 3 (by decide)] at this; exact this) (v_ok q3) (s_ok 24 _ 16777216 q3 (by decide) rfl rfl) (t3_ok q0 q1 q2 q3) (ldR1 hi wt (by omega) e3)
/-- ringtop's bus -/
theorem rbus_is (hi : i < n) : Bus (RQ M n B i) (fun k => k = M) (.iface 50 (.agg #[.pointer (some ⟨M, i * 1024, none⟩)])) (WordB (B i)) where
  calm d d' w h := calmR h d'
  fetch d a x hx := fun w1 hQ => by
    obtain ⟨h4, h64, hc, rfl⟩ := hx
    have hb : ∀ k, k < 64 → bt (B i) d k = B i k := fun k hk => if_neg (by omega)
    exact rfetch hi 4 h4 (by omega) (hb _ (by omega)) (hb _ (by omega)) (hb _ (by omega)) (hb _ (by omega)) (hc _) (hc _) (hc _) (hc _) hQ
  xlt a x hx := by
    obtain ⟨h4, h64, hc, rfl⟩ := hx
    have := hc a; have := hc (a + 1); have := hc (a + 2); have := hc (a + 3)
    omega
  load d o o13 o4 hd w1 hQ := by
    have hb : ∀ k, k < 16 → bt (B i) d (64 + k) = d k := fun k hk => by unfold bt; rw [if_pos ⟨by omega, by omega⟩, show 64 + k - 64 = k by omega]
    exact rfetch hi 1 (by omega) (by omega) (hb o (by omega)) (hb (o + 1) (by omega)) (hb (o + 2) (by omega)) (hb (o + 3) (by omega)) (hd _) (hd _) (hd _) (hd _) hQ
  store d o x o13 o4 hx w1 hQ := by
    have hK := calmR hQ
    have add : ∀ (j : Nat), j < 4 → ∀ w, (add33 (.int .u32 (64 + o : Nat)) (.int .u32 j)).run Tryz.prog w = .ok (.int .u32 (64 + (o + j) : Nat)) w := fun j hj w => add_u32 (by omega) w
    have step : ∀ (j a z : Nat), a = 64 + (o + j) → j < 4 → z = x / 2 ^ (8 * j) % 256 → ∀ w2, (Slot w1.heap.size 0 0 w2 ∧ RQ M n B i (putd d o x j) w2 ∧ Upd (fun k => k = M) w1 w2) → Calls Tryz.prog 454 #[.agg #[.pointer (some ⟨M, i * 1024, none⟩)], .int .u32 a, .int .u8 z] w2 fun e w' => e = .returned (.int .i64 0) ∧ (Slot w1.heap.size 0 0 w' ∧ RQ M n B i (putd d o x (j + 1)) w' ∧ Upd (fun k => k = M) w1 w') := fun j a z ha hj hz w2 h => (rstore_is h.2.1 hi (by omega)).mono fun e w' q => by
      have hlt := MemA.lt hQ
      refine ⟨q.1, h.1.keepU q.2.2 (fun e => by have e : w1.heap.size = M := e; omega), ?_, h.2.2.trans q.2.2⟩
      have h3 := q.2.1
      rw [fup_same, fup_fup, ha, bt_put (by omega) hz] at h3
      exact h3
    refine (put_walkR (P := fun j w2 => Slot w1.heap.size 0 0 w2 ∧ RQ M n B i (putd d o x j) w2 ∧ Upd (fun k => k = M) w1 w2) (by simp; omega) ⟨slot_new w1, by rw [putd_zero]; exact (hK d).keep _ _ hQ (Go.Joins.below_alloc1 _ _), Upd.alloc _ _⟩ (fun j w2 h => h.1)
      (add 0 (by decide)) (sh_ok 0 1 (x / 2 ^ (8 * 0)) (by decide) rfl rfl) (n_ok rfl) (step 0 _ _ rfl (by decide) rfl)
      (add 1 (by decide)) (sh_ok 8 256 (x / 2 ^ (8 * 1)) (by decide) rfl rfl) (n_ok rfl) (step 1 _ _ rfl (by decide) rfl)
      (add 2 (by decide)) (sh_ok 16 65536 (x / 2 ^ (8 * 2)) (by decide) rfl rfl) (n_ok rfl) (step 2 _ _ rfl (by decide) rfl)
      (add 3 (by decide)) (sh_ok 24 16777216 (x / 2 ^ (8 * 3)) (by decide) rfl rfl) (n_ok rfl) (step 3 _ _ rfl (by decide) rfl)).mono ?_
    rintro e w' ⟨rfl, w2, ⟨hs, hq, hu⟩, rfl⟩
    have ho : Off w1.heap.size w2 ((w2.setCell ⟨w1.heap.size, 0, none⟩ (.int .i64 0)).setCell ⟨w1.heap.size, 1, none⟩ (.int .u32 0)) := (Off.set _ _).trans (.set _ _)
    exact ⟨rfl, (hK _).own _ _ _ hq (Nat.le_refl _) ho, Off.upd hu ho (Nat.le_refl _)⟩
end
end Go.Proofs.YtepadaleokijfaaGreatDoor.CpuLaw
namespace Go.Proofs.YtepadaleokijfaaGreatDoor
open Go.RowKit
set_option linter.unusedVariables false
set_option linter.unusedSimpArgs false
theorem infoTM : (Tryz.prog.info? 259).map (fun i => (i.zero, i.size, i.bytes)) = some (some (.agg #[.int .u32 0, .int .i64 0]), 2, 16) := by kernel_rfl
def apTM := Builtin.append_ #[215, 215] 215
theorem apTM_eq : Builtin.append_ #[215, 215] 215 = apTM := rfl
attribute [local go_sem ↓] apTM_eq
set_option maxRecDepth 100000 in
set_option maxHeartbeats 400000 in
theorem insert0_is {w : World} {g : Nat} {a p : Int} (h : Row w g 259 #[.int .u32 a, .int .i64 p]) : Calls Tryz.prog 325 #[.slice none 0 0, .int .i64 0, .slice (some ⟨g, 0, none⟩) 1 1] w fun e w' => ∃ q c, e = .returned (.slice q 1 c) ∧ w'.ownsRow w.heap.size 259 2 (.slice q 1 c) 1 (tmC [(a, p)]) ∧ Below w.heap.size w w' := by
  obtain ⟨i0, i1, hz0, hz1, hz2⟩ := info_parts infoTM
  have hsrc : ∀ j u, ([.int .u32 a, .int .i64 p] : List Value)[j]? = some u → w.cell? ((⟨g, 0, none⟩ : Addr).add j) = some u := fun j u hj => by
    rw [Addr.add_lit, Nat.zero_add, h.cell]
    simpa using hj
  obtain ⟨v', w', hr, ho, hg, -⟩ := run_append_fresh (P := Tryz.prog) w w.heap.size 215 215 259 i0 (.agg #[.int .u32 0, .int .i64 0]) 2 16 Tryz.underlying215 i1 hz0 hz1 hz2 rfl (by decide) (.slice none 0 0) 0 [] (World.ownsRow_nil _ _ _ _) ⟨g, 0, none⟩ 1 1 [.int .u32 a, .int .i64 p] rfl hsrc (by simp [Value.oneCell']) (by decide) (by decide) (Nat.le_refl _)
  obtain ⟨q, c, rfl⟩ := own_form ho
  have hap : (apTM #[.slice none 0 0, .slice (some ⟨g, 0, none⟩) 1 1]).run Tryz.prog w = .ok (.slice q 1 c) w' := hr
  have HO := Lib.hid ho
  have HB := Lib.hid ((Below.refl w.heap.size w).grown hg (Nat.le_refl _) (fun k e => by cases e))
  clear h hsrc hr ho hg hz0 hz1 hz2 i1
  go_enter Tryz.func325, Tryz.ntmps325
  go_wp2_with fail
  go_ret
  exact ⟨q, c, rfl, HO.out, HB.out⟩
set_option maxRecDepth 100000 in
set_option maxHeartbeats 1000000 in
theorem wadd0_is {w : World} {Wh : Nat} {a b p : Int} (h : WhlG w Wh a (.slice none 0 0) []) (a0 : 0 ≤ a) (ab : a ≤ b) (b1 : b < 1000000000) : Calls Tryz.prog 258 #[.pointer (some ⟨Wh, 0, none⟩), .int .u32 b, .int .i64 p] w fun e w' => e = .returned (.int .i64 0) ∧ ∃ v, WhlG w' Wh a v [(b, p)] ∧ Upd (fun j => j = Wh) w w' ∧ ∀ j, v.ownBlock = some j → w.heap.size ≤ j := by
  have HW := Lib.hid h.row
  have HFI := Lib.hid (wfind0_is h.row p)
  have i0 : ¬ b - a < 0 := by omega
  have HAB := Lib.hid (And.intro a0 (And.intro ab b1))
  clear h a0 ab b1
  go_enter Tryz.func258, Tryz.ntmps258
  go_upto_region 3 with (go_at_call 191; refine HFI.out.mono ?_; rintro e1 w1 ⟨rfl, hb1⟩; have HR1 := Lib.hid (HW.out.keep hb1); have HB1 := Lib.hid hb1; clear hb1)
  have c0 := HR1.out.cell 0
  have c1 := HR1.out.cell 1
  have fz := HR1.out.fz
  have HF := Lib.hid (far_is HAB.out.1 (by have := HAB.out; omega) (by have := HAB.out; omega : 0 ≤ b) HAB.out.2.2 w1)
  go_upto_region 6 with (go_at_call 107; refine HF.out.mono ?_; rintro e2 w2 ⟨rfl, rfl⟩)
  clear HF
  refine wp_loop_rounds 1 ?_
  rw [rounds_succ]
  have HA := Lib.hid (Go.Joins.below_alloc1 w1 (.cells #[.int .u32 b, .int .i64 p] 259))
  have HI := Lib.hid (insert0_is (row_new w1 259 #[.int .u32 b, .int .i64 p]))
  go_wp2_with (go_at_call 325; refine HI.out.mono ?_; rintro e3 w3 ⟨q3, c3, rfl, ho3, hb3⟩; have HR3 := Lib.hid ((HR1.out.keep HA.out).keep hb3); have HB3 := Lib.hid (HB1.out.trans ((HA.out.trans (hb3.mono HA.out.size)).mono HB1.out.size)); have HO3 := Lib.hid (owns_base ho3 (Nat.le_trans HB1.out.size HA.out.size)); have f1 := HR3.out.fz 1; have d1 := HR3.out.cell 1; clear ho3 hb3)
  go_ret
  obtain ⟨v, hv⟩ : ∃ v : Value, v = .slice q3 1 c3 := ⟨_, rfl⟩
  rw [← hv] at HO3 ⊢
  have hne : v.ownBlock ≠ some Wh := fun e => by
    have h1 := (HO3.out.lt Wh e).1
    have h2 := HW.out.lt
    omega
  have hs := HR3.out.setCell 1 v
  refine ⟨rfl, v, ⟨?_, ?_, hne⟩, (Upd.below HB3.out).trans (Upd.set _ _ rfl), fun j hj => (HO3.out.lt j hj).1⟩
  · rw [hs]
    exact HR3.out.setRow _
  · exact owns_base ((Upd.set (S := fun j => j = Wh) w3 v rfl).owns HO3.out (fun g hg e => hne (by rw [hg, e]))) (Nat.zero_le _)
end Go.Proofs.YtepadaleokijfaaGreatDoor
namespace Go.Proofs.YtepadaleokijfaaGreatDoor
open Go.RowKit
set_option linter.unusedVariables false
set_option linter.unusedSimpArgs false
attribute [local go_sem ↓] apTM_eq
theorem tmC_len (l : List (Int × Int)) : (tmC l).length = l.length * 2 := by
  induction l with
  | nil => rfl
  | cons a t ih => simp only [tmC, List.flatMap_cons, List.length_append, List.length_cons, List.length_nil] at ih ⊢; omega
theorem tmC_one (l : List (Int × Int)) : ∀ u ∈ tmC l, u.oneCell' = true := by
  intro u hu
  obtain ⟨x, -, hx⟩ := List.mem_flatMap.1 hu
  simp only [List.mem_cons, List.not_mem_nil, or_false] at hx
  rcases hx with rfl | rfl <;> rfl
def bsTM (ps : Array (Nat × Value)) : Sem Value := Instr.buildSlice 215 0 ps
theorem bs_tm (ps : Array (Nat × Value)) : Instr.buildSlice 215 0 ps = bsTM ps := rfl
theorem bsTM_run (w : World) : (bsTM #[]).run Tryz.prog w = .ok (.slice (some ⟨w.heap.size, 0, none⟩) 0 0) (w.alloc (.cells #[] 259)) := by kernel_rfl
attribute [local go_sem ↓] bs_tm
set_option maxRecDepth 100000 in
set_option maxHeartbeats 400000 in
theorem cloneT_is {w : World} {a : Addr} {c : Nat} {l : List (Int × Int)} (hl : l.length ≤ 1000) (hs : ∀ j u, (tmC l)[j]? = some u → w.cell? (a.add j) = some u) : Calls Tryz.prog 108 #[.slice (some a) l.length c] w fun e w' => ∃ q c', e = .returned (.slice q l.length c') ∧ w'.ownsRow w.heap.size 259 2 (.slice q l.length c') l.length (tmC l) ∧ Below w.heap.size w w' := by
  have he : (binOp .eql 215 (.slice (some a) l.length c) (.slice none 0 0)).run Tryz.prog w = .ok (.bool false) w := by kernel_rfl
  have hal := Go.Joins.below_alloc1 w (.cells #[] 259)
  have hbs := bsTM_run w
  obtain ⟨i0, i1, hz0, hz1, hz2⟩ := info_parts infoTM
  have hlt : ∀ j u, (tmC l)[j]? = some u → (w.alloc (.cells #[] 259)).cell? (a.add j) = some u := fun j u hj => by
    have h1 := hs j u hj
    exact (hal.cell (World.block_lt_of_cell? w _ h1)).trans h1
  have hown : (w.alloc (.cells #[] 259)).ownsRow w.heap.size 259 2 (.slice (some ⟨w.heap.size, 0, none⟩) 0 0) 0 [] := ⟨rfl, .inr ⟨w.heap.size, 0, #[], rfl, Nat.le_refl _, heap_alloc_new w _, Nat.le_refl _, by decide, rfl, rfl⟩⟩
  obtain ⟨v', w', hr, ho, hg, -⟩ := run_append_fresh (P := Tryz.prog) (w.alloc (.cells #[] 259)) w.heap.size 215 215 259 i0 (.agg #[.int .u32 0, .int .i64 0]) 2 16 Tryz.underlying215 i1 hz0 hz1 hz2 rfl (by decide) (.slice (some ⟨w.heap.size, 0, none⟩) 0 0) 0 [] hown a l.length c (tmC l) (tmC_len l) hlt (tmC_one l) (by unfold maxLen; omega) (by omega) hal.size
  rw [Nat.zero_add, List.nil_append] at ho
  obtain ⟨q, c', rfl⟩ := own_form ho
  have hap : (apTM #[.slice (some ⟨w.heap.size, 0, none⟩) 0 0, .slice (some a) l.length c]).run Tryz.prog (w.alloc (.cells #[] 259)) = .ok (.slice q l.length c') w' := hr
  have HO := Lib.hid ho
  have HB := Lib.hid (hal.trans ((Below.refl w.heap.size _).grown hg hal.size (fun k e => by
    have e : some w.heap.size = some k := e
    injection e with e
    omega)))
  clear hs hlt hown hr ho hg hz0 hz1 hz2 i1 hal hl
  go_enter Tryz.func108, Tryz.ntmps108
  go_wp2_with fail
  go_ret
  exact ⟨q, c', rfl, HO.out, HB.out⟩
end Go.Proofs.YtepadaleokijfaaGreatDoor
