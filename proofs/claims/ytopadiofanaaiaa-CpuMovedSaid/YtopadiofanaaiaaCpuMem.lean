/- The walk of cpu.memory. -/
import Derived.Test.YtopadiofanaaiaaCpuJump
namespace Go.Proofs.Ytopadiofanaaiaa.CpuLaw
open Go.RowKit
set_option linter.unusedVariables false
set_option linter.unusedSimpArgs false
attribute [local go_sem ↓] sub33_eq add33_eq or33_eq shl33_eq shr33_eq mul33_eq quo33_eq and33_eq xor33_eq narrow_eq wideB_eq conv33_eq conv83_eq conv8333_eq load61_eq store61_eq zero61 cells61
/-- all blocks but d and c that were there are as they were -/
structure Off2 (d c : Nat) (w w' : World) : Prop where
  size : w.heap.size ≤ w'.heap.size
  keep : ∀ k, k < w.heap.size → k ≠ d → k ≠ c → w'.heap[k]? = w.heap[k]?
  low : ∀ B, B ≤ d → B ≤ c → B ≤ w.heap.size → Below B w w'
section
variable {w w1 w2 : World} {n rb b c d : Nat} {g : G} {m : M} {op : Int} {A B : Nat} {C : Int} {t : Int} {a : Nat}
theorem Off2.refl : Off2 d c w w := ⟨Nat.le_refl _, fun _ _ _ _ => rfl, fun B _ _ _ => Below.refl B w⟩
theorem Off2.trans (h : Off2 d c w w1) (k : Off2 d c w1 w2) : Off2 d c w w2 :=
  ⟨Nat.le_trans h.size k.size, fun i hi hd hc => (k.keep i (Nat.lt_of_lt_of_le hi h.size) hd hc).trans (h.keep i hi hd hc), fun B hB hC hs => (h.low B hB hC hs).trans (k.low B hB hC (Nat.le_trans hs h.size))⟩
theorem Off2.ofL (h : Off d w w1) : Off2 d c w w1 := ⟨h.size, fun k hk hd _ => h.keep k hk hd, fun B hB _ hs => h.low B hB hs⟩
theorem Off2.ofR (h : Off c w w1) : Off2 d c w w1 := ⟨h.size, fun k hk _ hc => h.keep k hk hc, fun B _ hC hs => h.low B hC hs⟩
theorem Off2.of (h : Below w.heap.size w w1) : Off2 d c w w1 := .ofL (.of h)
theorem Off2.own {i : Nat} {v : Value} (h : Off2 d c w w1) (hn : w.heap.size ≤ n) : Off2 d c w (w1.setCell ⟨n, i, none⟩ v) :=
  ⟨by simpa [World.setCell] using h.size, fun k hk hd hc => (Below.heap_setCell _ _ _ _ (by show k ≠ n; omega)).trans (h.keep k hk hd hc), fun B hB hC hs => (h.low B hB hC hs).setCell (Nat.le_trans hs hn) _⟩
theorem Off2.row (h : Off2 d c w w1) (hn : w.heap.size ≤ n) (C : Array Value) : Off2 d c w (w1.setRow n C) :=
  ⟨by simpa [World.setRow] using h.size, fun k hk hd hc => by simp only [World.setRow, Array.getElem?_modify]; rw [if_neg (by omega)]; exact h.keep k hk hd hc, fun B hB hC hs => below_setRow (h.low B hB hC hs) (Nat.le_trans hs hn) _⟩
/-- the blocks of a call of memory: the caller's registers, the room, and two of its own -/
structure Mem (w w1 : World) (n rb b c : Nat) (g : G) (m : M) (op : Int) (A B : Nat) (C : Int) (t : Int) (a : Nat) : Prop where
  hn : w.heap.size = n
  l0 : rb < n
  l1 : b < n
  l2 : c < n
  n0 : rb ≠ b
  n1 : rb ≠ c
  n2 : b ≠ c
  off : Off2 rb c w w1
  R : Row w1 rb g
  Q : Room w1 b c m
  I : InsAt w1 n op A B C
  T : Slot (n + 1) t a w1
theorem Room.keepO (h : Room w b c m) (ho : Off d w w1) (hb : b ≠ d) (hc : c ≠ d) : Room w1 b c m := by
  obtain ⟨pt, cap, h1, hp⟩ := h.c1
  exact ⟨Nat.lt_of_lt_of_le h.bl ho.size, Nat.lt_of_lt_of_le h.cl ho.size, h.ne, fun i hi => (ho.frozen (p := ⟨c, i, none⟩) h.cl hc).trans (h.fz i hi), h.al, h.nl, h.fl, (ho.cell (p := ⟨b, _, none⟩) h.bl hb).trans h.c0, ⟨pt, cap, (ho.cell (p := ⟨b, _, none⟩) h.bl hb).trans h1, hp⟩, (ho.cell (p := ⟨b, _, none⟩) h.bl hb).trans h.c2, fun i hi => (ho.cell (p := ⟨c, _, none⟩) h.cl hc).trans (h.d i hi)⟩
theorem Mem.keep (h : Mem w w1 n rb b c g m op A B C t a) (hb : Below w1.heap.size w1 w2) : Mem w w2 n rb b c g m op A B C t a :=
  ⟨h.hn, h.l0, h.l1, h.l2, h.n0, h.n1, h.n2, h.off.trans (.of hb), h.R.keep hb, h.Q.keep hb, h.I.keep hb, h.T.keep (.of hb) (Nat.ne_of_lt h.T.lt)⟩
theorem Mem.drew (h : Mem w w1 n rb b c g m op A B C t a) : Mem w w1.drew n rb b c g m op A B C t a := h.keep (Below.refl _ _).drew
/-- the room alone was written -/
theorem Mem.put {m' : M} (h : Mem w w1 n rb b c g m op A B C t a) (ho : Off c w1 w2) (hq : Room w2 b c m') : Mem w w2 n rb b c g m' op A B C t a := by
  have := h.l2
  exact ⟨h.hn, h.l0, h.l1, h.l2, h.n0, h.n1, h.n2, h.off.trans (.ofR ho), h.R.keepO ho h.n1, hq, h.I.keepO ho (by omega), h.T.keep ho (by omega)⟩
theorem Mem.setReg (h : Mem w w1 n rb b c g m op A B C t a) {k : Nat} (hk : k < 8) (x : Nat) : Mem w (w1.setCell ⟨rb, k, none⟩ (.int .u32 x)) n rb b c (setR g k x) m op A B C t a := by
  have := h.l0
  exact ⟨h.hn, h.l0, h.l1, h.l2, h.n0, h.n1, h.n2, h.off.trans (.ofL (.set _ _)), h.R.setReg hk x, h.Q.other h.n0 h.n1, h.I.setO (by omega) _, h.T.setO (by omega) _⟩
theorem Mem.out (h : Mem w w1 n rb b c g m op A B C t a) (t2 : Int) (a2 : Nat) : Mem w ((w1.setCell ⟨n + 1, 0, none⟩ (.int .i64 t2)).setCell ⟨n + 1, 1, none⟩ (.int .u32 a2)) n rb b c g m op A B C t2 a2 := by
  have := h.l0; have := h.l1; have := h.l2; have := h.hn
  exact ⟨h.hn, h.l0, h.l1, h.l2, h.n0, h.n1, h.n2, (h.off.own (by omega)).own (by omega), (h.R.setO (by omega) _).setO (by omega) _, (h.Q.other (by omega) (by omega)).other (by omega) (by omega), (h.I.setO (by omega) _).setO (by omega) _, h.T.set2 _ _⟩
theorem mem_new (hR : Row w rb g) (hQ : Room w b c m) (h0 : rb ≠ b) (h1 : rb ≠ c) (op : Int) (A B : Nat) (C : Int) : Mem w ((w.alloc (.cells #[.int .i64 op, .int .i64 A, .int .i64 B, .int .i64 C] 51)).alloc (.cells #[.int .i64 0, .int .u32 0] 63)) w.heap.size rb b c g m op A B C 0 0 := by
  have i0 := ins_new w op A B C
  have s0 := slot_new (w.alloc (.cells #[.int .i64 op, .int .i64 A, .int .i64 B, .int .i64 C] 51))
  have al : ∀ (w : World) (o : Obj), Below w.heap.size w (w.alloc o) := fun w o => (Below.refl _ _).alloc (Nat.le_refl _) o
  simp only [World.size_alloc] at s0
  exact ⟨rfl, hR.lt, hQ.bl, hQ.cl, h0, h1, hQ.ne, .of (Go.Joins.below_alloc2 _ _ _), (hR.alloc _).alloc _, (hQ.keep (al _ _)).keep (al _ _), i0.keep (al _ _), s0⟩
theorem slot_of (w : World) (t : Int) (a : Nat) : Slot w.heap.size t a (w.alloc (.cells #[.int .i64 t, .int .u32 a] 63)) := by
  refine ⟨by simp, ?_, ?_, fun i => ?_⟩ <;> simp [go_sem]
theorem nil_store (b : Nat) (w : World) : (nilAhead 216 66 (.pointer (some ⟨b, 0, none⟩)) "Store").run Try.prog w = .ok (some false) w := by kernel_rfl
theorem Mem.other {i d2 : Nat} {v : Value} (h : Mem w w1 n rb b c g m op A B C t a) (hd : n + 1 < d2) : Mem w (w1.setCell ⟨d2, i, none⟩ v) n rb b c g m op A B C t a := by
  have := h.l0; have := h.l1; have := h.l2; have := h.hn
  exact ⟨h.hn, h.l0, h.l1, h.l2, h.n0, h.n1, h.n2, h.off.own (by omega), h.R.setO (by omega) _, h.Q.other (by omega) (by omega), h.I.setO (by omega) _, h.T.setO (by omega) _⟩
theorem results_cellA {fn : Func} {p : Tmp} {ty : TypeId} (h : fn.results = #[.cell p ty]) (tmps : Array Value) (P : Program) (w : World) :
    (results fn tmps).run P w = ((asAddr (tmps.getD p undef)).run P w).andThen fun a w1 => (loadVar ty a).run P w1 := by
  unfold results
  rw [h]
  simp
theorem results_cell1 {fn : Func} {q : Tmp} (h : fn.results = #[.cell q 63]) {tmps : Array Value} {w : World} {d : Nat} {t : Int} {a : Nat} (hq : tmps.getD q undef = .pointer (some ⟨d, 0, none⟩)) (T : Slot d t a w) :
    (results fn tmps).run Try.prog w = .ok (trap t a) w := by
  rw [results_cellA h, hq]
  simp only [asAddr_ptr, Result.andThen_ok, load63 T]
end
set_option maxRecDepth 100000 in
set_option maxHeartbeats 1000000 in
theorem mem_load {w : World} {g : G} {m m' : M} {rb b c A B k tt x : Nat} {C t : Int} (hR : Row w rb g) (hQ : Room w b c m) (q0 : rb ≠ b) (q1 : rb ≠ c) (hA : A < 8) (hB : B < 8) (hc : ∀ w, (conv33 (.int .i64 C)).run Try.prog w = .ok (.int .u32 k) w) (ht : ∀ w, (add33 (.int .u32 (g.r B)) (.int .u32 k)).run Try.prog w = .ok (.int .u32 tt) w) (HX : ∀ w1, Room w1 b c m → Calls Try.prog 38 #[bus b, .int .u32 tt, .int .i64 1] w1 fun e w' => e = .returned (.tuple #[.int .u32 x, trap 0 0]) ∧ Below w1.heap.size w1 w')
    : Calls Try.prog 40 #[.pointer (some ⟨rb, 0, none⟩), .agg #[.int .i64 15, .int .i64 A, .int .i64 B, .int .i64 C], bus b] w fun e w' => e = .returned (trap 0 0) ∧ Off2 rb c w w' ∧ Row w' rb (setR g A x) ∧ Room w' b c (m) := by
  have hA0 : 0 ≤ (A : Int) := by omega
  have hA8 : (A : Int) < 8 := by omega
  have hB0 : 0 ≤ (B : Int) := by omega
  have hB8 : (B : Int) < 8 := by omega
  go_enter Try.func40, Try.ntmps40
  go_upto_region 1 with fail
  have HF0 := mem_new hR hQ q0 q1 15 A B C
  revert HF0
  generalize (w.alloc (.cells #[.int .i64 15, .int .i64 A, .int .i64 B, .int .i64 C] 51)).alloc (.cells #[.int .i64 0, .int .u32 0] 63) = W
  intro HF0
  have HF := Lib.hid HF0
  clear HF0
  have hn := nil_store b
  have hm := meth_load b
  have hm2 := meth_store b
  have GX := Lib.hid HX
  clear HX hR hQ
  have ca := HF.out.R.cr hA
  have cb := HF.out.R.cr hB
  have i0 := HF.out.I.c0
  have i1 := HF.out.I.c1
  have i2 := HF.out.I.c2
  have i3 := HF.out.I.c3
  have f0 := HF.out.R.fz
  have t0 := HF.out.T.c0
  have t1 := HF.out.T.c1
  have f1 := HF.out.T.fz
  go_wp2
  go_region
  go_wp2_with fail
  refine (GX.out _ HF.out.drew.Q).mono ?_
  rintro e w2 ⟨rfl, hb2⟩
  have HF2 := Lib.hid (HF.out.drew.keep hb2)
  clear hb2
  go_upto_region 5 with fail
  have HF3 := HF2.out.keep (w2 := w2.alloc (.cells #[.int .i64 0, .int .u32 0] 63)) ((Below.refl _ _).alloc (Nat.le_refl _) _)
  have hS := slot_of w2 0 0
  have hnn := HF2.out.T.lt
  revert HF3 hS
  generalize w2.alloc (.cells #[.int .i64 0, .int .u32 0] 63) = W3
  generalize w2.heap.size = n2 at *
  intro HF3' hS
  have HF3 := Lib.hid HF3'
  have u0 := hS.c0
  have u1 := hS.c1
  have HS := Lib.hid hS
  clear HF3' hS
  have ca3 := HF3.out.R.cr hA
  have cb3 := HF3.out.R.cr hB
  have i03 := HF3.out.I.c0
  have i13 := HF3.out.I.c1
  have i23 := HF3.out.I.c2
  have i33 := HF3.out.I.c3
  have f03 := HF3.out.R.fz
  have t03 := HF3.out.T.c0
  have t13 := HF3.out.T.c1
  have f13 := HF3.out.T.fz
  have HG := Lib.hid (HF3.out.setReg hA x)
  have hno : rb ≠ n2 := by have := HF3.out.l0; omega
  have hS4 := HS.out.setO hno (v := .int .u32 x) (i := A)
  have v0 := hS4.c0
  have v1 := hS4.c1
  clear hS4 hno hnn
  have ca4 := HG.out.R.cr hA
  have cb4 := HG.out.R.cr hB
  have i04 := HG.out.I.c0
  have i14 := HG.out.I.c1
  have i24 := HG.out.I.c2
  have i34 := HG.out.I.c3
  have f04 := HG.out.R.fz
  have t04 := HG.out.T.c0
  have t14 := HG.out.T.c1
  have f14 := HG.out.T.fz
  have HO := Lib.hid (HG.out.out 0 0).drew
  go_wp2
  go_region
  go_wp2
  exact bodyPost_ret (results_cell1 rfl rfl HO.out.T) rfl ⟨rfl, HO.out.off, HO.out.R, HO.out.Q⟩
set_option maxRecDepth 100000 in
set_option maxHeartbeats 1000000 in
theorem mem_load_bad {w : World} {g : G} {m m' : M} {rb b c A B k tt x a : Nat} {C t : Int} (hR : Row w rb g) (hQ : Room w b c m) (q0 : rb ≠ b) (q1 : rb ≠ c) (hA : A < 8) (hB : B < 8) (hc : ∀ w, (conv33 (.int .i64 C)).run Try.prog w = .ok (.int .u32 k) w) (ht : ∀ w, (add33 (.int .u32 (g.r B)) (.int .u32 k)).run Try.prog w = .ok (.int .u32 tt) w) (HX : ∀ w1, Room w1 b c m → Calls Try.prog 38 #[bus b, .int .u32 tt, .int .i64 1] w1 fun e w' => e = .returned (.tuple #[.int .u32 x, trap t a]) ∧ Below w1.heap.size w1 w') (hb : (t == 0) = false)
    : Calls Try.prog 40 #[.pointer (some ⟨rb, 0, none⟩), .agg #[.int .i64 15, .int .i64 A, .int .i64 B, .int .i64 C], bus b] w fun e w' => e = .returned (trap t a) ∧ Off2 rb c w w' ∧ Row w' rb (g) ∧ Room w' b c (m) := by
  have hA0 : 0 ≤ (A : Int) := by omega
  have hA8 : (A : Int) < 8 := by omega
  have hB0 : 0 ≤ (B : Int) := by omega
  have hB8 : (B : Int) < 8 := by omega
  go_enter Try.func40, Try.ntmps40
  go_upto_region 1 with fail
  have HF0 := mem_new hR hQ q0 q1 15 A B C
  revert HF0
  generalize (w.alloc (.cells #[.int .i64 15, .int .i64 A, .int .i64 B, .int .i64 C] 51)).alloc (.cells #[.int .i64 0, .int .u32 0] 63) = W
  intro HF0
  have HF := Lib.hid HF0
  clear HF0
  have hn := nil_store b
  have hm := meth_load b
  have hm2 := meth_store b
  have GX := Lib.hid HX
  clear HX hR hQ
  have ca := HF.out.R.cr hA
  have cb := HF.out.R.cr hB
  have i0 := HF.out.I.c0
  have i1 := HF.out.I.c1
  have i2 := HF.out.I.c2
  have i3 := HF.out.I.c3
  have f0 := HF.out.R.fz
  have t0 := HF.out.T.c0
  have t1 := HF.out.T.c1
  have f1 := HF.out.T.fz
  go_wp2
  go_region
  go_wp2_with fail
  refine (GX.out _ HF.out.drew.Q).mono ?_
  rintro e w2 ⟨rfl, hb2⟩
  have HF2 := Lib.hid (HF.out.drew.keep hb2)
  clear hb2
  go_upto_region 5 with fail
  have HF3 := HF2.out.keep (w2 := w2.alloc (.cells #[.int .i64 t, .int .u32 a] 63)) ((Below.refl _ _).alloc (Nat.le_refl _) _)
  have hS := slot_of w2 t a
  have hnn := HF2.out.T.lt
  revert HF3 hS
  generalize w2.alloc (.cells #[.int .i64 t, .int .u32 a] 63) = W3
  generalize w2.heap.size = n2 at *
  intro HF3' hS
  have HF3 := Lib.hid HF3'
  have u0 := hS.c0
  have u1 := hS.c1
  have HS := Lib.hid hS
  clear HF3' hS
  have ca3 := HF3.out.R.cr hA
  have cb3 := HF3.out.R.cr hB
  have i03 := HF3.out.I.c0
  have i13 := HF3.out.I.c1
  have i23 := HF3.out.I.c2
  have i33 := HF3.out.I.c3
  have f03 := HF3.out.R.fz
  have t03 := HF3.out.T.c0
  have t13 := HF3.out.T.c1
  have f13 := HF3.out.T.fz
  have HO := Lib.hid (HF3.out.out t a)
  clear hnn
  go_wp2_with fail
  exact bodyPost_ret (results_cell1 rfl rfl HO.out.T) rfl ⟨rfl, HO.out.off, HO.out.R, HO.out.Q⟩
set_option maxRecDepth 100000 in
set_option maxHeartbeats 1000000 in
theorem mem_loadb {w : World} {g : G} {m m' : M} {rb b c A B k tt x : Nat} {C t : Int} (hR : Row w rb g) (hQ : Room w b c m) (q0 : rb ≠ b) (q1 : rb ≠ c) (hA : A < 8) (hB : B < 8) (hc : ∀ w, (conv33 (.int .i64 C)).run Try.prog w = .ok (.int .u32 k) w) (ht : ∀ w, (add33 (.int .u32 (g.r B)) (.int .u32 k)).run Try.prog w = .ok (.int .u32 tt) w) (HX : ∀ w1, Room w1 b c m → Calls Try.prog 62 #[.pointer (some ⟨b, 0, none⟩), .int .u32 tt, .int .i64 1] w1 fun e w' => e = .returned (.tuple #[.int .u8 x, .int .i64 0]) ∧ w' = w1) (v : ∀ w, (wideB (.int .u8 x)).run Try.prog w = .ok (.int .u32 x) w)
    : Calls Try.prog 40 #[.pointer (some ⟨rb, 0, none⟩), .agg #[.int .i64 16, .int .i64 A, .int .i64 B, .int .i64 C], bus b] w fun e w' => e = .returned (trap 0 0) ∧ Off2 rb c w w' ∧ Row w' rb (setR g A x) ∧ Room w' b c (m) := by
  have hA0 : 0 ≤ (A : Int) := by omega
  have hA8 : (A : Int) < 8 := by omega
  have hB0 : 0 ≤ (B : Int) := by omega
  have hB8 : (B : Int) < 8 := by omega
  go_enter Try.func40, Try.ntmps40
  go_upto_region 1 with fail
  have HF0 := mem_new hR hQ q0 q1 16 A B C
  revert HF0
  generalize (w.alloc (.cells #[.int .i64 16, .int .i64 A, .int .i64 B, .int .i64 C] 51)).alloc (.cells #[.int .i64 0, .int .u32 0] 63) = W
  intro HF0
  have HF := Lib.hid HF0
  clear HF0
  have hn := nil_store b
  have hm := meth_load b
  have hm2 := meth_store b
  have GX := Lib.hid HX
  clear HX hR hQ
  have ca := HF.out.R.cr hA
  have cb := HF.out.R.cr hB
  have i0 := HF.out.I.c0
  have i1 := HF.out.I.c1
  have i2 := HF.out.I.c2
  have i3 := HF.out.I.c3
  have f0 := HF.out.R.fz
  have t0 := HF.out.T.c0
  have t1 := HF.out.T.c1
  have f1 := HF.out.T.fz
  go_wp2
  go_region
  go_wp2_with fail
  refine (GX.out _ HF.out.drew.Q).mono ?_
  rintro e w2 ⟨rfl, rfl⟩
  have HG := Lib.hid (HF.out.setReg hA x)
  have ca4 := HG.out.R.cr hA
  have cb4 := HG.out.R.cr hB
  have i04 := HG.out.I.c0
  have i14 := HG.out.I.c1
  have i24 := HG.out.I.c2
  have i34 := HG.out.I.c3
  have f04 := HG.out.R.fz
  have t04 := HG.out.T.c0
  have t14 := HG.out.T.c1
  have f14 := HG.out.T.fz
  have HO := Lib.hid (HG.out.out 0 0).drew.drew
  go_wp2_with fail
  go_region
  go_wp2_with fail
  exact bodyPost_ret (results_cell1 rfl rfl HO.out.T) rfl ⟨rfl, HO.out.off, HO.out.R, HO.out.Q⟩
set_option maxRecDepth 100000 in
set_option maxHeartbeats 1000000 in
theorem mem_loadb_bad {w : World} {g : G} {m m' : M} {rb b c A B k tt  : Nat} {C t : Int} (hR : Row w rb g) (hQ : Room w b c m) (q0 : rb ≠ b) (q1 : rb ≠ c) (hA : A < 8) (hB : B < 8) (hc : ∀ w, (conv33 (.int .i64 C)).run Try.prog w = .ok (.int .u32 k) w) (ht : ∀ w, (add33 (.int .u32 (g.r B)) (.int .u32 k)).run Try.prog w = .ok (.int .u32 tt) w) (HX : ∀ w1, Room w1 b c m → Calls Try.prog 62 #[.pointer (some ⟨b, 0, none⟩), .int .u32 tt, .int .i64 1] w1 fun e w' => e = .returned (.tuple #[.int .u8 0, .int .i64 11]) ∧ w' = w1)
    : Calls Try.prog 40 #[.pointer (some ⟨rb, 0, none⟩), .agg #[.int .i64 16, .int .i64 A, .int .i64 B, .int .i64 C], bus b] w fun e w' => e = .returned (trap 2 tt) ∧ Off2 rb c w w' ∧ Row w' rb (g) ∧ Room w' b c (m) := by
  have hA0 : 0 ≤ (A : Int) := by omega
  have hA8 : (A : Int) < 8 := by omega
  have hB0 : 0 ≤ (B : Int) := by omega
  have hB8 : (B : Int) < 8 := by omega
  go_enter Try.func40, Try.ntmps40
  go_upto_region 1 with fail
  have HF0 := mem_new hR hQ q0 q1 16 A B C
  revert HF0
  generalize (w.alloc (.cells #[.int .i64 16, .int .i64 A, .int .i64 B, .int .i64 C] 51)).alloc (.cells #[.int .i64 0, .int .u32 0] 63) = W
  intro HF0
  have HF := Lib.hid HF0
  clear HF0
  have hn := nil_store b
  have hm := meth_load b
  have hm2 := meth_store b
  have GX := Lib.hid HX
  clear HX hR hQ
  have ca := HF.out.R.cr hA
  have cb := HF.out.R.cr hB
  have i0 := HF.out.I.c0
  have i1 := HF.out.I.c1
  have i2 := HF.out.I.c2
  have i3 := HF.out.I.c3
  have f0 := HF.out.R.fz
  have t0 := HF.out.T.c0
  have t1 := HF.out.T.c1
  have f1 := HF.out.T.fz
  go_wp2
  go_region
  go_wp2_with fail
  refine (GX.out _ HF.out.drew.Q).mono ?_
  rintro e w2 ⟨rfl, rfl⟩
  have HO := Lib.hid (HF.out.out 2 tt).drew
  go_wp2_with fail
  exact bodyPost_ret (results_cell1 rfl rfl HO.out.T) rfl ⟨rfl, HO.out.off, HO.out.R, HO.out.Q⟩
end Go.Proofs.Ytopadiofanaaiaa.CpuLaw
