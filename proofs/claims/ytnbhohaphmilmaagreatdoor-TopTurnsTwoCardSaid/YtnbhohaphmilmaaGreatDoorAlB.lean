/- The walks of space.Write, Store and of the kernel's bus at one byte of a page that nobody else has. The walk of cpu.Step: what goes to memory and comes from it. The walk of cpu.put and of cpu.memory (a load, a store) over the kernel's bus. -/
import Derived.Test.YtnbhohaphmilmaaGreatDoorSpJ
import Derived.Test.YtnbhohaphmilmaaGreatDoorSpP
import Derived.Test.YtnbhohaphmilmaaGreatDoorKerSt
namespace Go.Proofs.YtnbhohaphmilmaaGreatDoor
open Go.RowKit Go.Maps
set_option linter.unusedVariables false
set_option linter.unusedSimpArgs false
section
variable {w w' wr : World} {M so g b : Nat} {fr sl : Int} {m : MS} {s ad pg o r x : Int}
set_option maxRecDepth 100000 in
set_option maxHeartbeats 400000 in
theorem shared1_is (h : MemG w M so fr sl m) (hs : m.S s = some b) (hwf : (Lit.int .i64 s).wf = true) (h0 : 0 ≤ pg) (h63 : pg < 64) (hF : m.F b pg = some (g, r)) (hg : g ∈ m.pl) (had : ad = 16 * pg + o) (o0 : 0 ≤ o) (o16 : o < 16) (hu : m.u g = 1) :
    Calls Tryz.prog 327 #[.pointer (some ⟨M, 0, none⟩), .int .i64 s, .int .i64 ad, .int .i64 1] w fun e w' => e = .returned (.int .i64 0) ∧ w = w' := by
  have m4 := h.m4
  have l1 := h.two hs hwf
  have l2 := h.ent hs hF h0 h63
  have fd := fieldE (.pointer (some ⟨g, 0, none⟩)) (.int .i64 r) w
  have us := (h.pg g hg).us
  rw [hu] at us
  have y1 : IntKind.i64.wrap (ad + 1) = ad + 1 := IntWalk.i64_in _ (by omega)
  have y2 : IntKind.i64.wrap (ad + 1 - 1) = ad + 1 - 1 := IntWalk.i64_in _ (by omega)
  have q0 : ad.tdiv 16 = pg := by rw [td16 (by omega)]; omega
  have q1 : (ad + 1 - 1).tdiv 16 = pg := by rw [td16 (by omega)]; omega
  have y3 : IntKind.i64.wrap pg = pg := IntWalk.i64_in _ (by omega)
  have y5 : IntKind.i64.wrap (pg + 1) = pg + 1 := IntWalk.i64_in _ (by omega)
  have i5 : ¬ pg + 1 ≤ pg := by omega
  have i6 : pg ≤ pg := by omega
  have i7 : pg < pg + 1 := by omega
  have i8 : (0 : Int) < 1 := by omega
  have e1 : ad + 1 - 1 = ad := by omega
  have a0 : 0 ≤ ad := by omega
  have a1 : ad < 1024 := by omega
  clear h hs hwf hF had hu
  go_enter Tryz.func327, Tryz.ntmps327
  go_wp2_with fail
  refine wp_loop_rounds 2 ?_
  rw [rounds_succ]
  go_wp2_with fail
  rw [rounds_succ]
  go_wp2_with fail
  go_ret
  exact ⟨rfl, rfl⟩
set_option maxRecDepth 100000 in
set_option maxHeartbeats 1000000 in
theorem lay1_is (h : MemG w M so fr sl m) (hs : m.S s = some b) (hwf : (Lit.int .i64 s).wf = true) (h0 : 0 ≤ pg) (h63 : pg < 64) (hF : m.F b pg = some (g, r)) (hg : g ∈ m.pl) (hh : m.h g = true ∨ (m.pl.countP m.h : Int) < fr) (hu1 : m.u g = 1) {k : Nat} (had : ad = 16 * pg + k) (k16 : k < 16) (hf : 0 ≤ fr ∧ fr ≤ 1000) (hsl : 0 ≤ sl ∧ sl ≤ 1000) (hpl : (m.pl.length : Int) ≤ fr + sl)
    {bb : Nat} (hb : bb < w.heap.size) (hbM : bb ≠ M) (hbg : bb ≠ g) (hc : w.cell? ⟨bb, 0, none⟩ = some (.int .u8 x)) :
    Calls Tryz.prog 264 #[.pointer (some ⟨M, 0, none⟩), .int .i64 s, .int .i64 ad, .slice (some ⟨bb, 0, none⟩) 1 1] w fun e w' => e = .returned (.int .i64 0) ∧ MemG w' M so fr sl (({ m with h := fup m.h g true } : MS).dat g (fun j => if j = k then x else m.d g j)) ∧ Upd (fun k => k = M ∨ k = g) w w' := by
  have HX := Lib.hid (And.intro hs (And.intro hwf (And.intro hF (And.intro hg (And.intro hh hu1)))))
  have HC := Lib.hid hc
  have HBB := Lib.hid (And.intro hb (And.intro hbM hbg))
  have a0 : 0 ≤ ad := by omega
  have a1 : ad ≤ 1023 := by omega
  have HAD := Lib.hid had
  have HGM : Hid (g < w.heap.size ∧ M < w.heap.size) := Lib.hid ⟨h.lt (.inr (.inr (.inr (.inr hg)))), h.mlt⟩
  have HSH := Lib.hid (shared1_is h hs hwf h0 h63 hF hg had (by omega) (by omega) hu1)
  have HRO := Lib.hid (roomG_is h 0 (by omega) hf hsl (by omega))
  rw [show decide ((0 : Int) ≤ fr + sl - m.pl.length) = true from decide_eq_true (by omega)] at HRO
  have HM := Lib.hid h
  have y1 : IntKind.i64.wrap (ad + 0) = ad := by rw [Int.add_zero]; exact IntWalk.i64_in _ (by omega)
  have q0 : ad.tdiv 16 = pg := by rw [td16 (by omega)]; omega
  have q1 : ad.tmod 16 = k := by rw [tm16 (by omega)]; omega
  have q2 : ad / 16 = pg := by omega
  have q3 : ad % 16 = k := by omega
  have y2 : IntKind.i64.wrap pg = pg := IntWalk.i64_in _ (by omega)
  have y3 : IntKind.i64.wrap (k : Int) = k := IntWalk.i64_in _ (by omega)
  have HK : Hid (k < 16) := Lib.hid k16
  have k16' : (k : Int) < 16 := by omega
  clear h hs hwf hF hg hh had hc hb hbM hbg hf hsl hpl hu1 k16
  go_enter Tryz.func264, Tryz.ntmps264
  go_upto_region 3 with (first | (go_at_call 327; refine HSH.out.mono ?_; rintro e1 w1 ⟨rfl, rfl⟩) | (go_at_call 84; refine HRO.out.mono ?_; rintro e2 w2 ⟨rfl, hb2⟩))
  have HM1 := Lib.hid (HM.out.keep hb2)
  have HU1 : Hid (Upd (fun k => k = M ∨ k = g) w w2) := Lib.hid (Upd.below hb2)
  clear HM HSH HRO hb2
  go_wp2_with fail
  refine wp_loop_rounds 2 ?_
  rw [rounds_succ]
  have e0 := (HU1.out.cell HBB.out.1 (b := bb) (o := 0) (fun q => by rcases q with q | q; exact HBB.out.2.1 q; exact HBB.out.2.2 q)).trans HC.out
  have m4 := HM1.out.m4
  have l1 := HM1.out.two (s := s) (b := b) HX.out.1 HX.out.2.1
  have l2 := HM1.out.ent (s := s) (b := b) (pg := pg) HX.out.1 HX.out.2.2.1 h0 h63
  have hal := Go.Joins.below_alloc1 w2 (.cells #[.pointer (some ⟨g, 0, none⟩), .int .i64 r] 222)
  have hm2 := HM1.out.keep hal
  have us := (hm2.pg g HX.out.2.2.2.1).us
  rw [HX.out.2.2.2.2.2] at us
  have HASK := Lib.hid (askG_is hm2 HX.out.2.2.2.1 HX.out.2.2.2.2.1)
  have HU2 := Lib.hid (HU1.out.trans (Upd.below hal))
  have x0 : (w2.alloc (.cells #[.pointer (some ⟨g, 0, none⟩), .int .i64 r] 222)).cell? ⟨w2.heap.size, 0, none⟩ = some (.pointer (some ⟨g, 0, none⟩)) := cells_new w2 [.pointer (some ⟨g, 0, none⟩), .int .i64 r] 222 0 _ rfl
  have hsz : w2.heap.size < (w2.alloc (.cells #[.pointer (some ⟨g, 0, none⟩), .int .i64 r] 222)).heap.size := by simp
  have hne : ¬ (w2.heap.size = M ∨ w2.heap.size = g) := by have := HU1.out.size; have := HGM.out; omega
  clear hm2 hal
  go_upto_region 13 with (go_at_call 150; refine HASK.out.mono ?_; rintro e3 w3 ⟨rfl, hm3, hu3⟩)
  have x3 := (hu3.cell hsz hne (o := 0)).trans x0
  have dc := (hm3.pg g HX.out.2.2.2.1).dc k HK.out
  have dz := (hm3.pg g HX.out.2.2.2.1).fz k
  have HM3 := Lib.hid (hm3.dat HX.out.2.2.2.1 HK.out x)
  have HU3 := Lib.hid (HU2.out.trans hu3)
  clear hm3 hu3 x0 hsz hne HASK HU2 us e0 l1 l2 m4
  go_wp2_with fail
  rw [rounds_succ]
  go_wp2_with fail
  go_ret
  exact ⟨rfl, HM3.out, HU3.out.trans (Upd.set _ _ (.inr rfl))⟩
set_option maxRecDepth 100000 in
set_option maxHeartbeats 400000 in
theorem write1_is (h : MemG w M so fr sl m) (hs : m.S s = some b) (hwf : (Lit.int .i64 s).wf = true) (h0 : 0 ≤ pg) (h63 : pg < 64) (hF : m.F b pg = some (g, r)) (hg : g ∈ m.pl) (hh : m.h g = true ∨ (m.pl.countP m.h : Int) < fr) (hu1 : m.u g = 1) {k : Nat} (had : ad = 16 * pg + k) (k16 : k < 16) (hf : 0 ≤ fr ∧ fr ≤ 1000) (hsl : 0 ≤ sl ∧ sl ≤ 1000) (hpl : (m.pl.length : Int) ≤ fr + sl) (hw : bits .and .i64 r 2 = 2)
    {bb : Nat} (hb : bb < w.heap.size) (hbM : bb ≠ M) (hbg : bb ≠ g) (hc : w.cell? ⟨bb, 0, none⟩ = some (.int .u8 x)) :
    Calls Tryz.prog 188 #[.pointer (some ⟨M, 0, none⟩), .int .i64 s, .int .i64 ad, .slice (some ⟨bb, 0, none⟩) 1 1] w fun e w' => e = .returned (.int .i64 0) ∧ MemG w' M so fr sl (({ m with h := fup m.h g true } : MS).dat g (fun j => if j = k then x else m.d g j)) ∧ Upd (fun k => k = M ∨ k = g) w w' := by
  have m4 := h.m4
  have l1 := h.two hs hwf
  have l2 := map_no_nil w b
  have HMAY := Lib.hid (may1_is h hs hwf h0 h63 hF had (by omega) (by omega) (n := 1) rfl hw)
  have HL := Lib.hid (fun w1 (hb1 : Below w.heap.size w w1) => lay1_is (h.keep hb1) hs hwf h0 h63 hF hg hh hu1 had k16 hf hsl hpl (Nat.lt_of_lt_of_le hb hb1.size) hbM hbg ((hb1.cell (World.block_lt_of_cell? w _ hc)).trans hc))
  have i1 : ¬ (256 : Int) < 1 := by omega
  clear h hs hwf hF had hc hb hbM hbg hh hu1 hg hf hsl hpl hw k16
  go_enter Tryz.func188, Tryz.ntmps188
  go_wp2_with (first | (go_at_call 262; refine HMAY.out.mono ?_; rintro e1 w1 ⟨rfl, hb1⟩; have HL1 := Lib.hid (HL.out w1 hb1); have HB1 := Lib.hid hb1; clear hb1) | (go_at_call 264; refine HL1.out.mono ?_; rintro e2 w2 ⟨rfl, hm2, hu2⟩; have HM2 := Lib.hid hm2; have HU2 := Lib.hid ((Upd.below HB1.out).trans hu2); clear hm2 hu2))
  go_ret
  exact ⟨rfl, HM2.out, HU2.out⟩
set_option maxRecDepth 100000 in
set_option maxHeartbeats 400000 in
theorem store1_is (h : MemG w M so fr sl m) (hs : m.S s = some b) (hwf : (Lit.int .i64 s).wf = true) (h0 : 0 ≤ pg) (h63 : pg < 64) (hF : m.F b pg = some (g, r)) (hg : g ∈ m.pl) (hh : m.h g = true ∨ (m.pl.countP m.h : Int) < fr) (hu1 : m.u g = 1) {k a : Nat} (had : (a : Int) = 16 * pg + k) (k16 : k < 16) (hf : 0 ≤ fr ∧ fr ≤ 1000) (hsl : 0 ≤ sl ∧ sl ≤ 1000) (hpl : (m.pl.length : Int) ≤ fr + sl) (hw : bits .and .i64 r 2 = 2) (x : Int) :
    Calls Tryz.prog 454 #[.pointer (some ⟨M, 0, none⟩), .int .i64 s, .int .u32 a, .int .u8 x] w fun e w' => e = .returned (.int .i64 0) ∧ MemG w' M so fr sl (({ m with h := fup m.h g true } : MS).dat g (fun j => if j = k then x else m.d g j)) ∧ Upd (fun k => k = M ∨ k = g) w w' := by
  have hal := Go.Joins.below_alloc1 w (.cells #[.int .u8 x] 5)
  have hlt := h.lt (.inr (.inr (.inr (.inr hg))))
  have hM := h.mlt
  have HW := Lib.hid (write1_is (h.keep hal) hs hwf h0 h63 hF hg hh hu1 had k16 hf hsl hpl hw (bb := w.heap.size) (by simp) (by omega) (by omega) (cells1_new w (.int .u8 x) 5 0 _ rfl))
  have HB := Lib.hid hal
  have y1 : IntKind.i64.wrap (a : Int) = a := IntWalk.i64_in _ (by omega)
  clear h hs hwf hF had hal hh hu1 hg hf hsl hpl hw k16 hlt hM
  go_enter Tryz.func454, Tryz.ntmps454
  go_wp2_with (go_at_call 188; refine HW.out.mono ?_; rintro e1 w1 ⟨rfl, hm1, hu1⟩; have HM1 := Lib.hid hm1; have HU1 := Lib.hid ((Upd.below HB.out).trans hu1); clear hm1 hu1)
  go_ret
  exact ⟨rfl, HM1.out, HU1.out⟩
set_option maxRecDepth 100000 in
set_option maxHeartbeats 400000 in
theorem bstore_is (h : MemG w M so fr sl m) (hs : m.S s = some b) (hwf : (Lit.int .i64 s).wf = true) (h0 : 0 ≤ pg) (h63 : pg < 64) (hF : m.F b pg = some (g, r)) (hg : g ∈ m.pl) (hh : m.h g = true ∨ (m.pl.countP m.h : Int) < fr) (hu1 : m.u g = 1) {k a : Nat} (had : (a : Int) = 16 * pg + k) (k16 : k < 16) (hf : 0 ≤ fr ∧ fr ≤ 1000) (hsl : 0 ≤ sl ∧ sl ≤ 1000) (hpl : (m.pl.length : Int) ≤ fr + sl) (hw : bits .and .i64 r 2 = 2) (x : Int) :
    Calls Tryz.prog 460 #[.agg #[.pointer (some ⟨M, 0, none⟩), .int .i64 s], .int .u32 a, .int .u8 x] w fun e w' => e = .returned (.int .i64 0) ∧ MemG w' M so fr sl (({ m with h := fup m.h g true } : MS).dat g (fun j => if j = k then x else m.d g j)) ∧ Upd (fun k => k = M ∨ k = g) w w' := by
  have hal := Go.Joins.below_alloc1 w (.cells #[.pointer (some ⟨M, 0, none⟩), .int .i64 s] 123)
  have hr := row_new w 123 #[.pointer (some ⟨M, 0, none⟩), .int .i64 s]
  have c0 := hr.cell 0
  have c1 := hr.cell 1
  have HL := Lib.hid (store1_is (h.keep hal) hs hwf h0 h63 hF hg hh hu1 had k16 hf hsl hpl hw x)
  have HB := Lib.hid hal
  clear h hs hwf hF hg hh hw had hr hu1 hf hsl hpl k16
  go_enter Tryz.func460, Tryz.ntmps460
  go_wp2_with (go_at_call 454; refine HL.out.mono ?_; rintro e1 w1 ⟨rfl, hm1, hu1⟩; have HM1 := Lib.hid hm1; have HU1 := Lib.hid ((Upd.below HB.out).trans hu1); clear hm1 hu1)
  go_ret
  exact ⟨rfl, HM1.out, HU1.out⟩
end
end Go.Proofs.YtnbhohaphmilmaaGreatDoor
namespace Go.Proofs.YtnbhohaphmilmaaGreatDoor.CpuLaw
open Go.RowKit
set_option linter.unusedVariables false
set_option linter.unusedSimpArgs false
/-- behind a call that may turn the memory and the next registers -/
theorem St3.mem {w w1 w2 : World} {n n8 n10 : Nat} {Q Q' : World → Prop} {S : Nat → Prop} {g g1 g2 g3 : G} {op : Int} {A B : Nat} {C : Int} {t : Int} {a : Nat} (h : St3 w w1 n n8 n10 Q S g g1 g2 op A B C t a) (hK : CalmQ Q' S w.heap.size) (hu : Upd (fun k => k = n10 ∨ S k) w1 w2) (hr : Row w2 n10 g3) (hq : Q' w2) : St3 w w2 n n8 n10 Q' S g g3 g2 op A B C t a := by
  have h8 := h.h8
  have h10 := h.h10
  have hn := h.S.hn
  have n0 : ∀ k, n ≤ k → k < n10 → ¬ (k = n10 ∨ S k) := fun k hk hk2 e => by
    rcases e with e | e
    · omega
    · have := h.S.kq.low k e; omega
  have hI := h.I.lt
  refine ⟨⟨hn, by rw [← hn]; exact hK, ?_, h.S.R.keepU hu (n0 _ (by omega) (by omega)), h.S.Z.keepU hu (n0 _ (by omega) (by omega)), h.S.T.keepU hu (n0 _ (by omega) (by omega)), hq⟩, ?_, hr, h8, h10⟩
  · exact h.S.off.trans' hu (fun k hk e => by
      rcases e with e | e
      · have : n10 < w.heap.size := by omega
        omega
      · exact e)
  · have hb : ¬ (n8 = n10 ∨ S n8) := n0 _ (by omega) h10
    exact ⟨Nat.lt_of_lt_of_le h.I.lt hu.size, (hu.cell h.I.lt hb).trans h.I.c0, (hu.cell h.I.lt hb).trans h.I.c1, (hu.cell h.I.lt hb).trans h.I.c2, (hu.cell h.I.lt hb).trans h.I.c3⟩
attribute [local go_sem ↓] sub33_eq add33_eq or33_eq shl33_eq shr33_eq mul33_eq quo33_eq and33_eq xor33_eq narrow_eq wideB_eq conv33_eq conv83_eq conv8333_eq load61_eq store61_eq zero61 cells61
set_option maxRecDepth 100000 in
set_option maxHeartbeats 2000000 in
theorem step_mem {w : World} {g : G} {Q : World → Prop} {S : Nat → Prop} {bv : Value} {x A B pc4 : Nat} {t : Int} {Q' : World → Prop} (hK : CalmQ Q S w.heap.size) (hK' : CalmQ Q' S w.heap.size) (hQ : Q w) {g3 : G} (HX : FetchIs Q S bv g.pc x) {op C : Int} (HD : DecIs x op A B C 0) (hA : A < 8) (hB : B < 8) (hP : ∀ w, (add33 (.int .u32 g.pc) (.int .u32 4)).run Tryz.prog w = .ok (.int .u32 pc4) w) (n1 : (op == 1) = false) (n26 : (op == 26) = false) (o1 : 15 ≤ op) (o2 : op ≤ 18) (o3 : decide (5 ≤ op) = true) (o4 : decide (op ≤ 13) = false) (o5 : decide (15 ≤ op) = true) (o6 : decide (op ≤ 18) = true) (HM : ∀ w1 rb, w.heap.size ≤ rb → Row w1 rb ⟨g.r, pc4, g.ring⟩ → Q w1 → Calls Tryz.prog 96 #[.pointer (some ⟨rb, 0, none⟩), insA op A B C, bv] w1 fun e w' => e = .returned (trap 0 0) ∧ Upd (fun k => k = rb ∨ S k) w1 w' ∧ Row w' rb g3 ∧ Q' w')
    : Calls Tryz.prog 45 #[.agg (cellsA g), bv] w fun e w' => e = .returned (.tuple #[.agg (cellsA (g3)), trap 0 0]) ∧ Upd S w w' ∧ Q' w' := by
  have GM := Lib.hid HM
  have GK := Lib.hid hK'
  clear hK'
  clear HM
  have hA0 : 0 ≤ (A : Int) := by omega
  have hA8 : (A : Int) < 8 := by omega
  have hB0 : 0 ≤ (B : Int) := by omega
  have hB8 : (B : Int) < 8 := by omega
  have GX := Lib.hid HX
  clear HX
  go_enter Tryz.func45, Tryz.ntmps45
  go_upto_region 1 with fail
  have HF0 := stp_new hK hQ g
  revert HF0
  generalize ((w.alloc (.cells (cellsA g) 36)).alloc (.cells (cellsA zeroG) 36)).alloc (.cells #[.int .i64 0, .int .u32 0] 64) = W
  intro HF0
  have HF := Lib.hid HF0
  clear HF0 hQ hK
  have p8 := HF.out.R.cpc
  have p9 := HF.out.R.cring
  have hl := HF.out.R.load
  have t0 := HF.out.T.c0
  have t1 := HF.out.T.c1
  have tf := HF.out.T.fz
  go_wp2_with fail
  refine (GX.out _ HF.out.Q).mono ?_
  rintro e w2 ⟨rfl, hq2, hu2⟩
  have HF2 := Lib.hid (HF.out.fetched hq2 hu2)
  clear hq2 hu2
  go_upto_region 2 with fail
  have HF3 := HF2.out.keep (w2 := w2.alloc (.cells #[.int .i64 0, .int .u32 0] 64)) ((Below.refl _ _).alloc (Nat.le_refl _) _)
  have hS := slot_of w2 0 0
  have hn7 := HF2.out.T.lt
  revert HF3 hS
  generalize w2.alloc (.cells #[.int .i64 0, .int .u32 0] 64) = W3
  generalize w2.heap.size = n7 at *
  intro HF3' hS
  have HF3 := Lib.hid HF3'
  have u0 := hS.c0
  have u1 := hS.c1
  have HS := Lib.hid hS
  clear HF3' hS HF2
  have GD := Lib.hid HD
  clear HD
  go_wp2_with fail
  refine (GD.out _).mono ?_
  rintro e w4 ⟨rfl, hb4⟩
  have HF4 := Lib.hid (HF3.out.keep hb4)
  clear hb4 HF3
  go_upto_region 5 with fail
  have HF5 := HF4.out.keep (w2 := w4.alloc (.cells #[.int .i64 op, .int .i64 A, .int .i64 B, .int .i64 C] 89)) ((Below.refl _ _).alloc (Nat.le_refl _) _)
  have hI := ins_new w4 op A B C
  have hn8 := HF4.out.T.lt
  clear HF4
  revert HF5 hI
  generalize w4.alloc (.cells #[.int .i64 op, .int .i64 A, .int .i64 B, .int .i64 C] 89) = W5
  generalize w4.heap.size = n8 at *
  intro HF5' hI
  have HF5 := Lib.hid HF5'
  have i0 := hI.c0
  have i1 := hI.c1
  have i2 := hI.c2
  have i3 := hI.c3
  have HI := Lib.hid hI
  clear HF5' hI
  have p85 := HF5.out.R.cpc
  have p95 := HF5.out.R.cring
  have hl5 := HF5.out.R.load
  have t05 := HF5.out.T.c0
  have t15 := HF5.out.T.c1
  have tf5 := HF5.out.T.fz
  go_upto_region 7 with fail
  have hs5 := (row_new W5 zeroG).store g
  go_upto_region 8 with fail
  have H6 := st3_new HF5.out HI.out hn8
  revert H6
  generalize (W5.alloc (.cells (cellsA zeroG) 36)).setRow W5.heap.size (cellsA g) = W6
  generalize W5.heap.size = n10 at *
  intro H6'
  have H6 := Lib.hid H6'
  have x8 := H6'.N.cpc
  have xf := H6'.N.fz
  clear H6' i0 i1 i2 i3 p85 p95 hl5 t05 t15 tf5
  go_upto_region 10 with fail
  have H7 := H6.out.setPc pc4
  revert H7
  generalize W6.setCell ⟨n10, 8, none⟩ (.int .u32 pc4) = W7
  intro H7'
  have H7 := Lib.hid H7'
  clear H7' x8 xf H6
  have p87 := H7.out.S.R.cpc
  have p97 := H7.out.S.R.cring
  have hl7 := H7.out.S.R.load
  have t07 := H7.out.S.T.c0
  have t17 := H7.out.S.T.c1
  have tf7 := H7.out.S.T.fz
  have i0 := H7.out.I.c0
  have i1 := H7.out.I.c1
  have i2 := H7.out.I.c2
  have i3 := H7.out.I.c3
  have xl := H7.out.N.load
  have xf := H7.out.N.fz
  have x8 := H7.out.N.cpc
  have hq1 : w.heap.size ≤ n10 := by have := H7.out.S.hn; have := H7.out.h8; have := H7.out.h10; omega
  go_wp2_with fail
  refine (GM.out _ _ hq1 H7.out.N H7.out.S.Q).mono ?_
  rintro e w8 ⟨rfl, ho8, hr8, hm8⟩
  have H8 := Lib.hid (H7.out.mem GK.out ho8 hr8 hm8)
  clear ho8 hr8 hm8 hq1
  clear p87 p97 hl7 t07 t17 tf7 i0 i1 i2 i3 xl xf x8
  go_upto_region 17 with fail
  have HF9 := H8.out.keep (w2 := w8.alloc (.cells #[.int .i64 0, .int .u32 0] 64)) ((Below.refl _ _).alloc (Nat.le_refl _) _)
  have hS := slot_of w8 0 0
  have hn9 : n10 < w8.heap.size := H8.out.N.lt
  clear H8
  revert HF9 hS
  generalize w8.alloc (.cells #[.int .i64 0, .int .u32 0] 64) = W9
  generalize w8.heap.size = n13 at *
  intro HF9' hS
  have H9 := Lib.hid HF9'
  have u0m := hS.c0
  have u1m := hS.c1
  have HS9 := Lib.hid hS
  clear HF9' hS
  have p879 := H9.out.S.R.cpc
  have p979 := H9.out.S.R.cring
  have hl79 := H9.out.S.R.load
  have t079 := H9.out.S.T.c0
  have t179 := H9.out.S.T.c1
  have tf79 := H9.out.S.T.fz
  have i09 := H9.out.I.c0
  have i19 := H9.out.I.c1
  have i29 := H9.out.I.c2
  have i39 := H9.out.I.c3
  have xl9 := H9.out.N.load
  have xf9 := H9.out.N.fz
  have x89 := H9.out.N.cpc
  go_upto_region 21 with fail
  have hlN := H9.out.N.load
  have hsr := H9.out.S.Z.store (g3)
  have HZr := Lib.hid (H9.out.S.outZ (g3))
  have zfr := HZr.out.T.fz
  have z0r := HZr.out.T.c0
  have z1r := HZr.out.T.c1
  have HO := Lib.hid (HZr.out.outT 0 0)
  go_wp2_with fail
  exact bodyPost_ret (two_results Tryz.results45 rfl rfl HO.out.Z HO.out.T) rfl ⟨rfl, HO.out.off, HO.out.Q⟩
end Go.Proofs.YtnbhohaphmilmaaGreatDoor.CpuLaw
namespace Go.Proofs.YtnbhohaphmilmaaGreatDoor.CpuLaw
open Go.RowKit
set_option linter.unusedVariables false
set_option linter.unusedSimpArgs false
theorem meth_store (v : Value) (w : World) : (method 671 123 v "Store").run Tryz.prog w = .ok (460, v) w := by kernel_rfl
theorem sh_ok {x : Nat} (y k z : Nat) (hy : y < 32) (hk : 2 ^ y = k) (hz : x / k = z) (w : World) : (shr33 (.int .u32 x) (.int .u32 y)).run Tryz.prog w = .ok (.int .u32 z) w := shr_u32 (k := 0) hy (by rw [hk]; exact hz) w
theorem n_ok {x z : Nat} (h : x % 256 = z) (w : World) : (narrow (.int .u32 x)).run Tryz.prog w = .ok (.int .u8 z) w := narrow_u8 h w
/-- the blocks of a call of memory: the next registers, and two of its own -/
structure MemB (w w1 : World) (B0 n rb : Nat) (Q : World → Prop) (S : Nat → Prop) (g : G) (op : Int) (A B : Nat) (C : Int) (t : Int) (a : Nat) : Prop where
  hn : w.heap.size = n
  hb : B0 ≤ rb
  l0 : rb < n
  kq : CalmQ Q S B0
  off : Upd (fun k => k = rb ∨ S k) w w1
  R : Row w1 rb g
  I : InsAt w1 n op A B C
  T : Slot (n + 1) t a w1
  Q : Q w1
section
variable {w w1 w2 : World} {B0 n rb d : Nat} {Q Q' : World → Prop} {S : Nat → Prop} {g : G} {op : Int} {A B : Nat} {C : Int} {t : Int} {a : Nat}
theorem InsAt.keepU {P : Nat → Prop} (h : InsAt w1 n op A B C) (hu : Upd P w1 w2) (hb : ¬ P n) : InsAt w2 n op A B C :=
  ⟨Nat.lt_of_lt_of_le h.lt hu.size, (hu.cell h.lt hb).trans h.c0, (hu.cell h.lt hb).trans h.c1, (hu.cell h.lt hb).trans h.c2, (hu.cell h.lt hb).trans h.c3⟩
theorem MemB.keep (h : MemB w w1 B0 n rb Q S g op A B C t a) (hb : Below w1.heap.size w1 w2) : MemB w w2 B0 n rb Q S g op A B C t a :=
  ⟨h.hn, h.hb, h.l0, h.kq, h.off.trans (Upd.below hb), h.R.keep hb, h.I.keep hb, h.T.keep (.of hb) (Nat.ne_of_lt h.T.lt), h.kq.keep _ _ h.Q hb⟩
theorem MemB.drew (h : MemB w w1 B0 n rb Q S g op A B C t a) : MemB w w1.drew B0 n rb Q S g op A B C t a := h.keep (Below.refl _ _).drew
/-- the bus alone was turned -/
theorem MemB.put (h : MemB w w1 B0 n rb Q S g op A B C t a) (hK : CalmQ Q' S B0) (hu : Upd S w1 w2) (hq : Q' w2) : MemB w w2 B0 n rb Q' S g op A B C t a := by
  have n0 : ∀ k, B0 ≤ k → ¬ S k := fun k hk e => by have := hK.low k e; omega
  have := h.hb; have := h.l0
  exact ⟨h.hn, h.hb, h.l0, hK, h.off.trans (hu.mono fun k _ e => .inr e), h.R.keepU hu (n0 _ (by omega)), h.I.keepU hu (n0 _ (by omega)), h.T.keepU hu (n0 _ (by omega)), hq⟩
theorem MemB.setReg (h : MemB w w1 B0 n rb Q S g op A B C t a) {k : Nat} (hk : k < 8) (x : Nat) : MemB w (w1.setCell ⟨rb, k, none⟩ (.int .u32 x)) B0 n rb Q S (setR g k x) op A B C t a := by
  have := h.hb; have := h.l0
  exact ⟨h.hn, h.hb, h.l0, h.kq, h.off.trans (Upd.set _ _ (.inl rfl)), h.R.setReg hk x, h.I.setO (by omega) _, h.T.setO (by omega) _, h.kq.own _ _ _ h.Q (by omega) (.set _ _)⟩
theorem MemB.out (h : MemB w w1 B0 n rb Q S g op A B C t a) (t2 : Int) (a2 : Nat) : MemB w ((w1.setCell ⟨n + 1, 0, none⟩ (.int .i64 t2)).setCell ⟨n + 1, 1, none⟩ (.int .u32 a2)) B0 n rb Q S g op A B C t2 a2 := by
  have := h.hb; have := h.l0; have := h.hn
  have ho : Off (n + 1) w1 ((w1.setCell ⟨n + 1, 0, none⟩ (.int .i64 t2)).setCell ⟨n + 1, 1, none⟩ (.int .u32 a2)) := (Off.set _ _).trans (.set _ _)
  exact ⟨h.hn, h.hb, h.l0, h.kq, ho.upd h.off (by omega), (h.R.setO (by omega) _).setO (by omega) _, (h.I.setO (by omega) _).setO (by omega) _, h.T.set2 _ _, h.kq.own _ _ _ h.Q (by omega) ho⟩
theorem memB_new (hK : CalmQ Q S B0) (hb : B0 ≤ rb) (hR : Row w rb g) (hQ : Q w) (op : Int) (A B : Nat) (C : Int) : MemB w ((w.alloc (.cells #[.int .i64 op, .int .i64 A, .int .i64 B, .int .i64 C] 89)).alloc (.cells #[.int .i64 0, .int .u32 0] 64)) B0 w.heap.size rb Q S g op A B C 0 0 := by
  have i0 := ins_new w op A B C
  have s0 := slot_new (w.alloc (.cells #[.int .i64 op, .int .i64 A, .int .i64 B, .int .i64 C] 89))
  have al : ∀ (w : World) (o : Obj), Below w.heap.size w (w.alloc o) := fun w o => (Below.refl _ _).alloc (Nat.le_refl _) o
  simp only [World.size_alloc] at s0
  exact ⟨rfl, hb, hR.lt, hK, (Upd.alloc _ _).trans (Upd.alloc _ _), (hR.alloc _).alloc _, i0.keep (al _ _), s0, hK.keep _ _ (hK.keep _ _ hQ (al _ _)) (al _ _)⟩
theorem results_cellA {fn : Func} {p : Tmp} {ty : TypeId} (h : fn.results = #[.cell p ty]) (tmps : Array Value) (P : Program) (w : World) :
    (results fn tmps).run P w = ((asAddr (tmps.getD p undef)).run P w).andThen fun a w1 => (loadVar ty a).run P w1 := by
  unfold results
  rw [h]
  simp
theorem results_cellT {fn : Func} {q : Tmp} (h : fn.results = #[.cell q 64]) {tmps : Array Value} {w : World} {d : Nat} {t : Int} {a : Nat} (hq : tmps.getD q undef = .pointer (some ⟨d, 0, none⟩)) (T : Slot d t a w) :
    (results fn tmps).run Tryz.prog w = .ok (trap t a) w := by
  rw [results_cellA h, hq]
  simp only [asAddr_ptr, Result.andThen_ok, load63 T]
end
section
attribute [local go_sem ↓] sub33_eq add33_eq or33_eq shl33_eq wideB_eq shr33_eq narrow_eq
set_option maxRecDepth 100000 in
set_option maxHeartbeats 1000000 in
theorem put_walk {w : World} {rv : Value} {a a1 a2 a3 x y0 y1 y2 y3 z0 z1 z2 z3 : Nat} {P : Nat → World → Prop} (h4 : ((a : Int) % 4 != 0) = false) (hP0 : P 0 (w.alloc (.cells #[.int .i64 0, .int .u32 0] 64))) (hP : ∀ j w1, P j w1 → Slot w.heap.size 0 0 w1)
    (d0 : ∀ w, (add33 (.int .u32 a) (.int .u32 0)).run Tryz.prog w = .ok (.int .u32 a) w) (s0 : ∀ w, (shr33 (.int .u32 x) (.int .u32 0)).run Tryz.prog w = .ok (.int .u32 y0) w) (v0 : ∀ w, (narrow (.int .u32 y0)).run Tryz.prog w = .ok (.int .u8 z0) w)
    (H0 : ∀ w1, P 0 w1 → Calls Tryz.prog 460 #[rv, .int .u32 a, .int .u8 z0] w1 fun e w' => e = .returned (.int .i64 0) ∧ P 1 w')
    (d1 : ∀ w, (add33 (.int .u32 a) (.int .u32 1)).run Tryz.prog w = .ok (.int .u32 a1) w) (s1 : ∀ w, (shr33 (.int .u32 x) (.int .u32 8)).run Tryz.prog w = .ok (.int .u32 y1) w) (v1 : ∀ w, (narrow (.int .u32 y1)).run Tryz.prog w = .ok (.int .u8 z1) w)
    (H1 : ∀ w1, P 1 w1 → Calls Tryz.prog 460 #[rv, .int .u32 a1, .int .u8 z1] w1 fun e w' => e = .returned (.int .i64 0) ∧ P 2 w')
    (d2 : ∀ w, (add33 (.int .u32 a) (.int .u32 2)).run Tryz.prog w = .ok (.int .u32 a2) w) (s2 : ∀ w, (shr33 (.int .u32 x) (.int .u32 16)).run Tryz.prog w = .ok (.int .u32 y2) w) (v2 : ∀ w, (narrow (.int .u32 y2)).run Tryz.prog w = .ok (.int .u8 z2) w)
    (H2 : ∀ w1, P 2 w1 → Calls Tryz.prog 460 #[rv, .int .u32 a2, .int .u8 z2] w1 fun e w' => e = .returned (.int .i64 0) ∧ P 3 w')
    (d3 : ∀ w, (add33 (.int .u32 a) (.int .u32 3)).run Tryz.prog w = .ok (.int .u32 a3) w) (s3 : ∀ w, (shr33 (.int .u32 x) (.int .u32 24)).run Tryz.prog w = .ok (.int .u32 y3) w) (v3 : ∀ w, (narrow (.int .u32 y3)).run Tryz.prog w = .ok (.int .u8 z3) w)
    (H3 : ∀ w1, P 3 w1 → Calls Tryz.prog 460 #[rv, .int .u32 a3, .int .u8 z3] w1 fun e w' => e = .returned (.int .i64 0) ∧ P 4 w')
    : Calls Tryz.prog 184 #[.iface 123 rv, .int .u32 a, .int .u32 x] w fun e w' => e = .returned (trap 0 0) ∧ ∃ w1, P 4 w1 ∧ w' = (w1.setCell ⟨w.heap.size, 0, none⟩ (.int .i64 0)).setCell ⟨w.heap.size, 1, none⟩ (.int .u32 0) := by
  have hm := meth_store rv
  have g0 : ∀ w, (add33 (.int .u32 0) (.int .u32 1)).run Tryz.prog w = .ok (.int .u32 1) w := step_u32 0 1 rfl (by decide)
  have g1 : ∀ w, (add33 (.int .u32 1) (.int .u32 1)).run Tryz.prog w = .ok (.int .u32 2) w := step_u32 1 2 rfl (by decide)
  have g2 : ∀ w, (add33 (.int .u32 2) (.int .u32 1)).run Tryz.prog w = .ok (.int .u32 3) w := step_u32 2 3 rfl (by decide)
  have g3 : ∀ w, (add33 (.int .u32 3) (.int .u32 1)).run Tryz.prog w = .ok (.int .u32 4) w := step_u32 3 4 rfl (by decide)
  have G0 := Lib.hid H0
  have G1 := Lib.hid H1
  have G2 := Lib.hid H2
  have G3 := Lib.hid H3
  have GP := Lib.hid hP0
  have hQ := Lib.hid hP
  clear hP hP0 H0 H1 H2 H3
  go_enter Tryz.func184, Tryz.ntmps184
  go_wp2_with fail
  refine wp_loop_rounds 5 ?_
  rw [rounds_succ]
  go_wp2_with (go_at_call 460; refine (G0.out _ GP.out).mono ?_; rintro e w0 ⟨rfl, p0'⟩; have p0 := Lib.hid p0'; clear p0')
  rw [rounds_succ]
  go_wp2_with (go_at_call 460; refine (G1.out _ p0.out).mono ?_; rintro e w1 ⟨rfl, p1'⟩; have p1 := Lib.hid p1'; clear p1')
  rw [rounds_succ]
  go_wp2_with (go_at_call 460; refine (G2.out _ p1.out).mono ?_; rintro e w2 ⟨rfl, p2'⟩; have p2 := Lib.hid p2'; clear p2')
  rw [rounds_succ]
  go_wp2_with (go_at_call 460; refine (G3.out _ p2.out).mono ?_; rintro e w3 ⟨rfl, p3'⟩; have p3 := Lib.hid p3'; clear p3')
  have q := hQ.out _ _ p3.out
  have q0 := q.c0
  have q1 := q.c1
  have qf := q.fz
  clear q
  rw [rounds_succ]
  go_wp2_with fail
  exact bodyPost_ret (v := trap 0 0) (by simp [results, Tryz.results184, go_sem, q0, q1, qf]) rfl ⟨rfl, _, p3.out, rfl⟩
end
attribute [local go_sem ↓] sub33_eq add33_eq or33_eq shl33_eq shr33_eq mul33_eq quo33_eq and33_eq xor33_eq narrow_eq wideB_eq conv33_eq conv83_eq conv8333_eq load61_eq store61_eq zero61 cells61
set_option maxRecDepth 100000 in
set_option maxHeartbeats 1000000 in
theorem mem_load {w : World} {g : G} {Q : World → Prop} {S : Nat → Prop} {bv : Value} {B0 rb A B k tt x : Nat} {C : Int} (hK : CalmQ Q S B0) (hb : B0 ≤ rb) (hR : Row w rb g) (hQ : Q w) (hA : A < 8) (hB : B < 8) (hc : ∀ w, (conv33 (.int .i64 C)).run Tryz.prog w = .ok (.int .u32 k) w) (ht : ∀ w, (add33 (.int .u32 (g.r B)) (.int .u32 k)).run Tryz.prog w = .ok (.int .u32 tt) w) (HX : ∀ w1, Q w1 → Calls Tryz.prog 93 #[bv, .int .u32 tt, .int .i64 1] w1 fun e w' => e = .returned (.tuple #[.int .u32 x, trap 0 0]) ∧ Q w' ∧ Upd S w1 w')
    : Calls Tryz.prog 96 #[.pointer (some ⟨rb, 0, none⟩), insA 15 A B C, bv] w fun e w' => e = .returned (trap 0 0) ∧ Upd (fun k => k = rb ∨ S k) w w' ∧ Row w' rb (setR g A x) ∧ Q w' := by
  have hA0 : 0 ≤ (A : Int) := by omega
  have hA8 : (A : Int) < 8 := by omega
  have hB0 : 0 ≤ (B : Int) := by omega
  have hB8 : (B : Int) < 8 := by omega
  go_enter Tryz.func96, Tryz.ntmps96
  go_upto_region 1 with fail
  have HF0 := memB_new hK hb hR hQ 15 A B C
  revert HF0
  generalize (w.alloc (.cells #[.int .i64 15, .int .i64 A, .int .i64 B, .int .i64 C] 89)).alloc (.cells #[.int .i64 0, .int .u32 0] 64) = W
  intro HF0
  have HF := Lib.hid HF0
  clear HF0
  have HK := Lib.hid hK
  have GX := Lib.hid HX
  clear HX hR hQ hK
  have ca := HF.out.R.cr hA
  have cb := HF.out.R.cr hB
  have i0 := HF.out.I.c0
  have i1 := HF.out.I.c1
  have i2 := HF.out.I.c2
  have i3 := HF.out.I.c3
  have f0 := HF.out.R.fz
  have t0 := HF.out.T.c0
  have t1 := HF.out.T.c1
  have f1 := HF.out.T.fz
  go_wp2
  go_region
  go_wp2_with fail
  refine (GX.out _ HF.out.drew.Q).mono ?_
  rintro e w2 ⟨rfl, hq2, hu2⟩
  have HF2 := Lib.hid (HF.out.drew.put HK.out hu2 hq2)
  clear hq2 hu2
  go_upto_region 5 with fail
  have HF3 := HF2.out.keep (w2 := w2.alloc (.cells #[.int .i64 0, .int .u32 0] 64)) ((Below.refl _ _).alloc (Nat.le_refl _) _)
  have hS := slot_of w2 0 0
  have hnn := HF2.out.T.lt
  revert HF3 hS
  generalize w2.alloc (.cells #[.int .i64 0, .int .u32 0] 64) = W3
  generalize w2.heap.size = n2 at *
  intro HF3' hS
  have HF3 := Lib.hid HF3'
  have u0 := hS.c0
  have u1 := hS.c1
  have HS := Lib.hid hS
  clear HF3' hS
  have ca3 := HF3.out.R.cr hA
  have cb3 := HF3.out.R.cr hB
  have i03 := HF3.out.I.c0
  have i13 := HF3.out.I.c1
  have i23 := HF3.out.I.c2
  have i33 := HF3.out.I.c3
  have f03 := HF3.out.R.fz
  have t03 := HF3.out.T.c0
  have t13 := HF3.out.T.c1
  have f13 := HF3.out.T.fz
  have HG := Lib.hid (HF3.out.setReg hA x)
  have hno : rb ≠ n2 := by have := HF3.out.l0; omega
  have hS4 := HS.out.setO hno (v := .int .u32 x) (i := A)
  have v0 := hS4.c0
  have v1 := hS4.c1
  clear hS4 hno hnn
  have ca4 := HG.out.R.cr hA
  have cb4 := HG.out.R.cr hB
  have i04 := HG.out.I.c0
  have i14 := HG.out.I.c1
  have i24 := HG.out.I.c2
  have i34 := HG.out.I.c3
  have f04 := HG.out.R.fz
  have t04 := HG.out.T.c0
  have t14 := HG.out.T.c1
  have f14 := HG.out.T.fz
  have HO := Lib.hid (HG.out.out 0 0).drew
  go_wp2
  go_region
  go_wp2
  exact bodyPost_ret (results_cellT rfl rfl HO.out.T) rfl ⟨rfl, HO.out.off, HO.out.R, HO.out.Q⟩
set_option maxRecDepth 100000 in
set_option maxHeartbeats 1000000 in
theorem mem_store {w : World} {g : G} {Q Q' : World → Prop} {S : Nat → Prop} {bv : Value} {B0 rb A B k tt : Nat} {C : Int} (hK : CalmQ Q S B0) (hK' : CalmQ Q' S B0) (hb : B0 ≤ rb) (hR : Row w rb g) (hQ : Q w) (hA : A < 8) (hB : B < 8) (hc : ∀ w, (conv33 (.int .i64 C)).run Tryz.prog w = .ok (.int .u32 k) w) (ht : ∀ w, (add33 (.int .u32 (g.r B)) (.int .u32 k)).run Tryz.prog w = .ok (.int .u32 tt) w) (HX : ∀ w1, Q w1 → B0 ≤ w1.heap.size → Calls Tryz.prog 184 #[bv, .int .u32 tt, .int .u32 (g.r A)] w1 fun e w' => e = .returned (trap 0 0) ∧ Q' w' ∧ Upd S w1 w')
    : Calls Tryz.prog 96 #[.pointer (some ⟨rb, 0, none⟩), insA 17 A B C, bv] w fun e w' => e = .returned (trap 0 0) ∧ Upd (fun k => k = rb ∨ S k) w w' ∧ Row w' rb g ∧ Q' w' := by
  have hA0 : 0 ≤ (A : Int) := by omega
  have hA8 : (A : Int) < 8 := by omega
  have hB0 : 0 ≤ (B : Int) := by omega
  have hB8 : (B : Int) < 8 := by omega
  go_enter Tryz.func96, Tryz.ntmps96
  go_upto_region 1 with fail
  have HF0 := memB_new hK hb hR hQ 17 A B C
  revert HF0
  generalize (w.alloc (.cells #[.int .i64 17, .int .i64 A, .int .i64 B, .int .i64 C] 89)).alloc (.cells #[.int .i64 0, .int .u32 0] 64) = W
  intro HF0
  have HF := Lib.hid HF0
  clear HF0
  have HK := Lib.hid hK'
  have GX := Lib.hid HX
  clear HX hR hQ hK hK'
  have ca := HF.out.R.cr hA
  have cb := HF.out.R.cr hB
  have i0 := HF.out.I.c0
  have i1 := HF.out.I.c1
  have i2 := HF.out.I.c2
  have i3 := HF.out.I.c3
  have f0 := HF.out.R.fz
  have t0 := HF.out.T.c0
  have t1 := HF.out.T.c1
  have f1 := HF.out.T.fz
  go_wp2
  go_region
  go_wp2_with fail
  go_region_with (go_at_call 184; refine (GX.out _ ?_ ?_).mono ?_; exact HF.out.drew.drew.Q; (have h1 := HF.out.drew.drew.R.lt; have h2 := HF.out.hb; exact Nat.le_of_lt (Nat.lt_of_le_of_lt h2 h1)); rintro e w2 ⟨rfl, hq, ho⟩; have HF2 := Lib.hid (HF.out.drew.drew.put HK.out ho hq); have e0 := HF2.out.T.c0; have e1 := HF2.out.T.c1; have e2 := HF2.out.T.fz; clear ho hq)
  have HO := Lib.hid (HF2.out.out 0 0)
  go_wp2_with fail
  exact bodyPost_ret (results_cellT rfl rfl HO.out.T) rfl ⟨rfl, HO.out.off, HO.out.R, HO.out.Q⟩
end Go.Proofs.YtnbhohaphmilmaaGreatDoor.CpuLaw
