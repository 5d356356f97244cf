/- The walk of kernel.Step: a process has its turn. -/
import Derived.Test.YtnbhohaphmilmaaGreatDoorKerSt
import Derived.Test.YtnbhohaphmilmaaGreatDoorKerG
namespace Go.Proofs.YtnbhohaphmilmaaGreatDoor
open Go.RowKit
set_option linter.unusedVariables false
set_option linter.unusedSimpArgs false
/-- the registers of a task, from cell o on -/
def RegsAt (c : Nat → Value) (o : Nat) (g : CpuLaw.G) : Prop := ∀ j, j < 10 → c (o + j) = ((CpuLaw.cellsA g)[j]?).getD undef
theorem regs_ext {c : Nat → Value} {o : Nat} {g : CpuLaw.G} (ho : o + 10 ≤ 655) (h : RegsAt c o g) : (kerA c).extract o (o + 10) = CpuLaw.cellsA g := by
  apply Array.ext
  · simp [kerA_size]; rw [Nat.min_eq_left ho]; simp; rfl
  · intro i h1 h2
    have hi : i < 10 := by simp [kerA_size] at h1; omega
    simp only [Array.getElem_extract, kerA, Array.getElem_ofFn]
    rw [h i hi, Array.getElem?_eq_getElem h2]
    rfl
/-- the cells with other registers from o on -/
def putRg (c : Nat → Value) (o : Nat) (g : CpuLaw.G) : Nat → Value := fun j => if o ≤ j ∧ j < o + 10 then ((CpuLaw.cellsA g)[j - o]?).getD undef else c j
theorem ld_rg (v : Value) : Instr.loadAt 36 v = ldR 36 v := rfl
theorem st_rg (p v : Value) : Instr.storeAt 36 p v = stR 36 p v := rfl
theorem st_tr (p v : Value) : Instr.storeAt 64 p v = stR 64 p v := rfl
def rgZ : Array Value := #[.int .u32 0, .int .u32 0, .int .u32 0, .int .u32 0, .int .u32 0, .int .u32 0, .int .u32 0, .int .u32 0, .int .u32 0, .int .i64 0]
def trZ : Array Value := #[.int .i64 0, .int .u32 0]
/-- a new row of registers, and one of a trap -/
structure Duo (W : World) (b9 b10 : Nat) : Prop where
  r9 : Row W b9 36 rgZ
  r10 : Row W b10 64 trZ
  ne : b9 ≠ b10
def RgA (G : Array Value) : Prop := G.size = 10 ∧ G.all (·.oneCell') = true
theorem Duo.eqs {W : World} {b9 b10 : Nat} (h : Duo W b9 b10) {G : Array Value} (hG : RgA G) :
    (stR 36 (.pointer (some ⟨b9, 0, none⟩)) (.agg G)).run Tryz.prog W = .ok () (W.setRow b9 G) ∧
    (stR 64 (.pointer (some ⟨b10, 0, none⟩)) (.agg #[.int .i64 0, .int .u32 0])).run Tryz.prog (W.setRow b9 G) = .ok () ((W.setRow b9 G).setRow b10 #[.int .i64 0, .int .u32 0]) ∧
    (stR 64 (.pointer (some ⟨b10, 0, none⟩)) (.agg #[.int .i64 0, .int .u32 0])).run Tryz.prog W = .ok () (W.setRow b10 #[.int .i64 0, .int .u32 0]) ∧
    (stR 36 (.pointer (some ⟨b9, 0, none⟩)) (.agg G)).run Tryz.prog (W.setRow b10 #[.int .i64 0, .int .u32 0]) = .ok () ((W.setRow b10 #[.int .i64 0, .int .u32 0]).setRow b9 G) := by
  have hi : (Tryz.prog.info? 36).map (·.size) = some G.size := by rw [hG.1]; kernel_rfl
  exact ⟨h.r9.st0 (by rw [hG.1]; rfl) hi hG.2, (h.r10.setRowO h.ne G).st0 rfl (by kernel_rfl) (by kernel_rfl), h.r10.st0 rfl (by kernel_rfl) (by kernel_rfl), (h.r9.setRowO (Ne.symm h.ne) _).st0 (by rw [hG.1]; rfl) hi hG.2⟩
theorem Duo.two1 (w : World) : Duo ((w.alloc (.cells rgZ 36)).alloc (.cells trZ 64)) w.heap.size (w.heap.size + 1) := by
  have := row_new (w.alloc (.cells rgZ 36)) 64 trZ
  rw [size_alloc1] at this
  exact ⟨(row_new w _ _).alloc _, this, by omega⟩
theorem Duo.two2 (w : World) : Duo ((w.alloc (.cells trZ 64)).alloc (.cells rgZ 36)) (w.heap.size + 1) w.heap.size := by
  have := row_new (w.alloc (.cells trZ 64)) 36 rgZ
  rw [size_alloc1] at this
  exact ⟨this, (row_new w _ _).alloc _, by omega⟩
theorem Duo.fin {W : World} {b9 b10 : Nat} (h : Duo W b9 b10) (G T : Array Value) : Row ((W.setRow b9 G).setRow b10 T) b9 36 G ∧ Row ((W.setRow b9 G).setRow b10 T) b10 64 T :=
  ⟨(h.r9.setRow G).setRowO (Ne.symm h.ne) T, (h.r10.setRowO h.ne G).setRow T⟩
theorem Duo.far {S : Nat → Prop} {W W' : World} {b9 b10 : Nat} (h : Duo W b9 b10) (hu : Upd S W W') (h9 : ¬ S b9) (h10 : ¬ S b10) : Duo W' b9 b10 := ⟨h.r9.upd hu h9, h.r10.upd hu h10, h.ne⟩
section
variable {w w0 : World} {k : KC} {s : KSt} {p : Nat}
theorem KT.ldreg (h : KT w k s) (hp : p ≤ 16) {g : CpuLaw.G} (hr : RegsAt s.c (8 + p * 38 + 1) g) : (ldR 36 (.pointer (some ⟨k.K, 8 + p * 38 + 1, none⟩))).run Tryz.prog w = .ok (.agg (CpuLaw.cellsA g)) w := by
  rw [Row.ld h.kr (o := 8 + p * 38 + 1) (n := 10) (by rw [kerA_size]; omega) Tryz.underlying36 rfl (by kernel_rfl), regs_ext (by omega) hr]
/-- a process that may have its turn: its space, its registers, the instruction that is next -/
structure Turn (s : KSt) (p : Nat) (g : CpuLaw.G) (s1 : Int) (b x : Nat) (op : Int) (A B : Nat) (C : Int) : Prop where
  aw : Awake s p
  rg : RegsAt s.c (8 + p * 38 + 1) g
  sp : s.c (8 + p * 38) = .int .i64 s1
  wf : (Lit.int .i64 s1).wf = true
  ms : s.m.S s1 = some b
  len : (s.m.pl.length : Int) ≤ s.fr
  wd : CpuLaw.WordAt s.m b g.pc x
  dc : CodeLaw.decR x = (⟨op, A, B, C⟩, 0)
  hA : A < 8
  hB : B < 8
  hop : op = 14 ∨ op = 19
attribute [local go_sem ↓] ld_rg st_rg st_tr
set_option maxRecDepth 100000 in
set_option maxHeartbeats 2000000 in
theorem kstep_yes (h : KT w k s) {c i : Nat} {x : Tk} (hc : c < s.nc) (ho : onG s.l c = some i) (hx : s.l[i]? = some x) (hxp : x.t = p) {g : CpuLaw.G} {s1 : Int} {b y : Nat} {op C : Int} {A B : Nat} (ht : Turn s p g s1 b y op A B C) :
    Calls Tryz.prog 16 #[.pointer (some ⟨k.K, 0, none⟩), .int .i64 c] w fun e w' => e = .returned (.tuple #[.int .i64 p, .agg #[.int .i64 0, .int .u32 0]]) ∧ ∃ h' tag', KG s k w w' { s with c := putRg s.c (8 + p * 38 + 1) (CpuLaw.exG g op A B C), m := { s.m with h := h' }, tag := tag' } := by
  have hal := Go.Joins.below_alloc1 w (.cells #[.int .i64 0, .int .u32 0] 64)
  have hk := h.keep hal
  have q4 : (w.alloc (.cells #[.int .i64 0, .int .u32 0] 64)).cell? ⟨k.K, 4, none⟩ = some (.pointer (some ⟨k.R, 0, none⟩)) := by rw [hk.kr.cell (by decide), hk.c4]
  have HP := Lib.hid (pick_yes hk.ru hc ho hx)
  rw [hxp] at HP
  have HH := Lib.hid (handledP_is hk ht.aw)
  have HS := Lib.hid (row_new w 64 #[.int .i64 0, .int .u32 0])
  have HB := Lib.hid hal
  have HK := Lib.hid hk
  have HT := Lib.hid ht
  have HZ : Hid (∀ j, w.heap.size ≤ j → s.tag j = 0) := Lib.hid h.tz
  have HK0 := Lib.hid h
  have p17 : (p : Int) < 17 := by have := ht.aw.p16; omega
  clear h hk hal ho hc hx hxp ht
  go_enter Tryz.func16, Tryz.ntmps16
  go_upto_region 1 with fail
  obtain ⟨n, hn⟩ : ∃ n, n = w.heap.size := ⟨_, rfl⟩
  rw [← hn] at HS ⊢
  have HN : Hid (w.heap.size ≤ n) := Lib.hid (by omega)
  clear hn
  generalize w.alloc (.cells #[.int .i64 0, .int .u32 0] 64) = W0 at *
  go_upto_region 7 with (first | (go_at_call 43; refine HP.out.mono ?_; rintro e1 w1 ⟨rfl, rfl⟩) | (go_at_call 44; refine HH.out.mono ?_; rintro e2 w2 ⟨rfl, hb2⟩))
  have HK2 := Lib.hid (HK.out.keep hb2)
  have HS2 := Lib.hid (HS.out.keep hb2)
  have HB2 := Lib.hid (HB.out.trans (hb2.mono HB.out.size))
  clear HK HS HB hb2 HP HH q4
  have HQ2 : Hid (CpuLaw.MemQ k.M k.so s.fr s.sl s.m w2) := Lib.hid ⟨s.m.h, HK2.out.me⟩
  have HL : Hid (∀ wx, Upd (CpuLaw.memS k.M s.m) w2 wx → wx.cell? ⟨k.K, 1, none⟩ = some (.pointer (some ⟨k.M, 0, none⟩)) ∧ wx.cell? ⟨k.K, 8 + p * 38, none⟩ = some (.int .i64 s1) ∧ (ldR 36 (.pointer (some ⟨k.K, 8 + p * 38 + 1, none⟩))).run Tryz.prog wx = .ok (.agg (CpuLaw.cellsA g)) wx) := Lib.hid fun wx hu => by
    have hkr : KR wx k.K s.c := HK2.out.kr.upd hu (fun e => by
      rcases e with e | e
      · have a := HK2.out.tK; rw [e, HK2.out.tM k.M (.inl rfl)] at a; cases a
      · have a := HK2.out.tK; rw [HK2.out.tM k.K (.inr (.inr (.inr (.inr e))))] at a; cases a)
    have p16 := HT.out.aw.p16
    refine ⟨by rw [hkr.cell (by decide), HK2.out.c1], by rw [hkr.cell (by omega), HT.out.sp], ?_⟩
    rw [Row.ld hkr (o := 8 + p * 38 + 1) (n := 10) (by rw [kerA_size]; omega) Tryz.underlying36 rfl (by kernel_rfl), regs_ext (by omega) HT.out.rg]
  have HST : Hid (∀ wx, CpuLaw.MemQ k.M k.so s.fr s.sl s.m wx → Calls Tryz.prog 45 #[.agg (CpuLaw.cellsA g), CpuLaw.kbus k.M s1] wx fun e w' => e = .returned (.tuple #[.agg (CpuLaw.cellsA (CpuLaw.exG g op A B C)), .agg #[.int .i64 0, .int .u32 0]]) ∧ Upd (CpuLaw.memS k.M s.m) wx w' ∧ CpuLaw.MemQ k.M k.so s.fr s.sl s.m w') := Lib.hid fun wx hq => CpuLaw.cstep_is hq HT.out.ms HT.out.wf HT.out.len HT.out.wd HT.out.dc HT.out.hA HT.out.hB HT.out.hop
  have HG3 : Hid (RgA (CpuLaw.cellsA (CpuLaw.exG g op A B C))) := Lib.hid ⟨rfl, CpuLaw.cellsA_one _⟩
  have HPR : Hid (∀ o, putRg s.c o (CpuLaw.exG g op A B C) = fun j => if o ≤ j ∧ j < o + 10 then ((CpuLaw.cellsA (CpuLaw.exG g op A B C))[j - o]?).getD undef else s.c j) := Lib.hid fun o => rfl
  generalize CpuLaw.cellsA (CpuLaw.exG g op A B C) = G3 at *
  obtain ⟨Q, hQd⟩ : ∃ Q, Q = CpuLaw.MemQ k.M k.so s.fr s.sl s.m := ⟨_, rfl⟩
  obtain ⟨S0, hSd⟩ : ∃ S0, S0 = CpuLaw.memS k.M s.m := ⟨_, rfl⟩
  have HQK : Hid (∀ w w', Q w → Below w.heap.size w w' → Q w') := Lib.hid (by rw [hQd]; exact (CpuLaw.calmK HQ2.out).keep)
  have HQO : Hid (∀ w w' d, Q w → w2.heap.size ≤ d → CpuLaw.Off d w w' → Q w') := Lib.hid (by rw [hQd]; exact (CpuLaw.calmK HQ2.out).own)
  have HS0L : Hid (∀ k, S0 k → k < w2.heap.size) := Lib.hid (by rw [hSd]; exact (CpuLaw.calmK HQ2.out).low)
  rw [← hQd] at HQ2 HST
  rw [← hSd] at HL HST
  have HQD := Lib.hid hQd
  have HSD := Lib.hid hSd
  clear hQd hSd
  have HSA : Hid (∀ wx, Upd S0 w2 wx → Q wx → (Upd S0 w2 wx ∧ Q wx ∧ wx.cell? ⟨k.K, 1, none⟩ = some (.pointer (some ⟨k.M, 0, none⟩)) ∧ wx.cell? ⟨k.K, 8 + p * 38, none⟩ = some (.int .i64 s1) ∧ (ldR 36 (.pointer (some ⟨k.K, 8 + p * 38 + 1, none⟩))).run Tryz.prog wx = .ok (.agg (CpuLaw.cellsA g)) wx)) := Lib.hid fun wx hu hq => ⟨hu, hq, HL.out wx hu⟩
  have HDr : Hid (∀ wx n, (Upd S0 w2 wx ∧ Q wx ∧ wx.cell? ⟨k.K, 1, none⟩ = some (.pointer (some ⟨k.M, 0, none⟩)) ∧ wx.cell? ⟨k.K, 8 + p * 38, none⟩ = some (.int .i64 s1) ∧ (ldR 36 (.pointer (some ⟨k.K, 8 + p * 38 + 1, none⟩))).run Tryz.prog wx = .ok (.agg (CpuLaw.cellsA g)) wx) → _) := Lib.hid fun wx n h => HSA.out (wx.drewN n) (h.1.trans (Upd.drewN _ _)) (HQK.out _ _ h.2.1 (below_drewN (Below.refl _ _) n))
  have HAl : Hid (∀ wx o, (Upd S0 w2 wx ∧ Q wx ∧ wx.cell? ⟨k.K, 1, none⟩ = some (.pointer (some ⟨k.M, 0, none⟩)) ∧ wx.cell? ⟨k.K, 8 + p * 38, none⟩ = some (.int .i64 s1) ∧ (ldR 36 (.pointer (some ⟨k.K, 8 + p * 38 + 1, none⟩))).run Tryz.prog wx = .ok (.agg (CpuLaw.cellsA g)) wx) → _) := Lib.hid fun wx o h => HSA.out (wx.alloc o) (h.1.trans (Upd.alloc _ _)) (HQK.out _ _ h.2.1 (Go.Joins.below_alloc1 _ _))
  have HN0 : Hid (∀ j, w2.heap.size ≤ j → ¬ S0 j) := Lib.hid fun j hj e => by have := HS0L.out j e; omega
  have HU5 : Hid (∀ w9, Upd S0 ((w2.alloc (.cells rgZ 36)).alloc (.cells trZ 64)).drew w9 → Duo w9 w2.heap.size (w2.heap.size + 1)) := Lib.hid fun w9 hu => (Duo.two1 w2).far (W' := w9) (S := S0) ((Upd.drew _).trans hu) (HN0.out _ (Nat.le_refl _)) (HN0.out _ (Nat.le_succ _))
  have HU6 : Hid (∀ w9, Upd S0 ((w2.alloc (.cells trZ 64)).alloc (.cells rgZ 36)).drew w9 → Duo w9 (w2.heap.size + 1) w2.heap.size) := Lib.hid fun w9 hu => (Duo.two2 w2).far (W' := w9) (S := S0) ((Upd.drew _).trans hu) (HN0.out _ (Nat.le_succ _)) (HN0.out _ (Nat.le_refl _))
  have HU3 : Hid (∀ w9, Upd S0 (w2.alloc (.cells rgZ 36)).drew w9 → Duo (w9.alloc (.cells trZ 64)) w2.heap.size w9.heap.size) := Lib.hid fun w9 hu => ⟨((row_new w2 _ _).drew.upd hu (HN0.out _ (Nat.le_refl _))).alloc _, row_new _ _ _, by have := hu.size; have e : ∀ o, (w2.alloc o).drew.heap.size = w2.heap.size + 1 := fun o => size_alloc1 w2 o; rw [e] at this; omega⟩
  have HU4 : Hid (∀ w9, Upd S0 (w2.alloc (.cells trZ 64)).drew w9 → Duo (w9.alloc (.cells rgZ 36)) w9.heap.size w2.heap.size) := Lib.hid fun w9 hu => ⟨row_new _ _ _, ((row_new w2 _ _).drew.upd hu (HN0.out _ (Nat.le_refl _))).alloc _, by have := hu.size; have e : ∀ o, (w2.alloc o).drew.heap.size = w2.heap.size + 1 := fun o => size_alloc1 w2 o; rw [e] at this; omega⟩
  have HD5 : Hid (∀ w9, Upd S0 ((w2.alloc (.cells rgZ 36)).alloc (.cells trZ 64)).drew w9 → _) := Lib.hid fun w9 hu => (HU5.out w9 hu).eqs HG3.out
  have HD6 : Hid (∀ w9, Upd S0 ((w2.alloc (.cells trZ 64)).alloc (.cells rgZ 36)).drew w9 → _) := Lib.hid fun w9 hu => (HU6.out w9 hu).eqs HG3.out
  have HD3 : Hid (∀ w9, Upd S0 (w2.alloc (.cells rgZ 36)).drew w9 → _) := Lib.hid fun w9 hu => (HU3.out w9 hu).eqs HG3.out
  have HD4 : Hid (∀ w9, Upd S0 (w2.alloc (.cells trZ 64)).drew w9 → _) := Lib.hid fun w9 hu => (HU4.out w9 hu).eqs HG3.out
  have D1 := fun wx => ((Duo.two1 wx).eqs HG3.out).1
  have D2 := fun wx => ((Duo.two1 wx).eqs HG3.out).2.1
  have D3 := fun wx => ((Duo.two1 wx).eqs HG3.out).2.2.1
  have D4 := fun wx => ((Duo.two1 wx).eqs HG3.out).2.2.2
  have D5 := fun wx => ((Duo.two2 wx).eqs HG3.out).1
  have D6 := fun wx => ((Duo.two2 wx).eqs HG3.out).2.1
  have D7 := fun wx => ((Duo.two2 wx).eqs HG3.out).2.2.1
  have D8 := fun wx => ((Duo.two2 wx).eqs HG3.out).2.2.2
  simp only [rgZ, trZ] at D1 D2 D3 D4 D5 D6 D7 D8 HD3 HD4 HD5 HD6 HU3 HU4 HU5 HU6
  have HRw : Hid (∀ wx b C, (w2.heap.size ≤ b) → (Upd S0 w2 wx ∧ Q wx ∧ wx.cell? ⟨k.K, 1, none⟩ = some (.pointer (some ⟨k.M, 0, none⟩)) ∧ wx.cell? ⟨k.K, 8 + p * 38, none⟩ = some (.int .i64 s1) ∧ (ldR 36 (.pointer (some ⟨k.K, 8 + p * 38 + 1, none⟩))).run Tryz.prog wx = .ok (.agg (CpuLaw.cellsA g)) wx) → _) := Lib.hid fun wx b C hb h => HSA.out (wx.setRow b C) (CpuLaw.Off.upd h.1 (CpuLaw.Off.setRow wx b C) hb) (HQO.out _ _ b h.2.1 hb (CpuLaw.Off.setRow wx b C))
  have HD0 := Lib.hid (HSA.out w2.drew (Upd.drew _) (HQK.out _ _ HQ2.out (Below.refl _ _).drew))
  have HDA := Lib.hid (fun o => HSA.out (w2.alloc o).drew ((Upd.alloc _ _).trans (Upd.drew _)) (HQK.out _ _ (HQK.out _ _ HQ2.out (Go.Joins.below_alloc1 _ _)) (Below.refl _ _).drew))
  have HDB := Lib.hid (fun o o' => HSA.out ((w2.alloc o).alloc o').drew (((Upd.alloc _ _).trans (Upd.alloc _ _)).trans (Upd.drew _)) (HQK.out _ _ (HQK.out _ _ (HQK.out _ _ HQ2.out (Go.Joins.below_alloc1 _ _)) (Go.Joins.below_alloc1 _ _)) (Below.refl _ _).drew))
  go_cut [9, 10] (fun a9 a10 wx => ∃ b9 b10, a9 = .pointer (some ⟨b9, 0, none⟩) ∧ a10 = .pointer (some ⟨b10, 0, none⟩) ∧ w2.heap.size ≤ b9 ∧ w2.heap.size ≤ b10 ∧ b9 ≠ b10 ∧ Row wx b9 36 G3 ∧ Row wx b10 64 #[.int .i64 0, .int .u32 0] ∧ Upd S0 w2 wx ∧ Q wx)
  case first =>
    go_region_held3 (fun wx => Upd S0 w2 wx ∧ Q wx ∧ wx.cell? ⟨k.K, 1, none⟩ = some (.pointer (some ⟨k.M, 0, none⟩)) ∧ wx.cell? ⟨k.K, 8 + p * 38, none⟩ = some (.int .i64 s1) ∧ (ldR 36 (.pointer (some ⟨k.K, 8 + p * 38 + 1, none⟩))).run Tryz.prog wx = .ok (.agg (CpuLaw.cellsA g)) wx)
      (first | assumption | (with_reducible exact HD0.out) | (with_reducible exact HDA.out _) | (with_reducible exact HDB.out _ _) | (with_reducible exact HDr.out _ _ ‹_›) | (with_reducible exact HAl.out _ _ ‹_›) | (with_reducible refine HRw.out _ _ _ ?_ ‹_›; first | exact Nat.le_refl _ | exact Nat.le_succ _ | assumption | (exact Nat.le_succ_of_le ‹_›)) | go_keep)
      (first | (go_at_call 45; refine (HST.out _ (‹Upd S0 w2 _ ∧ Q _ ∧ _›).2.1).mono ?_; rintro e9 w9 ⟨rfl, hu9, hq9⟩; have hS := HSA.out w9 ((‹Upd S0 w2 _ ∧ Q _ ∧ _›).1.trans hu9) hq9; have hz9 : w2.heap.size ≤ w9.heap.size := hS.1.size; first | (have hD := HU5.out w9 hu9; have f1 := (HD5.out w9 hu9).1; have f2 := (HD5.out w9 hu9).2.1; have f3 := (HD5.out w9 hu9).2.2.1; have f4 := (HD5.out w9 hu9).2.2.2) | (have hD := HU6.out w9 hu9; have f1 := (HD6.out w9 hu9).1; have f2 := (HD6.out w9 hu9).2.1; have f3 := (HD6.out w9 hu9).2.2.1; have f4 := (HD6.out w9 hu9).2.2.2) | (have hD := HU3.out w9 hu9; have f1 := (HD3.out w9 hu9).1; have f2 := (HD3.out w9 hu9).2.1; have f3 := (HD3.out w9 hu9).2.2.1; have f4 := (HD3.out w9 hu9).2.2.2) | (have hD := HU4.out w9 hu9; have f1 := (HD4.out w9 hu9).1; have f2 := (HD4.out w9 hu9).2.1; have f3 := (HD4.out w9 hu9).2.2.1; have f4 := (HD4.out w9 hu9).2.2.2) | skip))
    all_goals go_wp2
    all_goals go_meet
    all_goals have hF := (‹Upd S0 w2 _ ∧ Q _ ∧ _›)
    all_goals first
      | exact ⟨_, _, rfl, rfl, hz9, Nat.le_succ_of_le hz9, by omega, (Duo.two1 w9).fin _ _ |>.1, (Duo.two1 w9).fin _ _ |>.2, hF.1, hF.2.1⟩
      | exact ⟨_, _, rfl, rfl, Nat.le_succ_of_le hz9, hz9, by omega, (Duo.two2 w9).fin _ _ |>.1, (Duo.two2 w9).fin _ _ |>.2, hF.1, hF.2.1⟩
      | exact ⟨_, _, rfl, rfl, Nat.le_refl _, hz9, hD.ne, (hD.fin _ _).1, (hD.fin _ _).2, hF.1, hF.2.1⟩
      | exact ⟨_, _, rfl, rfl, hz9, Nat.le_refl _, hD.ne, (hD.fin _ _).1, (hD.fin _ _).2, hF.1, hF.2.1⟩
      | exact ⟨_, _, rfl, rfl, Nat.le_refl _, Nat.le_succ _, hD.ne, (hD.fin _ _).1, (hD.fin _ _).2, hF.1, hF.2.1⟩
      | exact ⟨_, _, rfl, rfl, Nat.le_succ _, Nat.le_refl _, hD.ne, (hD.fin _ _).1, (hD.fin _ _).2, hF.1, hF.2.1⟩
  case rest =>
    obtain ⟨b9, b10, rfl, rfl, hb9, hb10, hbn, hr9, hr10, hu, hq⟩ := hcut
    have hS0n : ∀ j, S0 j → s.tag j = 6 := fun j e => by
      rw [HSD.out] at e
      rcases e with e | e
      · rw [e]; exact HK2.out.tM _ (.inl rfl)
      · exact HK2.out.tM _ (.inr (.inr (.inr (.inr e))))
    have hnS : ∀ j, s.tag j ≠ 6 → ¬ S0 j := fun j hj e => hj (hS0n j e)
    have hkr : KR wc k.K s.c := HK2.out.kr.upd hu (hnS _ (by rw [HK2.out.tK]; decide))
    have hsl := HS2.out.upd hu (hnS _ (by rw [HZ.out n HN.out]; decide))
    have l9 := hr9.ld0 Tryz.underlying36 rfl (by rw [HG3.out.1]; kernel_rfl)
    have d0 : wc.cell? ⟨b10, 0, none⟩ = some (.int .i64 0) := hr10.cell 0
    have st9 := Row.st hkr (o := 8 + p * 38 + 1) (U := 36) (cs := G3) (by rw [kerA_size, HG3.out.1]; have := HT.out.aw.p16; omega) (by rw [HG3.out.1]; kernel_rfl) HG3.out.2
    have hkr2 := hkr.putN (o := 8 + p * 38 + 1) (n := 10) (by have := HT.out.aw.p16; omega) HG3.out.1
    have hKb : k.K ≠ b10 := fun e => by have := HK2.out.kr.lt; omega
    have hKn : k.K ≠ n := fun e => by have := HK0.out.kr.lt; have := HN.out; omega
    have hr10b := hr10.setRowO hKb (putA (kerA s.c) (8 + p * 38 + 1) G3.toList)
    have hslb := hsl.setRowO hKn (putA (kerA s.c) (8 + p * 38 + 1) G3.toList)
    have HUK : Hid (Upd (fun j => j = k.K) wc (wc.setRow k.K (putA (kerA s.c) (8 + p * 38 + 1) G3.toList))) := Lib.hid (Upd.setRow _ _ rfl)
    have HKR2 := Lib.hid hkr2
    have HUC := Lib.hid hu
    have HQC := Lib.hid hq
    have HSL := Lib.hid hslb
    have HR10 := Lib.hid hr10b
    have HSN := Lib.hid hnS
    have HS6 := Lib.hid hS0n
    clear hr9 hr10 hu hq hS0n hnS hkr hsl hkr2 hKb hr10b hslb hb9 hb10 hbn D1 D2 D3 D4 D5 D6 D7 D8
    go_upto_region 19 with fail
    generalize wc.setRow k.K (putA (kerA s.c) (8 + p * 38 + 1) G3.toList) = W5 at *
    clear l9 st9 d0
    have d0 := HR10.out.drew.cell 0
    have d1 := HR10.out.drew.cell 1
    have stn := HSL.out.drew.st0 (cs := #[.int .i64 0, .int .u32 0]) rfl (by kernel_rfl) (by kernel_rfl)
    go_region
    go_wp2_with fail
    have hrn := HSL.out.drew.setRow #[.int .i64 0, .int .u32 0]
    have e0 := hrn.cell 0
    have e1 := hrn.cell 1
    have q0 := HQC.out
    rw [HQD.out] at q0
    obtain ⟨h', hm⟩ := q0
    have hum : Upd (mB k.M k.so s.m) w2 wc := HUC.out.mono fun j _ e => by
      rw [HSD.out] at e
      rcases e with e | e
      · exact .inl e
      · exact .inr (.inr (.inr (.inr e)))
    have k2 := (HK0.out.start).keep HB2.out
    have k3 := k2.step (HK2.out.mem hm hum (fun j e => .inl e)) hum (fun j e => by rw [HK2.out.tM j e]; decide) (fun j e => by
      rcases Nat.lt_or_ge j w2.heap.size with q | q
      · have e : tg s.tag w2.heap.size (mB k.M k.so { s.m with h := h' }) 6 j ≠ 0 := e
        rw [tg_old q] at e; exact .inl e
      · exact .inr q)
    have hcells := k3.kt.cells (c' := putRg s.c (8 + p * 38 + 1) (CpuLaw.exG g op A B C)) (cw' := s.cw) (tag' := tg s.tag w2.heap.size (mB k.M k.so { s.m with h := h' }) 6) (by rw [HPR.out]; exact HKR2.out) HUK.out (fun j hj => by unfold putRg; rw [if_neg (by omega)]) (fun _ _ => rfl) (fun j hj => k3.kt.tz j (Nat.le_trans HUK.out.size hj)) (fun p' b' hb' => by
      obtain ⟨⟨cp, h1⟩, h2, h3, h4⟩ := k3.kt.cw p' b' hb'
      have hbK : b' ≠ k.K := fun e => by rw [e, k3.kt.tK] at h4; exact absurd h4 (by decide)
      exact ⟨⟨cp, by unfold putRg; rw [if_neg (by omega)]; exact h1⟩, (HUK.out.cell h3 hbK).trans h2, Nat.lt_of_lt_of_le h3 HUK.out.size, h4⟩)
    have k4 := k3.step hcells HUK.out (fun j e => by rw [e, k3.kt.tK]; decide) (fun j e => .inl e)
    have k5 := k4.keep (Below.refl _ _).drew
    have hnlt : n < w2.heap.size := by
      have := HS2.out.lt
      exact this
    have k6 := k5.own (n := n) (w2 := W5.drew.setRow n #[.int .i64 0, .int .u32 0]) (Upd.setRow _ _ rfl) HN.out (by show tg s.tag w2.heap.size _ 6 n = 0; rw [tg_old hnlt]; exact HZ.out n HN.out)
    generalize W5.drew.setRow n #[.int .i64 0, .int .u32 0] = WF at *
    exact bodyPost_ret (v := .tuple #[.int .i64 p, .agg #[.int .i64 0, .int .u32 0]]) (by simp [results, Tryz.results16, go_sem, e0, e1]) rfl ⟨rfl, _, _, k6⟩
end
end Go.Proofs.YtnbhohaphmilmaaGreatDoor
