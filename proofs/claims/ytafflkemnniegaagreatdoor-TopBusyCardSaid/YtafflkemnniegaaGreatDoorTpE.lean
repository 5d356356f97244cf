/- The walk of kernel.Step: a process has its turn. The memory while processes are made: each has a program that goes round. No walk here. The plain law of ringtop.TopTurnsGo: who has had how many turns. No walk here. -/
import Derived.Test.YtafflkemnniegaaGreatDoorKerSt
import Derived.Test.YtafflkemnniegaaGreatDoorWhA
import Derived.Test.YtafflkemnniegaaGreatDoorCpuA
import Derived.Test.YtafflkemnniegaaGreatDoorKerT
import Derived.Test.YtafflkemnniegaaGreatDoorSprU
import Derived.Test.YtafflkemnniegaaGreatDoorSprF
namespace Go.Proofs.YtafflkemnniegaaGreatDoor
open Go.RowKit
set_option linter.unusedVariables false
set_option linter.unusedSimpArgs false
/-- the registers of a task, from cell o on -/
def RegsAt (c : Nat → Value) (o : Nat) (g : CpuLaw.G) : Prop := ∀ j, j < 10 → c (o + j) = ((CpuLaw.cellsA g)[j]?).getD undef
theorem regs_ext {c : Nat → Value} {o : Nat} {g : CpuLaw.G} (ho : o + 10 ≤ 655) (h : RegsAt c o g) : (kerA c).extract o (o + 10) = CpuLaw.cellsA g := by
  apply Array.ext
  · simp [kerA_size]; rw [Nat.min_eq_left ho]; simp; rfl
  · intro i h1 h2
    have hi : i < 10 := by simp [kerA_size] at h1; omega
    simp only [Array.getElem_extract, kerA, Array.getElem_ofFn]
    rw [h i hi, Array.getElem?_eq_getElem h2]
    rfl
/-- the cells with other registers from o on -/
def putRg (c : Nat → Value) (o : Nat) (g : CpuLaw.G) : Nat → Value := fun j => if o ≤ j ∧ j < o + 10 then ((CpuLaw.cellsA g)[j - o]?).getD undef else c j
theorem ld_rg (v : Value) : Instr.loadAt 60 v = ldR 60 v := rfl
theorem st_rg (p v : Value) : Instr.storeAt 60 p v = stR 60 p v := rfl
theorem st_tr (p v : Value) : Instr.storeAt 42 p v = stR 42 p v := rfl
def rgZ : Array Value := #[.int .u32 0, .int .u32 0, .int .u32 0, .int .u32 0, .int .u32 0, .int .u32 0, .int .u32 0, .int .u32 0, .int .u32 0, .int .i64 0]
def trZ : Array Value := #[.int .i64 0, .int .u32 0]
/-- a new row of registers, and one of a trap -/
structure Duo (W : World) (b9 b10 : Nat) : Prop where
  r9 : Row W b9 60 rgZ
  r10 : Row W b10 42 trZ
  ne : b9 ≠ b10
def RgA (G : Array Value) : Prop := G.size = 10 ∧ G.all (·.oneCell') = true
theorem Duo.eqs {W : World} {b9 b10 : Nat} (h : Duo W b9 b10) {G : Array Value} (hG : RgA G) :
    (stR 60 (.pointer (some ⟨b9, 0, none⟩)) (.agg G)).run Tryz.prog W = .ok () (W.setRow b9 G) ∧
    (stR 42 (.pointer (some ⟨b10, 0, none⟩)) (.agg #[.int .i64 0, .int .u32 0])).run Tryz.prog (W.setRow b9 G) = .ok () ((W.setRow b9 G).setRow b10 #[.int .i64 0, .int .u32 0]) ∧
    (stR 42 (.pointer (some ⟨b10, 0, none⟩)) (.agg #[.int .i64 0, .int .u32 0])).run Tryz.prog W = .ok () (W.setRow b10 #[.int .i64 0, .int .u32 0]) ∧
    (stR 60 (.pointer (some ⟨b9, 0, none⟩)) (.agg G)).run Tryz.prog (W.setRow b10 #[.int .i64 0, .int .u32 0]) = .ok () ((W.setRow b10 #[.int .i64 0, .int .u32 0]).setRow b9 G) := by
  have hi : (Tryz.prog.info? 60).map (·.size) = some G.size := by rw [hG.1]; kernel_rfl
  exact ⟨h.r9.st0 (by rw [hG.1]; rfl) hi hG.2, (h.r10.setRowO h.ne G).st0 rfl (by kernel_rfl) (by kernel_rfl), h.r10.st0 rfl (by kernel_rfl) (by kernel_rfl), (h.r9.setRowO (Ne.symm h.ne) _).st0 (by rw [hG.1]; rfl) hi hG.2⟩
theorem Duo.two1 (w : World) : Duo ((w.alloc (.cells rgZ 60)).alloc (.cells trZ 42)) w.heap.size (w.heap.size + 1) := by
  have := row_new (w.alloc (.cells rgZ 60)) 42 trZ
  rw [size_alloc1] at this
  exact ⟨(row_new w _ _).alloc _, this, by omega⟩
theorem Duo.two2 (w : World) : Duo ((w.alloc (.cells trZ 42)).alloc (.cells rgZ 60)) (w.heap.size + 1) w.heap.size := by
  have := row_new (w.alloc (.cells trZ 42)) 60 rgZ
  rw [size_alloc1] at this
  exact ⟨this, (row_new w _ _).alloc _, by omega⟩
theorem Duo.fin {W : World} {b9 b10 : Nat} (h : Duo W b9 b10) (G T : Array Value) : Row ((W.setRow b9 G).setRow b10 T) b9 60 G ∧ Row ((W.setRow b9 G).setRow b10 T) b10 42 T :=
  ⟨(h.r9.setRow G).setRowO (Ne.symm h.ne) T, (h.r10.setRowO h.ne G).setRow T⟩
theorem Duo.far {S : Nat → Prop} {W W' : World} {b9 b10 : Nat} (h : Duo W b9 b10) (hu : Upd S W W') (h9 : ¬ S b9) (h10 : ¬ S b10) : Duo W' b9 b10 := ⟨h.r9.upd hu h9, h.r10.upd hu h10, h.ne⟩
section
variable {w w0 : World} {k : KC} {s : KSt} {p : Nat}
theorem KT.ldreg (h : KT w k s) (hp : p ≤ 16) {g : CpuLaw.G} (hr : RegsAt s.c (8 + p * 38 + 1) g) : (ldR 60 (.pointer (some ⟨k.K, 8 + p * 38 + 1, none⟩))).run Tryz.prog w = .ok (.agg (CpuLaw.cellsA g)) w := by
  rw [Row.ld h.kr (o := 8 + p * 38 + 1) (n := 10) (by rw [kerA_size]; omega) Tryz.underlying60 rfl (by kernel_rfl), regs_ext (by omega) hr]
/-- a process that may have its turn: its space, its registers, the instruction that is next -/
structure Turn (s : KSt) (p : Nat) (g : CpuLaw.G) (s1 : Int) (b x : Nat) (op : Int) (A B : Nat) (C : Int) : Prop where
  aw : Awake s p
  rg : RegsAt s.c (8 + p * 38 + 1) g
  sp : s.c (8 + p * 38) = .int .i64 s1
  wf : (Lit.int .i64 s1).wf = true
  ms : s.m.S s1 = some b
  len : (s.m.pl.length : Int) ≤ s.fr
  wd : CpuLaw.WordAt s.m b g.pc x
  dc : CodeLaw.decR x = (⟨op, A, B, C⟩, 0)
  hA : A < 8
  hB : B < 8
  hop : op = 14 ∨ op = 19
attribute [local go_sem ↓] ld_rg st_rg st_tr
set_option maxRecDepth 100000 in
set_option maxHeartbeats 2000000 in
theorem kstep_yes (h : KT w k s) {c i : Nat} {x : Tk} (hc : c < s.nc) (ho : onG s.l c = some i) (hx : s.l[i]? = some x) (hxp : x.t = p) {g : CpuLaw.G} {s1 : Int} {b y : Nat} {op C : Int} {A B : Nat} (ht : Turn s p g s1 b y op A B C) :
    Calls Tryz.prog 8 #[.pointer (some ⟨k.K, 0, none⟩), .int .i64 c] w fun e w' => e = .returned (.tuple #[.int .i64 p, .agg #[.int .i64 0, .int .u32 0]]) ∧ ∃ h' tag', KG s k w w' { s with c := putRg s.c (8 + p * 38 + 1) (CpuLaw.exG g op A B C), m := { s.m with h := h' }, tag := tag' } := by
  have hal := Go.Joins.below_alloc1 w (.cells #[.int .i64 0, .int .u32 0] 42)
  have hk := h.keep hal
  have q4 : (w.alloc (.cells #[.int .i64 0, .int .u32 0] 42)).cell? ⟨k.K, 4, none⟩ = some (.pointer (some ⟨k.R, 0, none⟩)) := by rw [hk.kr.cell (by decide), hk.c4]
  have HP := Lib.hid (pick_yes hk.ru hc ho hx)
  rw [hxp] at HP
  have HH := Lib.hid (handledP_is hk ht.aw)
  have HS := Lib.hid (row_new w 42 #[.int .i64 0, .int .u32 0])
  have HB := Lib.hid hal
  have HK := Lib.hid hk
  have HT := Lib.hid ht
  have HZ : Hid (∀ j, w.heap.size ≤ j → s.tag j = 0) := Lib.hid h.tz
  have HK0 := Lib.hid h
  have p17 : (p : Int) < 17 := by have := ht.aw.p16; omega
  clear h hk hal ho hc hx hxp ht
  go_enter Tryz.func8, Tryz.ntmps8
  go_upto_region 1 with fail
  obtain ⟨n, hn⟩ : ∃ n, n = w.heap.size := ⟨_, rfl⟩
  rw [← hn] at HS ⊢
  have HN : Hid (w.heap.size ≤ n) := Lib.hid (by omega)
  clear hn
  generalize w.alloc (.cells #[.int .i64 0, .int .u32 0] 42) = W0 at *
  go_upto_region 7 with (first | (go_at_call 22; refine HP.out.mono ?_; rintro e1 w1 ⟨rfl, rfl⟩) | (go_at_call 23; refine HH.out.mono ?_; rintro e2 w2 ⟨rfl, hb2⟩))
  have HK2 := Lib.hid (HK.out.keep hb2)
  have HS2 := Lib.hid (HS.out.keep hb2)
  have HB2 := Lib.hid (HB.out.trans (hb2.mono HB.out.size))
  clear HK HS HB hb2 HP HH q4
  have HQ2 : Hid (CpuLaw.MemQ k.M k.so s.fr s.sl s.m w2) := Lib.hid ⟨s.m.h, HK2.out.me⟩
  have HL : Hid (∀ wx, Upd (CpuLaw.memS k.M s.m) w2 wx → wx.cell? ⟨k.K, 1, none⟩ = some (.pointer (some ⟨k.M, 0, none⟩)) ∧ wx.cell? ⟨k.K, 8 + p * 38, none⟩ = some (.int .i64 s1) ∧ (ldR 60 (.pointer (some ⟨k.K, 8 + p * 38 + 1, none⟩))).run Tryz.prog wx = .ok (.agg (CpuLaw.cellsA g)) wx) := Lib.hid fun wx hu => by
    have hkr : KR wx k.K s.c := HK2.out.kr.upd hu (fun e => by
      rcases e with e | e
      · have a := HK2.out.tK; rw [e, HK2.out.tM k.M (.inl rfl)] at a; cases a
      · have a := HK2.out.tK; rw [HK2.out.tM k.K (.inr (.inr (.inr (.inr e))))] at a; cases a)
    have p16 := HT.out.aw.p16
    refine ⟨by rw [hkr.cell (by decide), HK2.out.c1], by rw [hkr.cell (by omega), HT.out.sp], ?_⟩
    rw [Row.ld hkr (o := 8 + p * 38 + 1) (n := 10) (by rw [kerA_size]; omega) Tryz.underlying60 rfl (by kernel_rfl), regs_ext (by omega) HT.out.rg]
  have HST : Hid (∀ wx, CpuLaw.MemQ k.M k.so s.fr s.sl s.m wx → Calls Tryz.prog 24 #[.agg (CpuLaw.cellsA g), CpuLaw.kbus k.M s1] wx fun e w' => e = .returned (.tuple #[.agg (CpuLaw.cellsA (CpuLaw.exG g op A B C)), .agg #[.int .i64 0, .int .u32 0]]) ∧ Upd (CpuLaw.memS k.M s.m) wx w' ∧ CpuLaw.MemQ k.M k.so s.fr s.sl s.m w') := Lib.hid fun wx hq => CpuLaw.cstep_is hq HT.out.ms HT.out.wf HT.out.len HT.out.wd HT.out.dc HT.out.hA HT.out.hB HT.out.hop
  have HG3 : Hid (RgA (CpuLaw.cellsA (CpuLaw.exG g op A B C))) := Lib.hid ⟨rfl, CpuLaw.cellsA_one _⟩
  have HPR : Hid (∀ o, putRg s.c o (CpuLaw.exG g op A B C) = fun j => if o ≤ j ∧ j < o + 10 then ((CpuLaw.cellsA (CpuLaw.exG g op A B C))[j - o]?).getD undef else s.c j) := Lib.hid fun o => rfl
  generalize CpuLaw.cellsA (CpuLaw.exG g op A B C) = G3 at *
  obtain ⟨Q, hQd⟩ : ∃ Q, Q = CpuLaw.MemQ k.M k.so s.fr s.sl s.m := ⟨_, rfl⟩
  obtain ⟨S0, hSd⟩ : ∃ S0, S0 = CpuLaw.memS k.M s.m := ⟨_, rfl⟩
  have HQK : Hid (∀ w w', Q w → Below w.heap.size w w' → Q w') := Lib.hid (by rw [hQd]; exact (CpuLaw.calmK HQ2.out).keep)
  have HQO : Hid (∀ w w' d, Q w → w2.heap.size ≤ d → CpuLaw.Off d w w' → Q w') := Lib.hid (by rw [hQd]; exact (CpuLaw.calmK HQ2.out).own)
  have HS0L : Hid (∀ k, S0 k → k < w2.heap.size) := Lib.hid (by rw [hSd]; exact (CpuLaw.calmK HQ2.out).low)
  rw [← hQd] at HQ2 HST
  rw [← hSd] at HL HST
  have HQD := Lib.hid hQd
  have HSD := Lib.hid hSd
  clear hQd hSd
  have HSA : Hid (∀ wx, Upd S0 w2 wx → Q wx → (Upd S0 w2 wx ∧ Q wx ∧ wx.cell? ⟨k.K, 1, none⟩ = some (.pointer (some ⟨k.M, 0, none⟩)) ∧ wx.cell? ⟨k.K, 8 + p * 38, none⟩ = some (.int .i64 s1) ∧ (ldR 60 (.pointer (some ⟨k.K, 8 + p * 38 + 1, none⟩))).run Tryz.prog wx = .ok (.agg (CpuLaw.cellsA g)) wx)) := Lib.hid fun wx hu hq => ⟨hu, hq, HL.out wx hu⟩
  have HDr : Hid (∀ wx n, (Upd S0 w2 wx ∧ Q wx ∧ wx.cell? ⟨k.K, 1, none⟩ = some (.pointer (some ⟨k.M, 0, none⟩)) ∧ wx.cell? ⟨k.K, 8 + p * 38, none⟩ = some (.int .i64 s1) ∧ (ldR 60 (.pointer (some ⟨k.K, 8 + p * 38 + 1, none⟩))).run Tryz.prog wx = .ok (.agg (CpuLaw.cellsA g)) wx) → _) := Lib.hid fun wx n h => HSA.out (wx.drewN n) (h.1.trans (Upd.drewN _ _)) (HQK.out _ _ h.2.1 (below_drewN (Below.refl _ _) n))
  have HAl : Hid (∀ wx o, (Upd S0 w2 wx ∧ Q wx ∧ wx.cell? ⟨k.K, 1, none⟩ = some (.pointer (some ⟨k.M, 0, none⟩)) ∧ wx.cell? ⟨k.K, 8 + p * 38, none⟩ = some (.int .i64 s1) ∧ (ldR 60 (.pointer (some ⟨k.K, 8 + p * 38 + 1, none⟩))).run Tryz.prog wx = .ok (.agg (CpuLaw.cellsA g)) wx) → _) := Lib.hid fun wx o h => HSA.out (wx.alloc o) (h.1.trans (Upd.alloc _ _)) (HQK.out _ _ h.2.1 (Go.Joins.below_alloc1 _ _))
  have HN0 : Hid (∀ j, w2.heap.size ≤ j → ¬ S0 j) := Lib.hid fun j hj e => by have := HS0L.out j e; omega
  have HU5 : Hid (∀ w9, Upd S0 ((w2.alloc (.cells rgZ 60)).alloc (.cells trZ 42)).drew w9 → Duo w9 w2.heap.size (w2.heap.size + 1)) := Lib.hid fun w9 hu => (Duo.two1 w2).far (W' := w9) (S := S0) ((Upd.drew _).trans hu) (HN0.out _ (Nat.le_refl _)) (HN0.out _ (Nat.le_succ _))
  have HU6 : Hid (∀ w9, Upd S0 ((w2.alloc (.cells trZ 42)).alloc (.cells rgZ 60)).drew w9 → Duo w9 (w2.heap.size + 1) w2.heap.size) := Lib.hid fun w9 hu => (Duo.two2 w2).far (W' := w9) (S := S0) ((Upd.drew _).trans hu) (HN0.out _ (Nat.le_succ _)) (HN0.out _ (Nat.le_refl _))
  have HU3 : Hid (∀ w9, Upd S0 (w2.alloc (.cells rgZ 60)).drew w9 → Duo (w9.alloc (.cells trZ 42)) w2.heap.size w9.heap.size) := Lib.hid fun w9 hu => ⟨((row_new w2 _ _).drew.upd hu (HN0.out _ (Nat.le_refl _))).alloc _, row_new _ _ _, by have := hu.size; have e : ∀ o, (w2.alloc o).drew.heap.size = w2.heap.size + 1 := fun o => size_alloc1 w2 o; rw [e] at this; omega⟩
  have HU4 : Hid (∀ w9, Upd S0 (w2.alloc (.cells trZ 42)).drew w9 → Duo (w9.alloc (.cells rgZ 60)) w9.heap.size w2.heap.size) := Lib.hid fun w9 hu => ⟨row_new _ _ _, ((row_new w2 _ _).drew.upd hu (HN0.out _ (Nat.le_refl _))).alloc _, by have := hu.size; have e : ∀ o, (w2.alloc o).drew.heap.size = w2.heap.size + 1 := fun o => size_alloc1 w2 o; rw [e] at this; omega⟩
  have HD5 : Hid (∀ w9, Upd S0 ((w2.alloc (.cells rgZ 60)).alloc (.cells trZ 42)).drew w9 → _) := Lib.hid fun w9 hu => (HU5.out w9 hu).eqs HG3.out
  have HD6 : Hid (∀ w9, Upd S0 ((w2.alloc (.cells trZ 42)).alloc (.cells rgZ 60)).drew w9 → _) := Lib.hid fun w9 hu => (HU6.out w9 hu).eqs HG3.out
  have HD3 : Hid (∀ w9, Upd S0 (w2.alloc (.cells rgZ 60)).drew w9 → _) := Lib.hid fun w9 hu => (HU3.out w9 hu).eqs HG3.out
  have HD4 : Hid (∀ w9, Upd S0 (w2.alloc (.cells trZ 42)).drew w9 → _) := Lib.hid fun w9 hu => (HU4.out w9 hu).eqs HG3.out
  have D1 := fun wx => ((Duo.two1 wx).eqs HG3.out).1
  have D2 := fun wx => ((Duo.two1 wx).eqs HG3.out).2.1
  have D3 := fun wx => ((Duo.two1 wx).eqs HG3.out).2.2.1
  have D4 := fun wx => ((Duo.two1 wx).eqs HG3.out).2.2.2
  have D5 := fun wx => ((Duo.two2 wx).eqs HG3.out).1
  have D6 := fun wx => ((Duo.two2 wx).eqs HG3.out).2.1
  have D7 := fun wx => ((Duo.two2 wx).eqs HG3.out).2.2.1
  have D8 := fun wx => ((Duo.two2 wx).eqs HG3.out).2.2.2
  simp only [rgZ, trZ] at D1 D2 D3 D4 D5 D6 D7 D8 HD3 HD4 HD5 HD6 HU3 HU4 HU5 HU6
  have HRw : Hid (∀ wx b C, (w2.heap.size ≤ b) → (Upd S0 w2 wx ∧ Q wx ∧ wx.cell? ⟨k.K, 1, none⟩ = some (.pointer (some ⟨k.M, 0, none⟩)) ∧ wx.cell? ⟨k.K, 8 + p * 38, none⟩ = some (.int .i64 s1) ∧ (ldR 60 (.pointer (some ⟨k.K, 8 + p * 38 + 1, none⟩))).run Tryz.prog wx = .ok (.agg (CpuLaw.cellsA g)) wx) → _) := Lib.hid fun wx b C hb h => HSA.out (wx.setRow b C) (CpuLaw.Off.upd h.1 (CpuLaw.Off.setRow wx b C) hb) (HQO.out _ _ b h.2.1 hb (CpuLaw.Off.setRow wx b C))
  have HD0 := Lib.hid (HSA.out w2.drew (Upd.drew _) (HQK.out _ _ HQ2.out (Below.refl _ _).drew))
  have HDA := Lib.hid (fun o => HSA.out (w2.alloc o).drew ((Upd.alloc _ _).trans (Upd.drew _)) (HQK.out _ _ (HQK.out _ _ HQ2.out (Go.Joins.below_alloc1 _ _)) (Below.refl _ _).drew))
  have HDB := Lib.hid (fun o o' => HSA.out ((w2.alloc o).alloc o').drew (((Upd.alloc _ _).trans (Upd.alloc _ _)).trans (Upd.drew _)) (HQK.out _ _ (HQK.out _ _ (HQK.out _ _ HQ2.out (Go.Joins.below_alloc1 _ _)) (Go.Joins.below_alloc1 _ _)) (Below.refl _ _).drew))
  go_cut [9, 10] (fun a9 a10 wx => ∃ b9 b10, a9 = .pointer (some ⟨b9, 0, none⟩) ∧ a10 = .pointer (some ⟨b10, 0, none⟩) ∧ w2.heap.size ≤ b9 ∧ w2.heap.size ≤ b10 ∧ b9 ≠ b10 ∧ Row wx b9 60 G3 ∧ Row wx b10 42 #[.int .i64 0, .int .u32 0] ∧ Upd S0 w2 wx ∧ Q wx)
  case first =>
    go_region_held3 (fun wx => Upd S0 w2 wx ∧ Q wx ∧ wx.cell? ⟨k.K, 1, none⟩ = some (.pointer (some ⟨k.M, 0, none⟩)) ∧ wx.cell? ⟨k.K, 8 + p * 38, none⟩ = some (.int .i64 s1) ∧ (ldR 60 (.pointer (some ⟨k.K, 8 + p * 38 + 1, none⟩))).run Tryz.prog wx = .ok (.agg (CpuLaw.cellsA g)) wx)
      (first | assumption | (with_reducible exact HD0.out) | (with_reducible exact HDA.out _) | (with_reducible exact HDB.out _ _) | (with_reducible exact HDr.out _ _ ‹_›) | (with_reducible exact HAl.out _ _ ‹_›) | (with_reducible refine HRw.out _ _ _ ?_ ‹_›; first | exact Nat.le_refl _ | exact Nat.le_succ _ | assumption | (exact Nat.le_succ_of_le ‹_›)) | go_keep)
      (first | (go_at_call 24; refine (HST.out _ (‹Upd S0 w2 _ ∧ Q _ ∧ _›).2.1).mono ?_; rintro e9 w9 ⟨rfl, hu9, hq9⟩; have hS := HSA.out w9 ((‹Upd S0 w2 _ ∧ Q _ ∧ _›).1.trans hu9) hq9; have hz9 : w2.heap.size ≤ w9.heap.size := hS.1.size; first | (have hD := HU5.out w9 hu9; have f1 := (HD5.out w9 hu9).1; have f2 := (HD5.out w9 hu9).2.1; have f3 := (HD5.out w9 hu9).2.2.1; have f4 := (HD5.out w9 hu9).2.2.2) | (have hD := HU6.out w9 hu9; have f1 := (HD6.out w9 hu9).1; have f2 := (HD6.out w9 hu9).2.1; have f3 := (HD6.out w9 hu9).2.2.1; have f4 := (HD6.out w9 hu9).2.2.2) | (have hD := HU3.out w9 hu9; have f1 := (HD3.out w9 hu9).1; have f2 := (HD3.out w9 hu9).2.1; have f3 := (HD3.out w9 hu9).2.2.1; have f4 := (HD3.out w9 hu9).2.2.2) | (have hD := HU4.out w9 hu9; have f1 := (HD4.out w9 hu9).1; have f2 := (HD4.out w9 hu9).2.1; have f3 := (HD4.out w9 hu9).2.2.1; have f4 := (HD4.out w9 hu9).2.2.2) | skip))
    all_goals go_wp2
    all_goals go_meet
    all_goals have hF := (‹Upd S0 w2 _ ∧ Q _ ∧ _›)
    all_goals first
      | exact ⟨_, _, rfl, rfl, hz9, Nat.le_succ_of_le hz9, by omega, (Duo.two1 w9).fin _ _ |>.1, (Duo.two1 w9).fin _ _ |>.2, hF.1, hF.2.1⟩
      | exact ⟨_, _, rfl, rfl, Nat.le_succ_of_le hz9, hz9, by omega, (Duo.two2 w9).fin _ _ |>.1, (Duo.two2 w9).fin _ _ |>.2, hF.1, hF.2.1⟩
      | exact ⟨_, _, rfl, rfl, Nat.le_refl _, hz9, hD.ne, (hD.fin _ _).1, (hD.fin _ _).2, hF.1, hF.2.1⟩
      | exact ⟨_, _, rfl, rfl, hz9, Nat.le_refl _, hD.ne, (hD.fin _ _).1, (hD.fin _ _).2, hF.1, hF.2.1⟩
      | exact ⟨_, _, rfl, rfl, Nat.le_refl _, Nat.le_succ _, hD.ne, (hD.fin _ _).1, (hD.fin _ _).2, hF.1, hF.2.1⟩
      | exact ⟨_, _, rfl, rfl, Nat.le_succ _, Nat.le_refl _, hD.ne, (hD.fin _ _).1, (hD.fin _ _).2, hF.1, hF.2.1⟩
  case rest =>
    obtain ⟨b9, b10, rfl, rfl, hb9, hb10, hbn, hr9, hr10, hu, hq⟩ := hcut
    have hS0n : ∀ j, S0 j → s.tag j = 6 := fun j e => by
      rw [HSD.out] at e
      rcases e with e | e
      · rw [e]; exact HK2.out.tM _ (.inl rfl)
      · exact HK2.out.tM _ (.inr (.inr (.inr (.inr e))))
    have hnS : ∀ j, s.tag j ≠ 6 → ¬ S0 j := fun j hj e => hj (hS0n j e)
    have hkr : KR wc k.K s.c := HK2.out.kr.upd hu (hnS _ (by rw [HK2.out.tK]; decide))
    have hsl := HS2.out.upd hu (hnS _ (by rw [HZ.out n HN.out]; decide))
    have l9 := hr9.ld0 Tryz.underlying60 rfl (by rw [HG3.out.1]; kernel_rfl)
    have d0 : wc.cell? ⟨b10, 0, none⟩ = some (.int .i64 0) := hr10.cell 0
    have st9 := Row.st hkr (o := 8 + p * 38 + 1) (U := 60) (cs := G3) (by rw [kerA_size, HG3.out.1]; have := HT.out.aw.p16; omega) (by rw [HG3.out.1]; kernel_rfl) HG3.out.2
    have hkr2 := hkr.putN (o := 8 + p * 38 + 1) (n := 10) (by have := HT.out.aw.p16; omega) HG3.out.1
    have hKb : k.K ≠ b10 := fun e => by have := HK2.out.kr.lt; omega
    have hKn : k.K ≠ n := fun e => by have := HK0.out.kr.lt; have := HN.out; omega
    have hr10b := hr10.setRowO hKb (putA (kerA s.c) (8 + p * 38 + 1) G3.toList)
    have hslb := hsl.setRowO hKn (putA (kerA s.c) (8 + p * 38 + 1) G3.toList)
    have HUK : Hid (Upd (fun j => j = k.K) wc (wc.setRow k.K (putA (kerA s.c) (8 + p * 38 + 1) G3.toList))) := Lib.hid (Upd.setRow _ _ rfl)
    have HKR2 := Lib.hid hkr2
    have HUC := Lib.hid hu
    have HQC := Lib.hid hq
    have HSL := Lib.hid hslb
    have HR10 := Lib.hid hr10b
    have HSN := Lib.hid hnS
    have HS6 := Lib.hid hS0n
    clear hr9 hr10 hu hq hS0n hnS hkr hsl hkr2 hKb hr10b hslb hb9 hb10 hbn D1 D2 D3 D4 D5 D6 D7 D8
    go_upto_region 19 with fail
    generalize wc.setRow k.K (putA (kerA s.c) (8 + p * 38 + 1) G3.toList) = W5 at *
    clear l9 st9 d0
    have d0 := HR10.out.drew.cell 0
    have d1 := HR10.out.drew.cell 1
    have stn := HSL.out.drew.st0 (cs := #[.int .i64 0, .int .u32 0]) rfl (by kernel_rfl) (by kernel_rfl)
    go_region
    go_wp2_with fail
    have hrn := HSL.out.drew.setRow #[.int .i64 0, .int .u32 0]
    have e0 := hrn.cell 0
    have e1 := hrn.cell 1
    have q0 := HQC.out
    rw [HQD.out] at q0
    obtain ⟨h', hm⟩ := q0
    have hum : Upd (mB k.M k.so s.m) w2 wc := HUC.out.mono fun j _ e => by
      rw [HSD.out] at e
      rcases e with e | e
      · exact .inl e
      · exact .inr (.inr (.inr (.inr e)))
    have k2 := (HK0.out.start).keep HB2.out
    have k3 := k2.step (HK2.out.mem hm hum (fun j e => .inl e)) hum (fun j e => by rw [HK2.out.tM j e]; decide) (fun j e => by
      rcases Nat.lt_or_ge j w2.heap.size with q | q
      · have e : tg s.tag w2.heap.size (mB k.M k.so { s.m with h := h' }) 6 j ≠ 0 := e
        rw [tg_old q] at e; exact .inl e
      · exact .inr q)
    have hcells := k3.kt.cells (c' := putRg s.c (8 + p * 38 + 1) (CpuLaw.exG g op A B C)) (cw' := s.cw) (tag' := tg s.tag w2.heap.size (mB k.M k.so { s.m with h := h' }) 6) (by rw [HPR.out]; exact HKR2.out) HUK.out (fun j hj => by unfold putRg; rw [if_neg (by omega)]) (fun _ _ => rfl) (fun j hj => k3.kt.tz j (Nat.le_trans HUK.out.size hj)) (fun p' b' hb' => by
      obtain ⟨⟨cp, h1⟩, h2, h3, h4⟩ := k3.kt.cw p' b' hb'
      have hbK : b' ≠ k.K := fun e => by rw [e, k3.kt.tK] at h4; exact absurd h4 (by decide)
      exact ⟨⟨cp, by unfold putRg; rw [if_neg (by omega)]; exact h1⟩, (HUK.out.cell h3 hbK).trans h2, Nat.lt_of_lt_of_le h3 HUK.out.size, h4⟩)
    have k4 := k3.step hcells HUK.out (fun j e => by rw [e, k3.kt.tK]; decide) (fun j e => .inl e)
    have k5 := k4.keep (Below.refl _ _).drew
    have hnlt : n < w2.heap.size := by
      have := HS2.out.lt
      exact this
    have k6 := k5.own (n := n) (w2 := W5.drew.setRow n #[.int .i64 0, .int .u32 0]) (Upd.setRow _ _ rfl) HN.out (by show tg s.tag w2.heap.size _ 6 n = 0; rw [tg_old hnlt]; exact HZ.out n HN.out)
    generalize W5.drew.setRow n #[.int .i64 0, .int .u32 0] = WF at *
    exact bodyPost_ret (v := .tuple #[.int .i64 p, .agg #[.int .i64 0, .int .u32 0]]) (by simp [results, Tryz.results8, go_sem, e0, e1]) rfl ⟨rfl, _, _, k6⟩
end
end Go.Proofs.YtafflkemnniegaaGreatDoor
namespace Go.Proofs.YtafflkemnniegaaGreatDoor
open Go.RowKit
set_option linter.unusedVariables false
set_option linter.unusedSimpArgs false
theorem loop_enc : EncOk loopL := fun i x hx => by
  match i, hx with
  | 0, hx => injection hx with hx; subst hx; decide +kernel
  | 1, hx => injection hx with hx; subst hx; decide +kernel
def y0 : Nat := 235995137
def y1 : Nat := 318832636
theorem dec_y0 : CodeLaw.decR (y0 : Nat) = (⟨14, (1 : Nat), (1 : Nat), 1⟩, 0) := by decide +kernel
theorem dec_y1 : CodeLaw.decR (y1 : Nat) = (⟨19, (0 : Nat), (0 : Nat), -4⟩, 0) := by decide +kernel
theorem pg_loop : pgB (progB loopL) 0 = [1, 0, 17, 14, 252, 255, 0, 19] := by decide +kernel
theorem word_put {m : MS} {b g : Nat} (hF : m.F b 0 = some (g, 5)) (hg : g ∈ m.pl) (hd : m.d g = padF (pgB (progB loopL) 0)) : CpuLaw.WordAt m b 0 y0 ∧ CpuLaw.WordAt m b 4 y1 := by
  rw [pg_loop] at hd
  refine ⟨⟨0, 5, g, 0, 1, 0, 17, 14, by decide, by decide, hF, hg, by decide +kernel, by decide, by decide, by decide, ?_, ?_, ?_, ?_, by decide, by decide, by decide, by decide, by decide⟩, ⟨0, 5, g, 4, 252, 255, 0, 19, by decide, by decide, hF, hg, by decide +kernel, by decide, by decide, by decide, ?_, ?_, ?_, ?_, by decide, by decide, by decide, by decide, by decide⟩⟩ <;> (rw [hd]; rfl)
/-- a word stays where it is -/
theorem word_keep {m m' : MS} {b a x : Nat} (h : CpuLaw.WordAt m b a x) (hF : m'.F b = m.F b) (hpl : ∀ g, g ∈ m.pl → g ∈ m'.pl ∧ m'.d g = m.d g) : CpuLaw.WordAt m' b a x := by
  obtain ⟨pg, r, g, o, x0, x1, x2, x3, h0, h1, h2, h3, h4, h5, h6, h7, h8, h9, h10, h11, h12⟩ := h.at'
  obtain ⟨hg, hd⟩ := hpl g h3
  exact ⟨pg, r, g, o, x0, x1, x2, x3, h0, h1, by rw [hF]; exact h2, hg, h4, h5, h6, h7, by rw [hd]; exact h8, by rw [hd]; exact h9, by rw [hd]; exact h10, by rw [hd]; exact h11, h12⟩
/-- the pages of a space are its own, the first five -/
structure Own5 (m : MS) (b : Nat) : Prop where
  lone : Lone (m.F b)
  pg : ∀ k g r, m.F b k = some (g, r) → 0 ≤ k ∧ k < 5 ∧ g ∈ m.pl ∧ m.u g = 1
  nF : m.nF b ≤ 10
  w0 : CpuLaw.WordAt m b 0 y0
  w1 : CpuLaw.WordAt m b 4 y1
/-- a program is put over pages that were shared, or none -/
theorem put_own {m m1 m2 : MS} {b B0 : Nat} (hu : Unm m m1 b 5) (hp : PutsTo B0 b (pgF (progB loopL)) m1 5 m2) (hnd : m2.pl.Nodup) (hB : ∀ g, g ∈ m.pl → g < B0) (hF : ∀ k, (k < 0 ∨ 5 ≤ k) → m.F b k = none) (hn : m.nF b ≤ 5) :
    PutFacts B0 b (pgF (progB loopL)) m1 5 m2 ∧ Own5 m2 b := by
  have f := PutsTo.facts (fun g hg => hB g (by rw [← hu.pl]; exact hg)) hp hnd
  have e1 : ∀ k, (k < 0 ∨ 5 ≤ k) → m2.F b k = none := fun k hk => by
    rw [f.fr k (by omega), hu.F, fup_same, if_neg (by omega)]
    exact hF k hk
  obtain ⟨g, -, hg, hFg, hdg, -⟩ := f.pg 0 (by decide)
  obtain ⟨w0, w1⟩ := word_put (m := m2) (b := b) (g := g) hFg hg hdg
  refine ⟨f, ⟨fun k k' g r r' h1 h2 => ?_, fun k g r h1 => ?_, ?_, w0, w1⟩⟩
  · have k0 : 0 ≤ k ∧ k < 5 := by
      rcases Int.lt_or_le k 0 with q | q
      · rw [e1 k (.inl q)] at h1; cases h1
      · rcases Int.lt_or_le k 5 with q2 | q2
        · exact ⟨q, q2⟩
        · rw [e1 k (.inr q2)] at h1; cases h1
    have k1 : 0 ≤ k' ∧ k' < 5 := by
      rcases Int.lt_or_le k' 0 with q | q
      · rw [e1 k' (.inl q)] at h2; cases h2
      · rcases Int.lt_or_le k' 5 with q2 | q2
        · exact ⟨q, q2⟩
        · rw [e1 k' (.inr q2)] at h2; cases h2
    have a1 : ((k.toNat : Nat) : Int) = k := by omega
    have a2 : ((k'.toNat : Nat) : Int) = k' := by omega
    have := f.inj k.toNat k'.toNat g r r' (by omega) (by omega) (by rw [a1]; exact h1) (by rw [a2]; exact h2)
    omega
  · have k0 : 0 ≤ k ∧ k < 5 := by
      rcases Int.lt_or_le k 0 with q | q
      · rw [e1 k (.inl q)] at h1; cases h1
      · rcases Int.lt_or_le k 5 with q2 | q2
        · exact ⟨q, q2⟩
        · rw [e1 k (.inr q2)] at h1; cases h1
    have a1 : ((k.toNat : Nat) : Int) = k := by omega
    obtain ⟨g', -, hg', hF', -, hu'⟩ := f.pg k.toNat (by omega)
    rw [a1, h1] at hF'
    injection hF' with hF'
    injection hF' with hF' _
    subst hF'
    exact ⟨k0.1, k0.2, hg', hu'⟩
  · rw [f.nF, hu.nF]; omega
/-- the memory of N processes -/
structure Mp (m : MS) (N : Nat) : Prop where
  S : ∀ p : Nat, 1 ≤ p → p ≤ N → ∃ b, m.S p = some b ∧ CpuLaw.WordAt m b 0 y0 ∧ CpuLaw.WordAt m b 4 y1
  S0 : ∀ p : Nat, N < p → m.S p = none
  nS : m.nS ≤ N
  len : m.pl.length ≤ 5 * N
  one : ∃ b, m.S 1 = some b ∧ Own5 m b ∧ m.nF b ≤ 5
theorem Mp.fork {m : MS} {N : Nat} (h : Mp m N) (h1 : 1 ≤ N) (h6 : N + 1 ≤ 16) : ∃ b, MayFork m 1 b (N + 1) := by
  obtain ⟨b, hb, ho, hn⟩ := h.one
  exact ⟨b, hb, by decide, by omega, by omega, h.S0 (N + 1) (by omega), fun j a1 a2 => by obtain ⟨b', q, -⟩ := h.S j a1 (by omega); exact ⟨b', q⟩, by have := h.nS; omega, ho.lone, fun k g r e => by
    obtain ⟨-, -, q1, q2⟩ := ho.pg k g r e
    exact ⟨q1, by rw [q2]; decide, by rw [q2]; decide⟩, by omega⟩
/-- a fork's memory before the child's program is put -/
structure Mf (m : MS) (N b nb : Nat) : Prop where
  S : ∀ p : Nat, 1 ≤ p → p ≤ N → ∃ b, m.S p = some b ∧ b ≠ nb ∧ CpuLaw.WordAt m b 0 y0 ∧ CpuLaw.WordAt m b 4 y1
  Sn : m.S (N + 1 : Nat) = some nb
  S0 : ∀ p : Nat, N + 1 < p → m.S p = none
  nS : m.nS ≤ N + 1
  len : m.pl.length ≤ 5 * N
  sb : m.S 1 = some b
  ne : b ≠ nb
  F : m.F nb = m.F b
  lone : Lone (m.F b)
  pg : ∀ k g r, m.F b k = some (g, r) → 0 ≤ k ∧ k < 5 ∧ g ∈ m.pl ∧ m.u g = 2
  nF : m.nF b ≤ 5
  nFn : m.nF nb ≤ 5
theorem Mp.forked {m m' : MS} {N b nb : Nat} (h : Mp m N) (h1 : 1 ≤ N) (hb : m.S 1 = some b) (hf : Forked m m' 1 (N + 1 : Nat) b nb) (hnb : ∀ p, m.S p ≠ some nb) : Mf m' N b nb := by
  obtain ⟨b', hb', ho, hn⟩ := h.one
  rw [hb] at hb'
  injection hb' with hb'
  subst hb'
  have hne : b ≠ nb := fun e => hnb 1 (by rw [hb, e])
  have hpl : ∀ g, g ∈ m.pl → g ∈ m'.pl ∧ m'.d g = m.d g := fun g hg => ⟨by rw [hf.pl]; exact hg, by rw [hf.d]⟩
  refine ⟨fun p p1 p2 => ?_, by rw [hf.S]; exact if_pos rfl, fun p hp => ?_, by rw [hf.nS]; have := h.nS; omega, by rw [hf.pl]; exact h.len, ?_, hne, ?_, ?_, ?_, ?_, ?_⟩
  · obtain ⟨b', q1, q2, q3⟩ := h.S p p1 p2
    have hne' : b' ≠ nb := fun e => hnb p (by rw [q1, e])
    have eF : m'.F b' = m.F b' := by rw [hf.F, fup_off _ _ hne']
    exact ⟨b', by rw [hf.S]; show (if ((p : Nat) : Int) = ((N + 1 : Nat) : Int) then _ else _) = _; rw [if_neg (by omega)]; exact q1, hne', word_keep q2 eF hpl, word_keep q3 eF hpl⟩
  · rw [hf.S]
    show (if ((p : Nat) : Int) = ((N + 1 : Nat) : Int) then _ else _) = _
    rw [if_neg (by omega)]
    exact h.S0 p (by omega)
  · rw [hf.S]
    show (if (1 : Int) = ((N + 1 : Nat) : Int) then _ else _) = _
    rw [if_neg (by omega)]
    exact hb
  · rw [hf.F, fup_same, fup_off _ _ hne]
  · rw [hf.F, fup_off _ _ hne]
    exact ho.lone
  · intro k g r e
    rw [hf.F, fup_off _ _ hne] at e
    obtain ⟨q1, q2, q3, q4⟩ := ho.pg k g r e
    exact ⟨q1, q2, by rw [hf.pl]; exact q3, by rw [hf.u0 g ⟨k, r, e⟩, q4]; rfl⟩
  · rw [hf.nF b hne]; exact hn
  · have := hf.nFn; omega
/-- the child's program is put -/
theorem Mf.put {m m1 m2 : MS} {N b nb B0 : Nat} (h : Mf m N b nb) (h1 : 1 ≤ N) (hu : Unm m m1 nb 5) (hp : PutsTo B0 nb (pgF (progB loopL)) m1 5 m2) (hnd : m2.pl.Nodup) (hB : ∀ g, g ∈ m.pl → g < B0) : Mp m2 (N + 1) := by
  have hF0 : ∀ k, (k < 0 ∨ 5 ≤ k) → m.F nb k = none := fun k hk => by
    rw [h.F]
    cases e : m.F b k with
    | none => rfl
    | some x =>
      obtain ⟨q1, q2, -⟩ := h.pg k x.1 x.2 e
      omega
  obtain ⟨f, ho⟩ := put_own hu hp hnd hB hF0 h.nFn
  have hpl : ∀ g, g ∈ m.pl → g ∈ m2.pl ∧ m2.d g = m.d g := fun g hg => ⟨f.pl g (by rw [hu.pl]; exact hg), by rw [(f.old g (hB g hg)).1, hu.d]⟩
  have eF : ∀ b', b' ≠ nb → m2.F b' = m.F b' ∧ m2.nF b' = m.nF b' := fun b' hb' => by
    obtain ⟨q1, q2⟩ := f.oth b' hb'
    exact ⟨by rw [q1, hu.F, fup_off _ _ hb'], by rw [q2, hu.nF]⟩
  have eS : m2.S = m.S := by rw [f.S, hu.S]
  refine ⟨fun p p1 p2 => ?_, fun p hp => by rw [eS]; exact h.S0 p hp, by rw [f.nS, hu.nS]; exact h.nS, by rw [f.len, hu.pl]; have := h.len; omega, ⟨b, by rw [eS]; exact h.sb, ⟨?_, ?_, ?_, ?_, ?_⟩, ?_⟩⟩
  · rcases Nat.lt_or_ge N p with q | q
    · obtain rfl : p = N + 1 := by omega
      exact ⟨nb, by rw [eS]; exact h.Sn, ho.w0, ho.w1⟩
    · obtain ⟨b', q1, q2, q3, q4⟩ := h.S p p1 q
      exact ⟨b', by rw [eS]; exact q1, word_keep q3 (eF b' q2).1 hpl, word_keep q4 (eF b' q2).1 hpl⟩
  · rw [(eF b h.ne).1]; exact h.lone
  · intro k g r e
    rw [(eF b h.ne).1] at e
    obtain ⟨q1, q2, q3, q4⟩ := h.pg k g r e
    refine ⟨q1, q2, (hpl g q3).1, ?_⟩
    rw [(f.old g (hB g q3)).2, hu.u0 g ⟨k, r, q1, q2, by rw [h.F]; exact e⟩, q4]
    rfl
  · rw [(eF b h.ne).2]; have := h.nF; omega
  · obtain ⟨b', q1, q2, q3, q4⟩ := h.S 1 (by decide) h1
    have q1 : m.S 1 = some b' := q1
    rw [h.sb] at q1
    injection q1 with q1
    subst q1
    exact word_keep q3 (eF b h.ne).1 hpl
  · obtain ⟨b', q1, q2, q3, q4⟩ := h.S 1 (by decide) h1
    have q1 : m.S 1 = some b' := q1
    rw [h.sb] at q1
    injection q1 with q1
    subst q1
    exact word_keep q4 (eF b h.ne).1 hpl
  · rw [(eF b h.ne).2]; exact h.nF
/-- the first process's program is put -/
theorem mp_one {m m1 m2 : MS} {b B0 : Nat} (hS : ∀ p : Nat, m.S p = if p = 1 then some b else none) (hnS : m.nS ≤ 1) (hpl : m.pl = []) (hF : ∀ k, m.F b k = none) (hn : m.nF b = 0) (hu : Unm m m1 b 5) (hp : PutsTo B0 b (pgF (progB loopL)) m1 5 m2) (hnd : m2.pl.Nodup) : Mp m2 1 := by
  obtain ⟨f, ho⟩ := put_own hu hp hnd (fun g hg => by rw [hpl] at hg; cases hg) (fun k _ => hF k) (by omega)
  have eS : ∀ p : Nat, m2.S p = if p = 1 then some b else none := fun p => by rw [f.S, hu.S]; exact hS p
  have hb : m2.S 1 = some b := by have := eS 1; rw [if_pos rfl] at this; exact this
  refine ⟨fun p p1 p2 => ?_, fun p hp => by rw [eS, if_neg (by omega)], by rw [f.nS, hu.nS]; exact hnS, by rw [f.len, hu.pl, hpl]; decide, ⟨b, hb, ho, by rw [f.nF, hu.nF, hn]; decide⟩⟩
  obtain rfl : p = 1 := by omega
  exact ⟨b, hb, ho.w0, ho.w1⟩
end Go.Proofs.YtafflkemnniegaaGreatDoor
namespace Go.Proofs.YtafflkemnniegaaGreatDoor
open Go.RowKit
set_option linter.unusedVariables false
set_option linter.unusedSimpArgs false
/-- the tasks at first, and n more -/
def entered (nc : Nat) : Nat → List Tk
  | 0 => [⟨1, 0, true, 0⟩]
  | n + 1 => enterL (entered nc n) ((n + 2 : Nat) : Int) nc
def ticked (nc n : Nat) : Nat → List Tk
  | 0 => entered nc n
  | r + 1 => tickAll (ticked nc n r) nc nc
/-- a processor's step: who has it has one more -/
def stepN (l : List Tk) (m : Nat → Nat) (c : Nat) : Nat → Nat := match onG l c with
  | none => m
  | some i => match l[i]? with
    | none => m
    | some x => fun p => if (p : Int) = x.t then m p + 1 else m p
def stepsN (l : List Tk) (m : Nat → Nat) : Nat → Nat → Nat
  | 0 => m
  | c + 1 => stepN l (stepsN l m c) c
def had (nc n : Nat) : Nat → Nat → Nat
  | 0 => fun _ => 0
  | r + 1 => stepsN (ticked nc n r) (had nc n r) nc
/-- who has a processor is one of the processes -/
def onOk (l : List Tk) (N c : Nat) : Bool := match onG l c with
  | none => true
  | some i => match l[i]? with
    | none => true
    | some x => decide (1 ≤ x.t) && decide (x.t ≤ (N : Int))
theorem law_go : ∀ nc, 1 ≤ nc → nc ≤ 4 → ∀ n, n < 6 → ∀ p, 1 ≤ p → p ≤ n + 1 → 1 ≤ had nc n (4 * (n + 1)) p ∧ had nc n (4 * (n + 1)) p < 1000 := by
  have h : ∀ nc, nc < 5 → 1 ≤ nc → ∀ n, n < 6 → ∀ p, p < n + 2 → 1 ≤ p → (decide (1 ≤ had nc n (4 * (n + 1)) p) && decide (had nc n (4 * (n + 1)) p < 1000)) = true := by decide +kernel
  intro nc h1 h4 n hn p p1 p2
  have := h nc (by omega) h1 n hn p (by omega) p1
  simpa only [Bool.and_eq_true, decide_eq_true_eq] using this
theorem on_ok {nc n r c : Nat} (h1 : 1 ≤ nc) (h4 : nc ≤ 4) (hn : n < 6) (hr : r < 4 * (n + 1)) (hc : c < nc) {i : Nat} {x : Tk} (ho : onG (ticked nc n r) c = some i) (hx : (ticked nc n r)[i]? = some x) : ∃ p : Nat, x.t = p ∧ 1 ≤ p ∧ p ≤ n + 1 := by
  have h : ∀ nc, nc < 5 → 1 ≤ nc → ∀ n, n < 6 → ∀ r, r < 4 * (n + 1) → ∀ c, c < nc → onOk (ticked nc n r) (n + 1) c = true := by decide +kernel
  have := h nc (by omega) h1 n hn r hr c hc
  unfold onOk at this
  rw [ho] at this
  simp only [hx] at this
  simp only [Bool.and_eq_true, decide_eq_true_eq] at this
  exact ⟨x.t.toNat, by omega, by omega, by omega⟩
theorem entered_ok {nc n : Nat} (h1 : 1 ≤ nc) (h4 : nc ≤ 4) (hn : n < 6) : (entered nc n).length = n + 1 ∧ VOk 0 (entered nc n) ∧ idG (entered nc n) ((n + 2 : Nat) : Int) = none := by
  have h : ∀ nc, nc < 5 → 1 ≤ nc → ∀ n, n < 6 → (entered nc n).length = n + 1 ∧ (entered nc n).all (fun x => x.v == 0) = true ∧ idG (entered nc n) ((n + 2 : Nat) : Int) = none := by decide +kernel
  obtain ⟨h1, h2, h3⟩ := h nc (by omega) h1 n hn
  refine ⟨h1, fun i x hx => ?_, h3⟩
  have := List.all_eq_true.1 h2 x (List.mem_of_getElem? hx)
  simp only [beq_iff_eq] at this
  exact ⟨by omega, by omega⟩
theorem ticked_ok {nc n : Nat} (h1 : 1 ≤ nc) (h4 : nc ≤ 4) (hn : n < 6) : ∀ r : Nat, VOk ((r : Int) * 419428) (ticked nc n r)
  | 0 => by have := (entered_ok h1 h4 hn).2.1; exact this.mono (by omega)
  | r + 1 => by
    have h := (ticked_ok h1 h4 hn r).all nc nc
    exact h.mono (by
      have : (nc : Int) * 104857 ≤ 4 * 104857 := Int.mul_le_mul_of_nonneg_right (by omega) (by decide)
      push_cast
      omega)
end Go.Proofs.YtafflkemnniegaaGreatDoor
