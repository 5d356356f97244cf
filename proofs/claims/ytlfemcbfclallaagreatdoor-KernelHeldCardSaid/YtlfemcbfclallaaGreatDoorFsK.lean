/- The walk of inode.Pack at any right node (some minutes). The walk of fs's end: a call without sectors to give back. The walks of fs: entries, there, directory. -/
import Derived.Test.YtlfemcbfclallaaGreatDoorFsN
import Derived.Deep.RegionHeld3
import Derived.Test.YtlfemcbfclallaaGreatDoorFsT
import Derived.Test.YtlfemcbfclallaaGreatDoorFsR
import Derived.Test.YtlfemcbfclallaaGreatDoorEq
namespace Go.Proofs.YtlfemcbfclallaaGreatDoor
open Go.RowKit Go.Maps
set_option linter.unusedVariables false
set_option linter.unusedSimpArgs false
theorem copy9 {w : World} {g : Nat} {b : List Int} (hg : BK w g b) (hb : b.length = 32) {a : Addr} {c : Nat} {z : List Int} (hz : At (Value.int .u8) 0 w (.slice (some a) 16 c) z) (hn : z.length = 16) :
    ∃ w', (copyB #[.slice (some ⟨g, 9, none⟩) 23 23, .slice (some a) 16 c]).run Tryz.prog w = .ok (.int .i64 16) w' ∧ BK w' g (splice b 9 z) ∧ Upd (fun k => k = g) w w' := by
  obtain ⟨a', cap, e, h1, h2, h3⟩ := hz
  injection e with e1 e2 e3
  subst e1 e3
  have e0 : z ≠ [] := by intro q; rw [q] at hn; cases hn
  obtain ⟨bk, off, hab, hlt, hc⟩ := h3.resolve_left e0
  injection hab with hab
  subst hab
  have hr := run_copyB (o := 9) (dL := 23) (dC := 23) (sL := 16) (sC := c) hg (by rw [hn]; rfl) hc (by rw [hn, hb]; decide)
  rw [hn] at hr
  exact ⟨_, hr, hg.setRow _, Upd.setRow w _ rfl⟩
attribute [local go_sem ↓] mkB_eq ld_ino copyB_eq
set_option maxRecDepth 100000 in
set_option maxHeartbeats 8000000 in
theorem ipackNb_is {w : World} {x : Nd} (hp : At (Value.int .i64) 0 w x.pv x.ps) (hx : NdOk x) (hpb : ∀ j, x.pv.ownBlock = some j → j < w.heap.size) : Calls Tryz.prog 46 #[.agg (ndA x)] w fun e w' => ∃ g l, e = .returned (.tuple #[.slice (some ⟨g, 0, none⟩) 32 32, .int .i64 0]) ∧ w.heap.size ≤ g ∧ BK w' g l ∧ l.length = 32 ∧ Below w.heap.size w w' := by
  have HB := Lib.hid (Go.Joins.below_alloc1 w (.cells (ndA x) 120))
  have HR := Lib.hid (row_new w 120 (ndA x))
  have l0 := HR.out.ld0 Tryz.underlying120 rfl (by rw [ndA_size]; kernel_rfl)
  have HP0 := Lib.hid (hp.keep HB.out)
  have HRI := Lib.hid (irightN_is HP0.out hx)
  have HX := Lib.hid hx
  have hk0 : ¬ x.k = 0 := by have := hx.k; omega
  obtain ⟨a, cap, hpv, hl, hcm, -⟩ := hp
  obtain ⟨L, hL⟩ : ∃ L, L = x.ps.length := ⟨_, rfl⟩
  rw [← hL] at hpv hl
  rw [hpv] at HP0
  obtain ⟨xk, xm, xu, xg, xs, xl, xup, xpv, xps⟩ := x
  simp only at *
  subst hpv
  have HN := Lib.hid (show ndA ⟨xk, xm, xu, xg, xs, xl, xup, .slice a L cap, xps⟩ = #[.int .i64 xk, .int .i64 xm, .int .i64 xu, .int .i64 xg, .int .i64 xs, .int .i64 xl, .int .i64 xup, .slice a L cap] from rfl)
  have HPS := Lib.hid (hx.ps)
  simp only at HPS
  clear hx HX hL hl hcm hpb
  generalize ndA ⟨xk, xm, xu, xg, xs, xl, xup, .slice a L cap, xps⟩ = A at *
  go_enter Tryz.func46, Tryz.ntmps46
  go_upto_region 1 with fail
  generalize w.alloc (.cells A 120) = w0 at *
  go_upto_region 2 with (go_at_call 109; refine HRI.out.mono ?_; rintro e1 w1 ⟨rfl, hb1⟩)
  have HB1 := Lib.hid (HB.out.trans (hb1.mono HB.out.size))
  have HB2 := Lib.hid (HB1.out.alloc HB1.out.size (.cells ((zeros 32).map u8V).toArray 5))
  have HR2 := Lib.hid (HR.out.keep hb1)
  have hr3 := HR2.out.alloc (.cells ((zeros 32).map u8V).toArray 5)
  have HP2 := Lib.hid ((HP0.out.keep hb1).keep (Go.Joins.below_alloc1 w1 (.cells ((zeros 32).map u8V).toArray 5)))
  have hmk := mkB32 w1
  have HBK := Lib.hid (bk_new w1 (zeros 32))
  have hlt : w.heap.size < w1.heap.size := HR2.out.lt
  generalize w1.alloc (.cells ((zeros 32).map u8V).toArray 5) = w2 at *
  have HR3 := Lib.hid hr3
  clear l0 HR HRI hb1 hr3 HP0
  have c0 : w2.cell? ⟨w.heap.size, 0, none⟩ = some (.int .i64 xk) := by rw [HR3.out.cell, HN.out]; rfl
  have c7 : w2.cell? ⟨w.heap.size, 7, none⟩ = some (.slice a L cap) := by rw [HR3.out.cell, HN.out]; rfl
  have HPK := Lib.hid (xpackN_is HP2.out HPS.out)
  go_upto_region 10 with (go_at_call 110; refine HPK.out.mono ?_; rintro e1 w3 ⟨v3, l3, rfl, ho3, hl3, hb3⟩)
  have hlt3 : w1.heap.size < w2.heap.size := HBK.out.lt
  have HB3 := Lib.hid (HB2.out.trans (hb3.mono HB2.out.size))
  have HR4 := Lib.hid (HR3.out.keep hb3)
  have HBK3 := Lib.hid (HBK.out.keep hb3)
  have HO3 := Lib.hid (And.intro ho3 hl3)
  obtain ⟨p3, cp3, hv3⟩ := own_form ho3
  rw [hl3] at hv3
  subst hv3
  clear c0 c7 HR3 HBK HPK hmk ho3 hl3 hb3 HP2
  generalize hNB : w1.heap.size = nb at *
  generalize hMB : w2.heap.size = mb at *
  have ne1 : ¬ w.heap.size = nb := by omega
  have ne2 : ¬ nb = w.heap.size := by omega
  have HNB := Lib.hid (And.intro hlt hlt3)
  clear hNB hMB hlt hlt3
  generalize hWN : w.heap.size = nw at *
  have HWN := Lib.hid hWN
  clear hWN
  have c0 : w3.cell? ⟨nw, 0, none⟩ = some (.int .i64 xk) := by rw [HR4.out.cell, HN.out]; rfl
  have c1 : w3.cell? ⟨nw, 1, none⟩ = some (.int .i64 xm) := by rw [HR4.out.cell, HN.out]; rfl
  have c2 : w3.cell? ⟨nw, 2, none⟩ = some (.int .i64 xu) := by rw [HR4.out.cell, HN.out]; rfl
  have c3 : w3.cell? ⟨nw, 3, none⟩ = some (.int .i64 xg) := by rw [HR4.out.cell, HN.out]; rfl
  obtain ⟨xz0, z0⟩ : ∃ x, w3.cell? ⟨nb, 0, none⟩ = some (Value.int .u8 x) := ⟨_, HBK3.out.cell (i := 0) (by decide)⟩
  obtain ⟨xz1, z1⟩ : ∃ x, w3.cell? ⟨nb, 1, none⟩ = some (Value.int .u8 x) := ⟨_, HBK3.out.cell (i := 1) (by decide)⟩
  obtain ⟨xz2, z2⟩ : ∃ x, w3.cell? ⟨nb, 2, none⟩ = some (Value.int .u8 x) := ⟨_, HBK3.out.cell (i := 2) (by decide)⟩
  obtain ⟨xz3, z3⟩ : ∃ x, w3.cell? ⟨nb, 3, none⟩ = some (Value.int .u8 x) := ⟨_, HBK3.out.cell (i := 3) (by decide)⟩
  obtain ⟨xz4, z4⟩ : ∃ x, w3.cell? ⟨nb, 4, none⟩ = some (Value.int .u8 x) := ⟨_, HBK3.out.cell (i := 4) (by decide)⟩
  have fz : ∀ j, w3.frozen? ⟨nb, j, none⟩ = false := fun j => by have hb2 := HBK3.out; unfold BK at hb2; simp [World.frozen?, hb2]
  have f0 := fz 0
  have f1 := fz 1
  have f2 := fz 2
  have f3 := fz 3
  have f4 := fz 4
  clear fz
  have HCL := Lib.hid (And.intro HN (And.intro HB3 (And.intro HR4 (And.intro HBK3 (And.intro HO3 (And.intro HNB (And.intro HWN HPS)))))))
  clear HN HB1 HB2 HB3 HR4 HBK3 HO3 HPS HNB HWN
  go_region_held3 (fun wx => wx.cell? ⟨nw, 0, none⟩ = some (.int .i64 xk) ∧ wx.cell? ⟨nw, 1, none⟩ = some (.int .i64 xm) ∧ wx.cell? ⟨nw, 2, none⟩ = some (.int .i64 xu) ∧ wx.cell? ⟨nw, 3, none⟩ = some (.int .i64 xg)) (go_keep) (fail)
  obtain ⟨HN, HB3, HR4, HBK3, HO3, HNB, HWN, HPS⟩ := HCL.out
  clear HCL
  obtain ⟨b4, hb4⟩ : ∃ l : List Int, l = (((((zeros 32).set 0 (IntKind.u8.wrap xk)).set 1 (IntKind.u8.wrap xm)).set 2 (IntKind.u8.wrap (xm / 256))).set 3 (IntKind.u8.wrap xu)).set 4 (IntKind.u8.wrap xg) := ⟨_, rfl⟩
  have hbl4 : b4.length = 32 := by rw [hb4]; simp only [List.length_set]; exact zeros_len 32
  have e5 : ((((w3.setCell ⟨nb, 0, none⟩ (.int .u8 (IntKind.u8.wrap xk))).setCell ⟨nb, 1, none⟩ (.int .u8 (IntKind.u8.wrap xm))).setCell ⟨nb, 2, none⟩ (.int .u8 (IntKind.u8.wrap (xm / 256)))).setCell ⟨nb, 3, none⟩ (.int .u8 (IntKind.u8.wrap xu))).setCell ⟨nb, 4, none⟩ (.int .u8 (IntKind.u8.wrap xg)) = w3.setRow nb (b4.map u8V).toArray := by
    rw [hb4, HBK3.out.setCell, (HBK3.out.setRow _).setCell, setRow_setRow, (HBK3.out.setRow _).setCell, setRow_setRow, (HBK3.out.setRow _).setCell, setRow_setRow, (HBK3.out.setRow _).setCell, setRow_setRow]
  rw [e5]
  clear e5 hb4
  have u4 : Upd (fun k => k = nb) w3 (w3.setRow nb (b4.map u8V).toArray).drew := (Upd.setRow (S := fun k => k = nb) _ _ rfl).trans (Upd.drew _)
  have HBK4 : Hid (BK (w3.setRow nb (b4.map u8V).toArray).drew nb b4) := Lib.hid (HBK3.out.setRow b4)
  have HB4 := Lib.hid (HB3.out.trans (u4.toBelow (by rw [← HWN.out]; exact HB3.out.size) (fun k hk e => by have := HNB.out.1; omega)))
  have HR5 := Lib.hid (HR4.out.upd u4 ne1)
  have HO4 : Hid (OB mb (w3.setRow nb (b4.map u8V).toArray).drew (.slice p3 16 cp3) l3 ∧ l3.length = 16) := Lib.hid (And.intro (u4.owns HO3.out.1 (fun k e q => by have := (HO3.out.1.lt k e).1; have := HNB.out.2; omega)) HO3.out.2)
  clear u4 c0 c1 c2 c3 z0 z1 z2 z3 z4 f0 f1 f2 f3 f4 HBK3 HB3 HR4 HO3
  generalize (w3.setRow nb (b4.map u8V).toArray).drew = w4 at *
  have c0 : w4.cell? ⟨nw, 4, none⟩ = some (.int .i64 xs) := by rw [HR5.out.cell, HN.out]; rfl
  have c1 : w4.cell? ⟨nw, 5, none⟩ = some (.int .i64 xl) := by rw [HR5.out.cell, HN.out]; rfl
  have c2 : w4.cell? ⟨nw, 6, none⟩ = some (.int .i64 xup) := by rw [HR5.out.cell, HN.out]; rfl
  obtain ⟨xz0, z0⟩ : ∃ x, w4.cell? ⟨nb, 5, none⟩ = some (Value.int .u8 x) := ⟨_, HBK4.out.cell (i := 5) (by omega)⟩
  obtain ⟨xz1, z1⟩ : ∃ x, w4.cell? ⟨nb, 6, none⟩ = some (Value.int .u8 x) := ⟨_, HBK4.out.cell (i := 6) (by omega)⟩
  obtain ⟨xz2, z2⟩ : ∃ x, w4.cell? ⟨nb, 7, none⟩ = some (Value.int .u8 x) := ⟨_, HBK4.out.cell (i := 7) (by omega)⟩
  obtain ⟨xz3, z3⟩ : ∃ x, w4.cell? ⟨nb, 8, none⟩ = some (Value.int .u8 x) := ⟨_, HBK4.out.cell (i := 8) (by omega)⟩
  have fz : ∀ j, w4.frozen? ⟨nb, j, none⟩ = false := fun j => by have hb2 := HBK4.out; unfold BK at hb2; simp [World.frozen?, hb2]
  have f0 := fz 5
  have f1 := fz 6
  have f2 := fz 7
  have f3 := fz 8
  clear fz
  go_upto_region 11 with fail
  have HCL := Lib.hid (And.intro HN (And.intro HB4 (And.intro HR5 (And.intro HBK4 (And.intro HO4 (And.intro HNB (And.intro HWN hbl4)))))))
  clear HN HB4 HR5 HO4 HPS HNB HWN hbl4 HBK4
  go_region_held3 (fun wx => wx.cell? ⟨nw, 4, none⟩ = some (.int .i64 xs) ∧ wx.cell? ⟨nw, 5, none⟩ = some (.int .i64 xl) ∧ wx.cell? ⟨nw, 6, none⟩ = some (.int .i64 xup)) (go_keep) (fail)
  obtain ⟨HN, HB4, HR5, HBK4, HO4, HNB, HWN, hbl4⟩ := HCL.out
  clear HCL
  obtain ⟨b6, hb6⟩ : ∃ l : List Int, l = (((b4.set 5 (IntKind.u8.wrap xs)).set 6 (IntKind.u8.wrap (xs / 256))).set 7 (IntKind.u8.wrap xl)).set 8 (IntKind.u8.wrap xup) := ⟨_, rfl⟩
  have hbl6 : b6.length = 32 := by rw [hb6]; simp only [List.length_set]; exact hbl4
  have e6 : (((w4.setCell ⟨nb, 5, none⟩ (.int .u8 (IntKind.u8.wrap xs))).setCell ⟨nb, 6, none⟩ (.int .u8 (IntKind.u8.wrap (xs / 256)))).setCell ⟨nb, 7, none⟩ (.int .u8 (IntKind.u8.wrap xl))).setCell ⟨nb, 8, none⟩ (.int .u8 (IntKind.u8.wrap xup)) = w4.setRow nb (b6.map u8V).toArray := by
    rw [hb6, HBK4.out.setCell, (HBK4.out.setRow _).setCell, setRow_setRow, (HBK4.out.setRow _).setCell, setRow_setRow, (HBK4.out.setRow _).setCell, setRow_setRow]
  rw [e6]
  clear e6
  have u6 : Upd (fun k => k = nb) w4 (w4.setRow nb (b6.map u8V).toArray).drew := (Upd.setRow (S := fun k => k = nb) _ _ rfl).trans (Upd.drew _)
  have HBK6 : Hid (BK (w4.setRow nb (b6.map u8V).toArray).drew nb b6) := Lib.hid (HBK4.out.setRow b6)
  have HB6 := Lib.hid (HB4.out.trans (u6.toBelow (by rw [← HWN.out]; exact HB4.out.size) (fun k hk e => by have := HNB.out.1; omega)))
  have hA6 := u6.owns HO4.out.1 (fun k e q => by have := (HO4.out.1.lt k e).1; have := HNB.out.2; omega)
  clear u6 HBK4 HB4 HR5
  generalize (w4.setRow nb (b6.map u8V).toArray).drew = w6 at *
  have hat : At (Value.int .u8) 0 w6 (.slice p3 16 cp3) l3 := by have := OB.at hA6; exact this
  have HAT := Lib.hid hat
  rw [HO4.out.2] at hA6
  obtain ⟨b3, o3, e3, hc3⟩ := own_cells hA6 HO4.out.2 (by decide)
  subst e3
  obtain ⟨w7, hcp, hbk7, hu7⟩ := copy9 HBK6.out hbl6 HAT.out HO4.out.2
  have HF := Lib.hid (And.intro hbk7 hu7)
  have HBL := Lib.hid (And.intro hbl4 (And.intro hbl6 hb6))
  clear hbk7 hu7 hbl4 hbl6 hb6 hA6 hc3 hat c0 c1 c2 z0 z1 z2 z3 f0 f1 f2 f3
  go_wp2_with fail
  go_ret2
  refine ⟨nb, _, rfl, by have := HNB.out.1; rw [HWN.out]; omega, HF.out.1, ?_, by have hz := HWN.out; have q := HF.out.2.toBelow (B := nw) (by rw [← hz]; exact HB6.out.size) (fun k hk e => by have := HNB.out.1; omega); have r := HB6.out.trans q; rw [← hz] at r; exact r⟩
  have h6 := HBL.out.2.1
  have h3 := HO4.out.2
  simp only [splice, List.length_append, List.length_take, List.length_drop, h6, h3]
  decide
end Go.Proofs.YtlfemcbfclallaaGreatDoor
namespace Go.Proofs.YtlfemcbfclallaaGreatDoor
open Go.RowKit Go.Maps
set_option linter.unusedVariables false
set_option linter.unusedSimpArgs false
theorem ipackA_is {w : World} {x : Nd} (hp : At (Value.int .i64) 0 w x.pv x.ps) (hx : NdOk x ∨ x = nd0) (hpb : ∀ j, x.pv.ownBlock = some j → j < w.heap.size) : Calls Tryz.prog 46 #[.agg (ndA x)] w fun e w' => ∃ v l, e = .returned (.tuple #[v, .int .i64 0]) ∧ OB w.heap.size w' v l ∧ l.length = 32 ∧ Below w.heap.size w w' := by
  rcases hx with hx | rfl
  · refine (ipackNb_is hp hx hpb).mono ?_
    rintro e w' ⟨g, l, rfl, hg, hb, hl, hbl⟩
    refine ⟨_, l, rfl, ?_, hl, hbl⟩
    have := ob_of_bk hb hg (by rw [hl]; decide) (c := 32) hl.symm
    rw [hl] at this
    exact this
  · refine (ipack0_is w).mono ?_
    rintro e w' ⟨v, rfl, ho, hb⟩
    exact ⟨v, _, rfl, ho, zeros_len 32, hb⟩
def dirt (y : TM) (k : Nat) : Bool := (y.dy (2 * (k : Int) + 1)).isSome || (y.dy (2 * (k : Int) + 2)).isSome
def cntD (y : TM) (k : Nat) : Nat := ((List.range k).filter (dirt y)).length
theorem cntD_next (y : TM) (k : Nat) : cntD y (k + 1) = cntD y k + (if dirt y k then 1 else 0) := by
  unfold cntD
  rw [List.range_succ, List.filter_append, List.length_append]
  cases e : dirt y k <;> simp [e]
theorem cntD_mono (y : TM) {j k : Nat} (h : j ≤ k) : cntD y j ≤ cntD y k := by
  induction k with
  | zero => rw [Nat.le_zero.1 h]; exact Nat.le_refl _
  | succ k ih =>
    by_cases e : j = k + 1
    · rw [e]; exact Nat.le_refl _
    · have := ih (by omega)
      rw [cntD_next]
      omega
theorem cntD_le (y : TM) (k : Nat) (h : k < 16) : cntD y k ≤ cntD y 16 := cntD_mono y (by omega)
theorem encT_b (o : Option Unit) : encT o = .bool o.isSome := by cases o <;> rfl
section
variable {w0 w : World} {c : FC} {x : FM} {t : Nat} {y : TM}
theorem TX.same (h : TX w0 w c x t y) {k : Nat} (hk : k < 16) : w.cell? ⟨t, 1 + k, none⟩ = some (.int .i64 (y.G k)) ∧ w.frozen? ⟨t, 1 + k, none⟩ = false ∧ TX w0 (w.setCell ⟨t, 1 + k, none⟩ (.int .i64 (y.G k))) c x t y := by
  have e1 : (txR c y)[1 + k]? = some (.int .i64 (y.G k)) := by
    rw [txR_G c y (by omega)]
    unfold fV
    rw [if_pos (by omega)]
  refine ⟨by rw [h.row.cell, e1], h.row.fz _, ?_⟩
  have := h.forest (G := y.G) (A := (txR c y).setIfInBounds (1 + k) (.int .i64 (y.G k))) (by
    apply Array.ext_getElem?
    intro j
    rw [Array.getElem?_setIfInBounds]
    by_cases e : 1 + k = j
    · subst e
      rw [if_pos rfl, if_pos (by rw [txR_size]; omega), e1]
    · rw [if_neg e]) h.lone h.fr
  rw [h.row.setCell]
  exact this
theorem TX.lookD (h : TX w0 w c x t y) {n : Int} (hn : (Lit.int .i64 n).wf = true) : (Instr.lookup 243 (.map (some y.db)) (.int .i64 n) false).run Tryz.prog w = .ok (.bool (y.dy n).isSome) w := by
  have := h.db.look (T := 243) Tryz.underlying243 (zeroT w) hn
  rw [← encT_b]
  exact this
attribute [local go_sem ↓] ld_ino st_ino2 appB_eq
set_option maxRecDepth 100000 in
set_option maxHeartbeats 2000000 in
theorem end_is (h : TX w0 w c x t y) (hok : ∀ i, i < 32 → NdOk (y.nd i) ∨ y.nd i = nd0) (hG : ∀ k, k < 16 → 5 ≤ y.G k ∧ y.G k < 256) (hgl : y.gv = .slice none 0 0) (hn : x.na + y.np + cntD y 16 + 4 ≤ 30) (hpt : ∀ j, 1 ≤ j → j ≤ 4 → y.pt j = none) :
    Calls Tryz.prog 57 #[.pointer (some ⟨t, 0, none⟩)] w fun e w' => e = .returned (.int .i64 0) ∧ (∃ P n B, n ≤ y.np + cntD y 16 + 4 ∧ (∀ j : Int, (∀ i, i < 16 → dirt y i = true → j ≠ (y.G i : Int)) → ¬ (1 ≤ j ∧ j ≤ 4) → P j = y.pt j ∧ B j = y.pby j) ∧ FSt w' c (keptM x { y with pt := P, np := n, pby := B } w0.heap.size w'.heap.size)) ∧ Upd (fun j => j = c.F ∨ j = x.a) w0 w' := by
  have HFI := Lib.hid (fits_is h)
  have HH := Lib.hid h
  have HGL := Lib.hid hgl
  have HX := Lib.hid (And.intro hok (And.intro hG (And.intro hn hpt)))
  clear h hok hG hn hpt hgl
  go_enter Tryz.func57, Tryz.ntmps57
  go_wp2_with (go_at_call 120; (with_reducible refine HFI.out.mono ?_); rintro e1 w1 ⟨rfl, rfl⟩)
  go_loopw [14] (fun iv wr => ∃ k : Nat, k ≤ 16 ∧ iv = .int .i64 k ∧ Hid (TX w0 wr c x t y) ∧ Hid (Upd (tMut t y) w wr)) (fun iv _ => 16 - (intOf iv).toNat)
  case atStart => exact ⟨0, by omega, rfl, HH, Lib.hid (Upd.refl _ _)⟩
  case round =>
    obtain ⟨k, hk0, rfl, HT, HU⟩ := hrel
    by_cases hk : k < 16
    · have i1 : (k : Int) < 16 := by omega
      have i0 : (0 : Int) ≤ k := by omega
      have y1 : IntKind.i64.wrap (2 * (k : Int)) = 2 * k := IntWalk.i64_in _ (by omega)
      have y2 : IntKind.i64.wrap (2 * (k : Int) + 1) = 2 * k + 1 := IntWalk.i64_in _ (by omega)
      have y3 : IntKind.i64.wrap (2 * (k : Int) + 2) = 2 * k + 2 := IntWalk.i64_in _ (by omega)
      have c4 := HT.out.c4
      have l1 := HT.out.lookD (n := 2 * (k : Int) + 1) (WalkArith.wf_i64 (by omega))
      have l2 := HT.out.lookD (n := 2 * (k : Int) + 2) (WalkArith.wf_i64 (by omega))
      obtain ⟨b1, hb1⟩ : ∃ b, b = (y.dy (2 * (k : Int) + 1)).isSome := ⟨_, rfl⟩
      obtain ⟨b2, hb2⟩ : ∃ b, b = (y.dy (2 * (k : Int) + 2)).isSome := ⟨_, rfl⟩
      rw [← hb1] at l1
      rw [← hb2] at l2
      clear hb1 hb2
      have HS := Lib.hid (fun wx (hx : TX w0 wx c x t y) => hx.same hk)
      have hdr := HT.out.keep (Below.refl wr.heap.size wr).drew
      have HOW := Lib.hid (ownP_is hdr (p := (y.G k : Int)) (by have := (HX.out.2.1 k hk).1; omega))
      have HDR := Lib.hid hdr
      obtain ⟨cc, -, -⟩ := HT.out.same hk
      clear hdr
      rcases b1 with _ | _ <;> rcases b2 with _ | _
      · go_upto_region 7 with fail
        go_roundw
        case rel => exact ⟨k + 1, by omega, by go_num, HT, HU⟩
        case measure => simp [intOf]; omega
      all_goals
        go_upto_region 7 with fail
        go_region_law (go_simp; go_at_call 121; refine HOW.out.mono ?_; rintro e3 w3 ⟨rfl, hb3⟩; have hT3 := HDR.out.keep hb3; obtain ⟨cc3, z3, hT4⟩ := HS.out w3 hT3; have HT4 := Lib.hid hT4; have HU3 : Hid (Upd (tMut t y) w w3) := Lib.hid ((HU.out.trans (Upd.drew wr)).trans (Upd.below hb3)); clear hT3 hT4 hb3)
        have HT5 := HT4
        have HU5 : Hid (Upd (tMut t y) w (w3.setCell ⟨t, 1 + k, none⟩ (.int .i64 (y.G k)))) := Lib.hid (HU3.out.trans (Upd.set w3 _ (.inl rfl)))
        clear HT4 HU3 cc3 z3
        generalize w3.setCell ⟨t, 1 + k, none⟩ (.int .i64 (y.G k)) = w5 at *
        go_wp2_with fail
        go_roundw
        case rel => exact ⟨k + 1, by omega, by go_num, HT5, HU5⟩
        case measure => simp [intOf]; omega
    · have hk16 : ¬ (k : Int) < 16 := by omega
      have c7 := HT.out.c7
      go_wp2_with fail
      have HT0 : Hid (∃ P n B, TX w0 wr c x t { y with pt := P, np := n, pby := B } ∧ n ≤ y.np + cntD y 0 ∧ (∀ j, (∀ i, i < 0 → dirt y i = true → j ≠ (y.G i : Int)) → P j = y.pt j ∧ B j = y.pby j)) := Lib.hid ⟨y.pt, y.np, y.pby, HT.out, Nat.le_add_right _ _, fun _ _ => ⟨rfl, rfl⟩⟩
      clear HT c7
      go_loopw [2, 57] (fun rv iv wr => ∃ k : Nat, k ≤ 16 ∧ rv = .int .i64 0 ∧ iv = .int .i64 k ∧ Hid (∃ P n B, TX w0 wr c x t { y with pt := P, np := n, pby := B } ∧ n ≤ y.np + cntD y k ∧ (∀ j, (∀ i, i < k → dirt y i = true → j ≠ (y.G i : Int)) → P j = y.pt j ∧ B j = y.pby j)) ∧ Hid (Upd (tMut t y) w wr)) (fun _ iv _ => 16 - (intOf iv).toNat)
      case atStart => exact ⟨0, by omega, rfl, rfl, HT0, HU⟩
      case round =>
        clear HT0 HU
        obtain ⟨k, hk0, rfl, rfl, HQ, HU⟩ := hrel
        obtain ⟨P, n, B, hT, hnp, hoff⟩ := HQ.out
        have HT := Lib.hid hT
        have HO := Lib.hid (And.intro hnp hoff)
        clear hT hnp hoff HQ
        by_cases hk : k < 16
        · have i1 : (k : Int) < 16 := by omega
          have i0 : (0 : Int) ≤ k := by omega
          have y1 : IntKind.i64.wrap (2 * (k : Int)) = 2 * k := IntWalk.i64_in _ (by omega)
          have y2 : IntKind.i64.wrap (2 * (k : Int) + 1) = 2 * k + 1 := IntWalk.i64_in _ (by omega)
          have y3 : IntKind.i64.wrap (2 * (k : Int) + 2) = 2 * k + 2 := IntWalk.i64_in _ (by omega)
          have c4 := HT.out.c4
          have l1 := HT.out.lookD (n := 2 * (k : Int) + 1) (WalkArith.wf_i64 (by omega))
          have l2 := HT.out.lookD (n := 2 * (k : Int) + 2) (WalkArith.wf_i64 (by omega))
          simp only at c4 l1 l2
          obtain ⟨b1, hb1⟩ : ∃ b, b = (y.dy (2 * (k : Int) + 1)).isSome := ⟨_, rfl⟩
          obtain ⟨b2, hb2⟩ : ∃ b, b = (y.dy (2 * (k : Int) + 2)).isSome := ⟨_, rfl⟩
          rw [← hb1] at l1
          rw [← hb2] at l2
          have hdt : dirt y k = (b1 || b2) := by unfold dirt; rw [hb1, hb2]
          have HDT := Lib.hid hdt
          clear hb1 hb2 hdt
          obtain ⟨C, hC⟩ := HT.out.nb
          simp only at hC
          have c3 := HT.out.c3
          simp only at c3
          have ld1 := hC.ld (i := 2 * k) (by omega)
          have HIP1 := Lib.hid (ipackA_is (w := wr) (x := y.nd (2 * k)) (HT.out.ps (2 * k) (by omega)).a (HX.out.1 _ (by omega)) (HT.out.ps (2 * k) (by omega)).lt)
          have HCC := Lib.hid hC
          have i32 : (2 * (k : Int)) < 32 := by omega
          have i33 : (2 * (k : Int) + 1) < 32 := by omega
          clear hC
          rcases b1 with _ | _ <;> rcases b2 with _ | _
          · go_upto_region 15 with fail
            go_roundw
            case rel => exact ⟨k + 1, by omega, by omega, Lib.hid ⟨P, n, B, HT.out, by have := HO.out.1; rw [cntD_next]; omega, fun j hj => HO.out.2 j (fun i hi => hj i (by omega))⟩⟩
            case measure => simp [intOf]; omega
          all_goals
            go_upto_region 16 with (go_at_call 46; (with_reducible refine HIP1.out.mono ?_); rintro e4 w4 ⟨v4, l4, rfl, ho4, hl4, hb4⟩)
            have hT4 := HT.out.keep hb4
            have c3' := hT4.c3
            simp only at c3'
            have hC4 := HCC.out.keep hb4
            have ld2 := hC4.ld (i := 2 * k + 1) (by omega)
            have HIP2 := Lib.hid (ipackA_is (w := w4) (x := y.nd (2 * k + 1)) (hT4.ps (2 * k + 1) (by omega)).a (HX.out.1 _ (by omega)) (hT4.ps (2 * k + 1) (by omega)).lt)
            have HO4 := Lib.hid (And.intro ho4 hl4)
            have HB4 := Lib.hid hb4
            clear hT4 hC4 ho4 hb4 ld1 l1 l2 c4 c3 HIP1
            go_upto_region 19 with (go_at_call 46; (with_reducible refine HIP2.out.mono ?_); rintro e5 w5 ⟨v5, l5, rfl, ho5, hl5, hb5⟩)
            have hB5 := HB4.out.trans (hb5.mono HB4.out.size)
            have HB5 := Lib.hid hB5.drew
            have ho5' := ho5
            unfold OB at ho5'
            rw [hl5] at ho5'
            obtain ⟨p5, cp5, e5⟩ := own_form ho5'
            subst e5
            obtain ⟨b5, o5, e5, hcl⟩ := own_cells ho5' hl5 (by decide)
            subst e5
            have ho4 := HO4.out.1.keep hb5
            have hl4 := HO4.out.2
            obtain ⟨p6, cp6, w6, hap, ho6, hb6⟩ := OB.app' (w := w5.drew) (n := 32) (c := cp5) ho4.drew (Nat.le_trans hB5.size (Nat.le_refl _)) hl5 hcl (by rw [hl4]; decide)
            rw [hl4] at hap ho6
            have hB6 : Below wr.heap.size wr w6 := hB5.drew.trans hb6
            have hT6 := HT.out.keep hB6
            have c6 := hT6.c5
            obtain ⟨k6, -, -⟩ := hT6.same hk
            simp only at c6 k6
            obtain ⟨g6, e6, hg60, hg61, hg62, hg63⟩ := own_block (show w6.ownsRow wr.heap.size 5 1 (.slice p6 64 cp6) 64 ((l4 ++ l5).map u8V) from by have := ho6; unfold OB at this; rw [List.length_append, hl4, hl5] at this; exact this) (by decide)
            subst e6
            have hl6 : (l4 ++ l5).length = 64 := by rw [List.length_append, hl4, hl5]
            obtain ⟨w7, hput, hm7, hg7⟩ := hT6.pb.put (T := 134) Tryz.underlying134 (k := (y.G k : Int)) (WalkArith.wf_i64 (by have := (HX.out.2.1 k hk).2; omega)) (show n < maxLen from by have h1 := HO.out.1; have h2 := HX.out.2.2.1; have h3 := cntD_le y k hk; unfold maxLen; omega) (g6, 0, 64, cp6)
            change (Instr.mapUpdate 134 (.map (some y.pb)) (.int .i64 (y.G k)) (.slice (some ⟨g6, 0, none⟩) 64 cp6)).run Tryz.prog _ = _ at hput
            have hI : Im (fun j => fMut c x j ∨ tMut t y j) w6 (encS (some (g6, 0, 64, cp6))) (l4 ++ l5) := ⟨by
              have := ho6.at
              exact this, fun j e q => by
              have e : g6 = j := by simpa [encS, Value.ownBlock] using e
              subst e
              rcases q with q | q
              · have := HT.out.fs.lt _ (HT.out.fs.bm _ q); have := HT.out.bl.size; omega
              · have := (HT.out.mlt (show tMut t { y with pt := P, np := n, pby := B } g6 from q)).2; omega⟩
            have hT7 := hT6.puts (fb := fun j => if j = (y.G k : Int) then l4 ++ l5 else B j) hg7 hm7 (fun q s' e => by
              by_cases e2 : q = (y.G k : Int)
              · rw [if_pos e2] at e
                injection e with e
                subst e
                right
                rw [if_pos e2]
                refine ⟨hI, hl6, ?_⟩
                have := HT.out.bl.size
                show w0.heap.size ≤ g6
                omega
              · rw [if_neg e2] at e
                left
                exact ⟨e, if_neg e2⟩)
            have HT7 := Lib.hid hT7
            have HU7 : Hid (Upd (tMut t y) w w7) := Lib.hid ((HU.out.trans (Upd.below hB6)).trans (Upd.grown hg7 (.inr (.inr (.inr (.inl rfl))))))
            have hT5 := HT.out.keep hB5.drew
            have d5 := hT5.c5
            obtain ⟨k5, -, -⟩ := hT5.same hk
            simp only at d5 k5
            have c7 := hT7.c5
            obtain ⟨k7, -, -⟩ := hT7.same hk
            simp only at c7 k7
            clear hT7 hg7 hm7 hI hT6 hB6 hb6 ho4 ho5' ho5 ho6 hT5 hB5 hb5 hcl c3' ld2 HIP2 hg60 hg61 hg62 hg63
            go_region_held3 (fun wx => wx.cell? ⟨t, 196, none⟩ = some (.map (some y.pb)) ∧ wx.cell? ⟨t, 1 + k, none⟩ = some (.int .i64 (y.G k))) (first | (with_reducible exact ⟨d5, k5⟩) | (with_reducible exact ⟨c6, k6⟩) | (with_reducible exact ⟨c7, k7⟩) | fail) (fail)
            have HQ7 : Hid (∃ P n B, TX w0 w7 c x t { y with pt := P, np := n, pby := B } ∧ n ≤ y.np + cntD y (k + 1) ∧ (∀ j, (∀ i, i < k + 1 → dirt y i = true → j ≠ (y.G i : Int)) → P j = y.pt j ∧ B j = y.pby j)) := Lib.hid ⟨_, _, _, HT7.out, by
              have h1 := HO.out.1
              have h2 : dirt y k = true := HDT.out
              rw [cntD_next, if_pos h2]
              show n + 1 ≤ _
              omega, fun j hj => by
              have hjk := hj k (by omega) HDT.out
              have := HO.out.2 j (fun i hi => hj i (by omega))
              exact ⟨(if_neg hjk).trans this.1, (if_neg hjk).trans this.2⟩⟩
            clear HT7 hap hput c6 k6 d5 k5 c7 k7
            go_wp2_with fail
            go_roundw
            case rel => exact ⟨k + 1, by omega, rfl, by go_num, HQ7, HU7⟩
            case measure => simp [intOf]; omega
        · obtain rfl : k = 16 := by omega
          have d6 := HT.out.c6
          have HKP := Lib.hid (keep_is HT.out (show x.na + n + 4 ≤ 30 from by have := HO.out.1; have := HX.out.2.2.1; omega) (fun j h1 h4 => by
            have := HO.out.2 j (fun i hi _ e => by have := (HX.out.2.1 i hi).1; omega)
            exact this.1.trans (HX.out.2.2.2 j h1 h4)))
          simp only at d6
          rw [HGL.out] at d6
          go_wp2_with fail
          refine wp_loop_rounds 1 ?_
          rw [rounds_succ]
          go_wp2_with (go_at_call 123; (with_reducible refine HKP.out.mono ?_); rintro e8 w8 ⟨rfl, ⟨y8, hP8, hF8, hD8⟩, hu8⟩)
          go_ret
          refine ⟨rfl, ⟨y8.pt, y8.np, y8.pby, ?_, fun j h1 h2 => ?_, ?_⟩, hu8⟩
          · have h1 := hP8.np
            have h2 := HO.out.1
            have h3 : ({ y with pt := P, np := n, pby := B } : TM).np = n := rfl
            omega
          · have h3 := hP8.off j h2
            have h4 := HO.out.2 j (fun i hi hd => h1 i hi hd)
            exact ⟨h3.1.trans h4.1, h3.2.trans h4.2⟩
          · have e : y8 = { y with pt := y8.pt, np := y8.np, pby := y8.pby } := hP8.eq
            rw [← e]
            exact hF8
end
end Go.Proofs.YtlfemcbfclallaaGreatDoor
namespace Go.Proofs.YtlfemcbfclallaaGreatDoor
open Go.RowKit Go.Maps
set_option linter.unusedVariables false
set_option linter.unusedSimpArgs false
section
variable {w0 w : World} {c : FC} {x : FM} {t : Nat} {y : TM}
attribute [local go_sem ↓] ld_ino st_ino2 appB_eq
set_option maxRecDepth 100000 in
set_option maxHeartbeats 1000000 in
theorem entries0_is (h : TX w0 w c x t y) {i : Nat} (hi : i < 32) (hps : (y.nd i).ps = []) (hsz : (y.nd i).sz = 0) {n : Int} (hn : n = i + 1) : Calls Tryz.prog 206 #[.pointer (some ⟨t, 0, none⟩), .int .i64 n] w fun e w' => e = .returned (.slice none 0 0) ∧ Below w.heap.size w w' := by
  have HN := Lib.hid (node_is h hi hn)
  have HP := Lib.hid (h.ps i hi)
  obtain ⟨N, hNd⟩ : ∃ N, N = y.nd i := ⟨_, rfl⟩
  rw [← hNd] at HN HP hps hsz
  have hsn := fun w => st0_new w (T := 120) (c := #[.int .i64 0, .int .i64 0, .int .i64 0, .int .i64 0, .int .i64 0, .int .i64 0, .int .i64 0, .slice none 0 0]) (cs := ndA N) rfl (by rw [ndA_size]; kernel_rfl) (ndA_one N (ip_one HP.out))
  have hA := HP.out.a
  rw [hps] at hA
  obtain ⟨ap, cp, hpv, -, mcp, -⟩ := hA
  have HPV := Lib.hid (And.intro hpv hsz)
  have mcp' : (cp : Int) ≤ 9223372036854775807 := by unfold maxLen at mcp; omega
  clear h hi hps hsz hNd hn hpv HP
  go_enter Tryz.func206, Tryz.ntmps206
  go_upto_region 2 with (go_at_call 118; refine HN.out.mono ?_; rintro e1 w1 ⟨rfl, hb1⟩; have HB1 := Lib.hid hb1; clear hb1)
  have hr2 := row_new w1 120 (ndA N)
  have HB2 := Lib.hid (HB1.out.trans ((Go.Joins.below_alloc1 w1 (.cells (ndA N) 120)).mono HB1.out.size))
  have c7 : (w1.alloc (.cells (ndA N) 120)).cell? ⟨w1.heap.size, 7, none⟩ = some (.slice ap 0 cp) := by rw [hr2.cell, ← show N.pv = .slice ap 0 cp from HPV.out.1]; rfl
  have c4 : (w1.alloc (.cells (ndA N) 120)).cell? ⟨w1.heap.size, 4, none⟩ = some (.int .i64 0) := by rw [hr2.cell, ← HPV.out.2]; rfl
  clear hr2 hsn HN HB1
  generalize w1.alloc (.cells (ndA N) 120) = w2 at *
  go_wp2_with fail
  refine wp_loop_rounds 1 ?_
  rw [rounds_succ]
  go_wp2_with fail
  go_ret
  exact ⟨rfl, HB2.out⟩
set_option maxRecDepth 100000 in
set_option maxHeartbeats 1000000 in
theorem entries1_is (h : TX w0 w c x t y) {i : Nat} (hi : i < 32) {p L : Nat} (hps : (y.nd i).ps = [(p : Int)]) (hp0 : p ≠ 0) (hp : p < 256) (hsz : (y.nd i).sz = L) (hL : L ≤ 64) {n : Int} (hn : n = i + 1) : Calls Tryz.prog 206 #[.pointer (some ⟨t, 0, none⟩), .int .i64 n] w fun e w' => ∃ v, e = .returned v ∧ At (Value.int .u8) 0 w' v ((tsec x y p).take L) ∧ (∀ j, v.ownBlock = some j → w.heap.size ≤ j) ∧ Below w.heap.size w w' := by
  have HH := Lib.hid h
  have HN := Lib.hid (node_is h hi hn)
  have HP := Lib.hid (h.ps i hi)
  have HTL := Lib.hid (tsec_len h hp)
  obtain ⟨N, hNd⟩ : ∃ N, N = y.nd i := ⟨_, rfl⟩
  rw [← hNd] at HN HP hps hsz
  have hsn := fun w => st0_new w (T := 120) (c := #[.int .i64 0, .int .i64 0, .int .i64 0, .int .i64 0, .int .i64 0, .int .i64 0, .int .i64 0, .slice none 0 0]) (cs := ndA N) rfl (by rw [ndA_size]; kernel_rfl) (ndA_one N (ip_one HP.out))
  have hA := HP.out.a
  rw [hps] at hA
  obtain ⟨ap, cp, hpv, -, mcp, -⟩ := hA
  have HPV := Lib.hid (And.intro hpv (And.intro hsz (And.intro hps (And.intro hp0 hp))))
  have mcp' : (cp : Int) ≤ 9223372036854775807 := by unfold maxLen at mcp; omega
  clear h hi hps hsz hNd hn hpv hp0 hp
  go_enter Tryz.func206, Tryz.ntmps206
  go_upto_region 2 with (go_at_call 118; refine HN.out.mono ?_; rintro e1 w1 ⟨rfl, hb1⟩; have HB1 := Lib.hid hb1; clear hb1)
  have hr2 := row_new w1 120 (ndA N)
  have HB2 := Lib.hid (HB1.out.trans ((Go.Joins.below_alloc1 w1 (.cells (ndA N) 120)).mono HB1.out.size))
  have c7 : (w1.alloc (.cells (ndA N) 120)).cell? ⟨w1.heap.size, 7, none⟩ = some (.slice ap 1 cp) := by rw [hr2.cell, ← show N.pv = .slice ap 1 cp from HPV.out.1]; rfl
  have c4 : ∀ wx, Below (w1.alloc (.cells (ndA N) 120)).heap.size (w1.alloc (.cells (ndA N) 120)) wx → wx.cell? ⟨w1.heap.size, 4, none⟩ = some (.int .i64 L) := fun wx hx => by rw [(hr2.keep hx).cell, ← HPV.out.2.1]; rfl
  have HC4 := Lib.hid c4
  have l2 := hr2.ld0 Tryz.underlying120 rfl (by rw [ndA_size]; kernel_rfl)
  clear hr2 hsn HN HB1 c4
  generalize w1.alloc (.cells (ndA N) 120) = w2 at *
  have hT2 := HH.out.keep HB2.out
  have HBK := Lib.hid (block_is hT2 (n := N) ((HP.out.upd (S := fun _ => False) (Upd.below HB2.out) (fun _ _ e => e)).a) (by rw [HPV.out.2.2.1]; intro z hz; simp at hz; subst hz; have := HPV.out.2.2.2.2; omega) 0 (by decide))
  rw [HPV.out.2.2.1] at HBK
  have eb : bsec x y [(p : Int)] 0 = tsec x y p := by
    unfold bsec
    have hp0 : p ≠ 0 := HPV.out.2.2.2.1
    simp [hp0]
  rw [eb] at HBK
  have HBK : Hid (Calls Tryz.prog 131 #[.pointer (some ⟨t, 0, none⟩), .agg (ndA N), .int .i64 0] w2 fun e w' => ∃ v, e = .returned v ∧ NewB (tsec x y p) w2 v w') := Lib.hid HBK.out
  clear hT2 eb
  go_wp2_with fail
  refine wp_loop_rounds 2 ?_
  rw [rounds_succ]
  go_upto_region 7 with (go_at_call 131; (with_reducible refine HBK.out.mono ?_); rintro e3 w3 ⟨v3, rfl, ho3, hb3⟩; obtain ⟨p3, c3, rfl⟩ := own_form ho3; obtain ⟨b3, o3, rfl, hcl⟩ := own_cells ho3 rfl (by rw [HTL.out]; decide); rw [HTL.out]; obtain ⟨p4, c4, w4, hap, ho4, hb4⟩ := (OB.nil w2.heap.size w3).app' (a := ⟨b3, o3, none⟩) (c := c3) (news := tsec x y p) (n := 64) hb3.size HTL.out hcl (by decide); have hap : (appB #[.slice none 0 0, .slice (some ⟨b3, o3, none⟩) 64 c3]).run Tryz.prog w3 = .ok (.slice p4 64 c4) w4 := hap)
  have HB4 := Lib.hid (HB2.out.trans ((Below.trans hb3 hb4).mono HB2.out.size))
  have d4 := HC4.out w4 (Below.trans hb3 hb4)
  have ho4 : OB w2.heap.size w4 (.slice p4 64 c4) (tsec x y p) := ho4
  have ha4 := ho4.at
  unfold OB at ho4
  rw [HTL.out] at ho4
  obtain ⟨g4, rfl, hg0, hg1, hg2, hg3⟩ := own_block ho4 (by decide)
  have hmx : (c4 : Int) ≤ 9223372036854775807 := by unfold maxLen at hg3; omega
  have hLc : (L : Int) ≤ c4 := by omega
  have hL64 : (L : Int) ≤ 64 := by omega
  have HA4 : Hid (At (Value.int .u8) 0 w4 (.slice (some ⟨g4, 0, none⟩) L c4) ((tsec x y p).take L)) := Lib.hid (by
    obtain ⟨a', c', e, h1, h2, h3⟩ := ha4
    rw [HTL.out] at e h1
    injection e with e1 _ e3
    subst e1 e3
    have hl : ((tsec x y p).take L).length = L := by rw [List.length_take, HTL.out]; omega
    refine ⟨_, c4, by rw [hl], by rw [hl]; omega, h2, ?_⟩
    rcases h3 with e | ⟨b, o, e, hb, hc⟩
    · have := HTL.out; rw [e] at this; cases this
    · refine .inr ⟨b, o, e, hb, fun i hi => ?_⟩
      rw [hl] at hi
      rw [hc i (by rw [HTL.out]; omega)]
      congr 2
      simp [List.getD, List.getElem?_take, hi])
  have HG4 : Hid (w.heap.size ≤ g4) := Lib.hid (Nat.le_trans HB2.out.size hg0)
  clear ha4 ho4 hap ho3 hb3 hb4 hcl hg0 hg1 hg2 hg3 l2 c7 HBK
  go_wp2_with fail
  rw [rounds_succ]
  go_wp2_with fail
  go_ret
  exact ⟨_, rfl, HA4.out, fun j e => by injection e with e; subst e; exact HG4.out, HB4.out⟩
end
end Go.Proofs.YtlfemcbfclallaaGreatDoor
