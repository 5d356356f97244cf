/- The walk of kernel.fork from any state, with the child's cred and directory. Printed by gen_fork3.py. The kernel while it serves: from one state to another. No walk here. The walks of wrap.Far, and of wheel.Step at a wheel without timers. -/
import Derived.Test.YtafflkemnniegaaGreatDoorKerT
import Derived.Test.YtafflkemnniegaaGreatDoorKerQ
import Derived.BigQuiet
namespace Go.Proofs.YtafflkemnniegaaGreatDoor
open Go.RowKit
set_option linter.unusedVariables false
set_option linter.unusedSimpArgs false
theorem apI_nil3 {vm : Value} (hvm : vm = .slice none 0 0 ∨ ∃ b, vm = .slice (some ⟨b, 0, none⟩) 0 0) (w : World) (b : Nat) : (apI #[.slice (some ⟨b, 0, none⟩) 0 0, vm]).run Tryz.prog w = .ok (.slice (some ⟨b, 0, none⟩) 0 0) w := by
  rcases hvm with rfl | ⟨c, rfl⟩ <;> kernel_rfl
theorem apI_one2 {w : World} {b cp : Nat} {x : Int} (h : w.cell? ⟨b, 0, none⟩ = some (.int .i64 x)) (B : Nat) : ∃ g cap w', (apI #[.slice (some ⟨B, 0, none⟩) 0 0, .slice (some ⟨b, 0, none⟩) 1 cp]).run Tryz.prog w = .ok (.slice (some ⟨g, 0, none⟩) 1 cap) w' ∧ w.grownBy w' none ∧ w.heap.size ≤ g ∧ g < w'.heap.size ∧ 1 ≤ cap ∧ cap ≤ maxLen ∧ w'.cell? ⟨g, 0, none⟩ = some (.int .i64 x) := by
  obtain ⟨i0, hi, hz0, hz1, hz2⟩ := info_parts infoI
  obtain ⟨v', w', hr, ho, hg⟩ := run_append_arg_grows (P := Tryz.prog) (w := w) 22 22 3 i0 _ 1 8 Tryz.underlying22 hi hz0 hz1 hz2 rfl (by decide) ⟨B, 0, none⟩ 0 0 [] rfl (fun j u hu => by simp at hu) ⟨b, 0, none⟩ 1 cp [.int .i64 x] rfl (fun j u hu => by
    cases j with
    | zero => simp at hu; subst hu; exact h
    | succ j => simp at hu) (by decide) (by unfold maxLen; omega) (by decide)
  obtain ⟨ad, cap, rfl⟩ := own_form ho
  obtain ⟨g, rfl, h1, h2, h3, h4⟩ := own_block ho (by decide)
  exact ⟨g, cap, w', hr, hg, h1, h2, h3, h4, ho.cells (g := g) rfl 0 (.int .i64 x) rfl⟩
/-- as KOut, and a block that holds the child's directory -/
def KOutG (k : KC) (tag0 : Nat → Nat) (T : KSt → Nat → Int → Int → Int → Prop) (w : World) (X : Array Value) (w' : World) : Prop :=
  ∃ s g e a b, KT w' k s ∧ FarT tag0 w.heap.size s.tag ∧ w'.cell? ⟨g, 0, none⟩ = some (.int .i64 1) ∧ w.heap.size ≤ g ∧ s.tag g = 0 ∧ X = ansV e a b (.slice none 0 0) ∧ T s g e a b ∧ Upd (fun j => tag0 j ≠ 0) w w'
structure FkS2 (s0 : KSt) (k : KC) (w w1 : World) (s : KSt) (C : Array Value) (g : Nat) : Prop extends FkS s0 k w w1 s C where
  cg : w1.cell? ⟨g, 0, none⟩ = some (.int .i64 1)
  gl : w.heap.size + 2 ≤ g
  gt : s.tag g = 0
theorem FkS.to2 {s0 s : KSt} {k : KC} {w w1 : World} {C : Array Value} {g : Nat} (h : FkS s0 k w w1 s C) (h1 : w1.cell? ⟨g, 0, none⟩ = some (.int .i64 1)) (h2 : w.heap.size + 2 ≤ g) (h3 : s.tag g = 0) : FkS2 s0 k w w1 s C g := ⟨h, h1, h2, h3⟩
section
variable {w w1 w2 : World} {k : KC} {s0 s s' : KSt} {C : Array Value} {g : Nat}
theorem FkS2.step {S : Nat → Prop} (h : FkS2 s0 k w w1 s C g) (hk : KT w2 k s') (hu : Upd S w1 w2) (hS : ∀ j, S j → s.tag j ≠ 0) (hf : ∀ j, s'.tag j ≠ 0 → s.tag j ≠ 0 ∨ w1.heap.size ≤ j) : FkS2 s0 k w w2 s' C g := by
  have hlt := World.block_lt_of_cell? w1 _ h.cg
  refine ⟨h.toFkS.step hk hu hS hf, (hu.cell hlt (fun q => hS g q h.gt)).trans h.cg, h.gl, ?_⟩
  cases Nat.eq_zero_or_pos (s'.tag g) with
  | inl e => exact e
  | inr e =>
    rcases hf g (by omega) with q | q
    · exact absurd h.gt q
    · have q' : w1.heap.size ≤ g := q
      have hlt' : g < w1.heap.size := hlt
      omega
theorem FkS2.keep (h : FkS2 s0 k w w1 s C g) (hb : Below w1.heap.size w1 w2) : FkS2 s0 k w w2 s C g := h.step (S := fun _ => False) (h.kt.keep hb) (Upd.below hb) (fun _ e => e.elim) (fun _ e => .inl e)
theorem FkS2.row (h : FkS2 s0 k w w1 s C g) (C' : Array Value) : FkS2 s0 k w (w1.setRow (w.heap.size + 1) C') s C' g := by
  have u : Upd (fun j => j = w.heap.size + 1) w1 (w1.setRow (w.heap.size + 1) C') := Upd.setRow _ _ rfl
  exact ⟨h.toFkS.row C', (u.cell (World.block_lt_of_cell? w1 _ h.cg) (fun q => by have q : g = w.heap.size + 1 := q; have := h.gl; omega)).trans h.cg, h.gl, h.gt⟩
theorem FkS2.cell (h : FkS2 s0 k w w1 s C g) (i : Nat) (v : Value) : FkS2 s0 k w (w1.setCell ⟨w.heap.size + 1, i, none⟩ v) s (C.setIfInBounds i v) g := by
  rw [h.rt.setCell]
  exact h.row _
theorem FkS2.fincg (h : FkS2 s0 k w w1 s C g) (X : Array Value) : (w1.setRow w.heap.size X).cell? ⟨g, 0, none⟩ = some (.int .i64 1) := by
  have u : Upd (fun j => j = w.heap.size) w1 (w1.setRow w.heap.size X) := Upd.setRow _ _ rfl
  exact (u.cell (World.block_lt_of_cell? w1 _ h.cg) (fun q => by have q : g = w.heap.size := q; have := h.gl; omega)).trans h.cg
end
section
variable {w0 w : World} {k : KC} {s : KSt} {p c : Nat} {T : KSt → Nat → Int → Int → Int → Prop}
attribute [local go_sem ↓] ld_ans st_ans ld_tsk st_tsk ld_sig st_sig apI_eq apM_eq sl_mnt bd_ans
set_option maxRecDepth 100000 in
set_option maxHeartbeats 1000000 in
theorem kfork3_is (h : KT w0 k s) (hp : ProcLaw.alive s.t p) (h1 : ∀ j, j < 38 → (s.c (8 + p * 38 + j)).oneCell' = true) {s1 : Int} {b s2 : Nat} (hsp : s.c (8 + p * 38) = .int .i64 s1) (hm : MayFork s.m s1 b s2)
    (c1 : 1 ≤ c) (c16 : c ≤ 16) (hc : (s.t c).st = 0) (hcb : ∀ j, 1 ≤ j → j < c → (s.t j).st ≠ 0) {vm : Value} (hmo : s.c (8 + p * 38 + 13) = vm) (hvm : vm = .slice none 0 0 ∨ ∃ b, vm = .slice (some ⟨b, 0, none⟩) 0 0) {bw : Nat} (hcw : s.cw p = some bw) (hmt : s.c (8 + p * 38 + 18) = .slice none 0 0) (hsg : ∀ j, j < 18 → s.c (8 + p * 38 + 19 + j) = .int .i64 0) (hwn : s.cw c = none) (hid : idG s.l c = none) (hll : s.l.length < 1000) (hpc : p ≠ c) (hfd : ∀ i, i < 8 → s.fd (c * 8 + i) = 0) (hfs : ∀ k, k < 32 → 0 ≤ (s.fs k).n ∧ (s.fs k).n ≤ 200)
    (hT : ∀ m' nb (c' : Nat → Value) tag' ad' cap' (gg cp2 b5 : Nat), (∀ i, 11 ≤ i → i ≤ 16 → i ≠ 13 → c' (8 + c * 38 + i) = s.c (8 + p * 38 + i)) → c' (8 + c * 38 + 13) = .slice (some ⟨b5, 0, none⟩) 0 0 → c' (8 + c * 38 + 17) = .slice (some ⟨gg, 0, none⟩) 1 cp2 → c' (8 + c * 38 + 18) = .slice none 0 0 → 1 ≤ cp2 → cp2 ≤ maxLen → w0.heap.size ≤ nb → Forked s.m m' s1 s2 b nb → (∀ j, (j < 8 + c * 38 ∨ 8 + c * 38 + 38 ≤ j) → c' j = s.c j) → c' (8 + c * 38) = .int .i64 s2 → (∀ j, j < 18 → c' (8 + c * 38 + 19 + j) = .int .i64 0) → c' (8 + c * 38 + 37) = s.c (8 + p * 38 + 37) → (∀ i, 4 ≤ i → i ≤ 10 → c' (8 + c * 38 + i) = s.c (8 + p * 38 + i)) → (∀ i, 1 ≤ i → i ≤ 3 → c' (8 + c * 38 + i) = .int .u32 0) → (∀ j, j < 38 → (c' (8 + c * 38 + j)).oneCell' = true) → T { tag := tag', c := c', t := ProcLaw.forked s.t c p, fs := OpenLaw.fkF s.fs (fun i => s.fd (p * 8 + i)) 8, fd := OpenLaw.cpD s.fd p c 8, ad := ad', cap := cap', l := enterL s.l c s.nc, m := m', cw := s.cw, nc := s.nc, tk := s.tk, fr := s.fr, sl := s.sl, wn := s.wn, wv := s.wv, wl := s.wl } gg 0 c 0) :
    Spec w0 (KOutG k s.tag T) 127 #[.pointer (some ⟨k.K, 0, none⟩), .int .i64 p] := by
  intro w h0
  have hk := (h.keep h0).keep (Go.Joins.below_alloc1 w (.cells ansZ 35))
  obtain ⟨p1, p16, pst⟩ := hp
  have l1 := ld_task_at hk.kr (o := 8 + p * 38) (by omega)
  have i17 : (p : Int) < 17 := by omega
  have j17 : (c : Int) < 17 := by omega
  obtain ⟨C0, hC0⟩ : ∃ C0, C0 = tskA s.c (8 + p * 38) := ⟨_, rfl⟩
  have hst := st0_new (w.alloc (.cells ansZ 35)) (T := 68) (c := #[.int .i64 0, .int .u32 0, .int .u32 0, .int .u32 0, .int .u32 0, .int .u32 0, .int .u32 0, .int .u32 0, .int .u32 0, .int .u32 0, .int .i64 0, .int .i64 0, .int .i64 0, .slice none 0 0, .int .i64 0, .int .i64 0, .int .i64 0, .slice none 0 0, .slice none 0 0, .int .i64 0, .int .i64 0, .int .i64 0, .int .i64 0, .int .i64 0, .int .i64 0, .int .i64 0, .int .i64 0, .int .i64 0, .int .i64 0, .int .i64 0, .int .i64 0, .int .i64 0, .int .i64 0, .int .i64 0, .int .i64 0, .int .i64 0, .int .i64 0, .bool false]) (cs := tskA s.c (8 + p * 38)) (by rw [tskA_size]; rfl) (by rw [tskA_size]; kernel_rfl) (tskA_one h1)
  rw [size_alloc1] at hst
  have hS : FkS s k w ((w.alloc (.cells ansZ 35)).alloc (.cells C0 68)) s C0 := by
    have z : ∀ j, w.heap.size ≤ j → s.tag j = 0 := fun j hj => h.tz j (Nat.le_trans h0.size hj)
    have rt := row_new (w.alloc (.cells ansZ 35)) 68 C0
    rw [size_alloc1] at rt
    exact ⟨hk.keep (Go.Joins.below_alloc1 _ _), (row_new w 35 ansZ).alloc _, rt, (Upd.alloc _ _).trans (Upd.alloc _ _), fun j hj => .inl hj, z⟩
  have HMK := Lib.hid (forkG_is (hS.kt.me.keep (Below.refl _ _).drew) hm.hs hm.wf hm.h1 hm.h16 hm.h0 hm.bs hm.n hm.lone hm.pl hm.nF)
  have HS := Lib.hid hS
  have HH := Lib.hid h
  have H0 := Lib.hid h0
  have HCC := Lib.hid (And.intro hC0 (And.intro hsp h1))
  have HP := Lib.hid (And.intro (⟨p1, p16, pst⟩ : ProcLaw.alive s.t p) (And.intro c1 (And.intro c16 (And.intro hc hcb))))
  have HFD := Lib.hid (And.intro hpc (And.intro hfd hfs))
  rw [← hC0] at l1 hst
  have d0 : C0[0]? = some (.int .i64 s1) := by rw [hC0, tskA_get _ _ (by decide), Nat.add_zero, hsp]
  have HVM := Lib.hid hvm
  have HMO : Hid (C0[13]? = some vm) := Lib.hid (by rw [hC0, tskA_get _ _ (by decide), hmo])
  have HMT : Hid (C0[18]? = some (.slice none 0 0)) := Lib.hid (by rw [hC0, tskA_get _ _ (by decide), hmt])
  have HCW : Hid (∃ cp, C0[17]? = some (.slice (some ⟨bw, 0, none⟩) 1 cp)) := Lib.hid (by obtain ⟨⟨cp, q⟩, _⟩ := HH.out.cw p bw hcw; exact ⟨cp, by rw [hC0, tskA_get _ _ (by decide), q]⟩)
  have HWC := Lib.hid hcw
  have HWN := Lib.hid hwn
  have HT := Lib.hid hT
  have HID := Lib.hid (And.intro hid hll)
  have HTC : Hid (TskC C0 (.int .i64 s1) (s.c (8 + p * 38 + 37))) := Lib.hid (by
    rw [hC0]
    exact ⟨tskA_size _ _, tskA_one h1, fun j hj => by rw [tskA_get _ _ (by omega), show 8 + p * 38 + (19 + j) = 8 + p * 38 + 19 + j by omega, hsg j hj], by rw [tskA_get _ _ (by decide), Nat.add_zero, hsp], tskA_get _ _ (by decide)⟩)
  have HSG := Lib.hid hsg
  have HRG : Hid (∀ i, 4 ≤ i → i ≤ 10 → C0[i]? = some (s.c (8 + p * 38 + i))) := Lib.hid fun i h4 h10 => by rw [hC0, tskA_get _ _ (by omega)]
  clear h hk h0 hS hsp h1 hC0 hmo hvm hcw hmt hsg hwn hid hll hm hc hcb hpc hfd hfs pst
  have hz : ansZ = #[.int .i64 0, .int .i64 0, .int .i64 0, .slice none 0 0, .slice none 0 0, .int .i64 0, .int .i64 0, .int .i64 0, .int .i64 0, .int .i64 0, .int .i64 0] := rfl
  rw [hz] at l1 hst HS HMK
  go_enter Tryz.func127, Tryz.ntmps127
  go_upto_region 2 with fail
  generalize (w.alloc (.cells #[.int .i64 0, .int .i64 0, .int .i64 0, .slice none 0 0, .slice none 0 0, .int .i64 0, .int .i64 0, .int .i64 0, .int .i64 0, .int .i64 0, .int .i64 0] 35)).alloc (.cells C0 68) = w1 at *
  clear l1 hst hz
  have q1 : w1.cell? ⟨k.K, 1, none⟩ = some (.pointer (some ⟨k.M, 0, none⟩)) := by rw [HS.out.kt.kr.cell (by decide), HS.out.kt.c1]
  have b0 : w1.cell? ⟨w.heap.size + 1, 0, none⟩ = some (.int .i64 s1) := by rw [HS.out.rt.cell, d0]
  go_region_held3 (fun wx => wx.cell? ⟨k.K, 1, none⟩ = some (.pointer (some ⟨k.M, 0, none⟩)) ∧ wx.cell? ⟨w.heap.size + 1, 0, none⟩ = some (.int .i64 s1)) (first | exact ⟨q1, b0⟩ | exact hS2 | assumption)
    ((go_at_call 213; (with_reducible refine HMK.out.mono ?_); rintro e2 w2 ⟨rfl, m', nb, hnb, hfk, hm2, hu2⟩; have hk2 := (HS.out.kt.keep (Below.refl _ _).drew).mem hm2 hu2 (fun j e => hfk.mB hnb e); have HS2 := Lib.hid (HS.out.step hk2 ((Upd.drew w1).trans hu2) (fun j e => by rw [HS.out.kt.tM j e]; decide) (fun j e => tg_ne e)); have hS2 := And.intro ((HS2.out.kt.kr.cell (j := 1) (by decide)).trans (congrArg some HS2.out.kt.c1)) ((HS2.out.rt.cell 0).trans d0); have HFK := Lib.hid hfk; clear hk2 hm2 hu2 hfk))
  have HNB : Hid (w0.heap.size ≤ nb) := Lib.hid (by have h1 := H0.out.size; have h2 := HS.out.rt.lt; have h3 : w1.heap.size ≤ nb := hnb; omega)
  have q7 : w2.cell? ⟨k.K, 7, none⟩ = some (.pointer (some ⟨k.Pr, 0, none⟩)) := by rw [HS2.out.kt.kr.cell (by decide), HS2.out.kt.c7]
  have HPF := Lib.hid (forkP_is HS2.out.kt.pr HP.out.1 c1 c16 HP.out.2.2.2.1 HP.out.2.2.2.2)
  clear q1 b0 hS2 HMK HS
  go_upto_region 10 with (first | (go_at_call 214; refine HPF.out.mono ?_; rintro e3 w3 ⟨rfl, hu3, ht3⟩; have hk3 := HS2.out.kt.procs ht3 hu3; have HS3 := Lib.hid (HS2.out.step hk3 hu3 (fun j e => by rw [e, HS2.out.kt.tPr]; decide) (fun j e => .inl e)); have q6 : w3.cell? ⟨k.K, 6, none⟩ = some (.pointer (some ⟨k.Fi, 0, none⟩)) := (by rw [HS3.out.kt.kr.cell (by decide), HS3.out.kt.c6]); have HOF := Lib.hid (OpenLaw.fork_is HS3.out.kt.fi p1 p16 c1 c16 HFD.out.1 HFD.out.2.1 HFD.out.2.2); clear hk3 ht3 hu3) | (go_at_call 215; refine HOF.out.mono ?_; rintro e4 w4 ⟨rfl, hkb, hf4⟩; have hk4 := HS3.out.kt.files hf4 (kb_upd hkb rfl); have HS4 := Lib.hid (HS3.out.step hk4 (kb_upd (S := fun j => j = k.Fi) hkb rfl) (fun j e => by rw [e, HS3.out.kt.tFi]; decide) (fun j e => .inl e)); clear hk4 hkb hf4))
  have f4 := HS4.out.rt.fz 0
  have b4 : w4.cell? ⟨w.heap.size + 1, 0, none⟩ = some (.int .i64 s1) := by rw [HS4.out.rt.cell, d0]
  clear q7 q6 HPF HOF HS2 HS3
  go_upto_region 11 with fail
  have HS5 := Lib.hid (HS4.out.cell 0 (.int .i64 s2))
  generalize w4.setCell ⟨w.heap.size + 1, 0, none⟩ (.int .i64 s2) = w5 at *
  clear f4 b4 HS4
  have HA5 := Lib.hid (HS5.out.keep (Go.Joins.below_alloc1 w5 (.cells #[] 3)))
  have f5 := HA5.out.rt.fz 13
  have b5 : (w5.alloc (.cells #[] 3)).cell? ⟨w.heap.size + 1, 13, none⟩ = some vm := by rw [HA5.out.rt.cell, Array.getElem?_setIfInBounds, if_neg (by decide), HMO.out]
  have hap := apI_nil3 HVM.out (w5.alloc (.cells #[] 3)) w5.heap.size
  go_upto_region 12 with fail
  have HS6 := Lib.hid (HA5.out.cell 13 (.slice (some ⟨w5.heap.size, 0, none⟩) 0 0))
  clear hap f5 b5 HA5 HS5
  generalize (w5.alloc (.cells #[] 3)).setCell ⟨w.heap.size + 1, 13, none⟩ (.slice (some ⟨w5.heap.size, 0, none⟩) 0 0) = w6 at *
  have HA6 := Lib.hid (HS6.out.keep (Go.Joins.below_alloc1 w6 (.cells #[] 3)))
  obtain ⟨cp, hcp⟩ := HCW.out
  obtain ⟨_, hwc, _⟩ := HA6.out.kt.cw p bw HWC.out
  have b6 : (w6.alloc (.cells #[] 3)).cell? ⟨w.heap.size + 1, 17, none⟩ = some (.slice (some ⟨bw, 0, none⟩) 1 cp) := by rw [HA6.out.rt.cell, Array.getElem?_setIfInBounds, if_neg (by decide), Array.getElem?_setIfInBounds, if_neg (by decide), hcp]
  obtain ⟨gg, cap, w7, hap, hg7, g1, g2, g3, g4, g5⟩ := apI_one2 (cp := cp) hwc w6.heap.size
  have HA7 := Lib.hid (FkS.to2 (g := gg) (HA6.out.keep ⟨hg7.os, hg7.tape, hg7.output, hg7.size, fun i hi => hg7.block i hi (by simp)⟩) g5 (Nat.le_trans HA6.out.rt.lt g1) (HA6.out.kt.tz gg g1))
  have HGG := Lib.hid (And.intro g3 g4)
  have f7 := HA7.out.rt.fz 17
  have b7 : w7.cell? ⟨w.heap.size + 1, 17, none⟩ = some (.slice (some ⟨bw, 0, none⟩) 1 cp) := by rw [HA7.out.rt.cell, ← HA6.out.rt.cell, b6]
  clear hg7 hwc g1 g2 g3 g4 g5
  go_upto_region 13 with fail
  have HS8 := Lib.hid (HA7.out.cell 17 (.slice (some ⟨gg, 0, none⟩) 1 cap))
  clear hap f7 b7 b6 HA7 HA6 HS6
  generalize w7.setCell ⟨w.heap.size + 1, 17, none⟩ (.slice (some ⟨gg, 0, none⟩) 1 cap) = w8 at *
  have f8 := HS8.out.rt.fz 18
  have b8 : w8.cell? ⟨w.heap.size + 1, 18, none⟩ = some (.slice none 0 0) := by rw [HS8.out.rt.cell, Array.getElem?_setIfInBounds, if_neg (by decide), Array.getElem?_setIfInBounds, if_neg (by decide), Array.getElem?_setIfInBounds, if_neg (by decide), HMT.out]
  have hsl := slM_nil
  have hap := apM_nil
  go_region
  have HS9 := Lib.hid ((HS8.out.cell 18 (.slice none 0 0)).keep (Below.refl _ _).drew)
  have HC9 : Hid ((∀ i, 11 ≤ i → i ≤ 16 → i ≠ 13 → ((((C0.setIfInBounds 0 (Value.int IntKind.i64 s2)).setIfInBounds 13 (.slice (some ⟨w5.heap.size, 0, none⟩) 0 0)).setIfInBounds 17 (.slice (some ⟨gg, 0, none⟩) 1 cap)).setIfInBounds 18 (.slice none 0 0))[i]? = some (s.c (8 + p * 38 + i))) ∧ ((((C0.setIfInBounds 0 (Value.int IntKind.i64 s2)).setIfInBounds 13 (.slice (some ⟨w5.heap.size, 0, none⟩) 0 0)).setIfInBounds 17 (.slice (some ⟨gg, 0, none⟩) 1 cap)).setIfInBounds 18 (.slice none 0 0))[13]? = some (.slice (some ⟨w5.heap.size, 0, none⟩) 0 0) ∧ ((((C0.setIfInBounds 0 (Value.int IntKind.i64 s2)).setIfInBounds 13 (.slice (some ⟨w5.heap.size, 0, none⟩) 0 0)).setIfInBounds 17 (.slice (some ⟨gg, 0, none⟩) 1 cap)).setIfInBounds 18 (.slice none 0 0))[17]? = some (.slice (some ⟨gg, 0, none⟩) 1 cap) ∧ ((((C0.setIfInBounds 0 (Value.int IntKind.i64 s2)).setIfInBounds 13 (.slice (some ⟨w5.heap.size, 0, none⟩) 0 0)).setIfInBounds 17 (.slice (some ⟨gg, 0, none⟩) 1 cap)).setIfInBounds 18 (.slice none 0 0))[18]? = some (.slice none 0 0)) := Lib.hid (by
    have hsz := HTC.out.sz
    refine ⟨fun i h1 h2 h3 => ?_, ?_, ?_, ?_⟩
    · rw [Array.getElem?_setIfInBounds, if_neg (by omega), Array.getElem?_setIfInBounds, if_neg (by omega), Array.getElem?_setIfInBounds, if_neg (by omega), Array.getElem?_setIfInBounds, if_neg (by omega), HCC.out.1, tskA_get _ _ (by omega)]
    · rw [Array.getElem?_setIfInBounds, if_neg (by decide), Array.getElem?_setIfInBounds, if_neg (by decide), Array.getElem?_setIfInBounds, if_pos rfl, if_pos (by simp [hsz])]
    · rw [Array.getElem?_setIfInBounds, if_neg (by decide), Array.getElem?_setIfInBounds, if_pos rfl, if_pos (by simp [hsz])]
    · rw [Array.getElem?_setIfInBounds, if_pos rfl, if_pos (by simp [hsz])])
  have HT9 := Lib.hid ((((HTC.out.set0 (v := .int .i64 s2) rfl).set (i := 13) (v := .slice (some ⟨w5.heap.size, 0, none⟩) 0 0) (by decide) (by decide) rfl).set (i := 17) (v := .slice (some ⟨gg, 0, none⟩) 1 cap) (by decide) (by decide) rfl).set (i := 18) (v := .slice none 0 0) (by decide) (by decide) rfl)
  clear f8 b8 hsl hap HS8
  have HRG9 : Hid (∀ i, 4 ≤ i → i ≤ 10 → ((((C0.setIfInBounds 0 (Value.int IntKind.i64 s2)).setIfInBounds 13 (.slice (some ⟨w5.heap.size, 0, none⟩) 0 0)).setIfInBounds 17 (.slice (some ⟨gg, 0, none⟩) 1 cap)).setIfInBounds 18 (.slice none 0 0))[i]? = some (s.c (8 + p * 38 + i))) := Lib.hid fun i h4 h10 => by
    rw [Array.getElem?_setIfInBounds_ne (by omega), Array.getElem?_setIfInBounds_ne (by omega), Array.getElem?_setIfInBounds_ne (by omega), Array.getElem?_setIfInBounds_ne (by omega)]
    exact HRG.out i h4 h10
  clear HRG
  generalize (w8.setCell ⟨w.heap.size + 1, 18, none⟩ (.slice none 0 0)).drew = w9 at *
  generalize (((C0.setIfInBounds 0 (Value.int IntKind.i64 s2)).setIfInBounds 13 (.slice (some ⟨w5.heap.size, 0, none⟩) 0 0)).setIfInBounds 17 (.slice (some ⟨gg, 0, none⟩) 1 cap)).setIfInBounds 18 (.slice none 0 0) = C9 at *
  have hls : (ldR 66 (.pointer (some ⟨w.heap.size + 1, 19, none⟩))).run Tryz.prog w9 = .ok (.agg (SigLaw.cellsA SigLaw.zeroG)) w9 := by
    rw [Row.ld HS9.out.rt (o := 19) (n := 18) (by rw [HT9.out.sz]; decide) Tryz.underlying66 rfl (by kernel_rfl), HT9.out.sigs]
  have HSC := Lib.hid (SigLaw.child_is w9)
  have HPS := Lib.hid (fun wx (h : Row wx (w.heap.size + 1) 68 C9) => Row.st h (o := 19) (U := 66) (cs := SigLaw.cellsA SigLaw.zeroG) (by rw [HT9.out.sz]; decide) (by kernel_rfl) (SigLaw.cellsA_one _))
  rw [HT9.out.putSig] at HPS
  generalize SigLaw.cellsA SigLaw.zeroG = ZG at *
  go_upto_region 15 with (go_at_call 216; refine HSC.out.mono ?_; rintro e10 w10 ⟨rfl, hb10⟩; have HA10 := Lib.hid (HS9.out.keep hb10); have hst := HPS.out w10 HA10.out.rt; have HS11 := Lib.hid (HA10.out.row C9); clear hb10; generalize w10.setRow (w.heap.size + 1) C9 = w11 at *)
  clear hls hst HSC HPS HA10 HS9
  have z11 := HT9.out.sz
  have x1 : ∃ x, w11.cell? ⟨w.heap.size + 1, 1, none⟩ = some x := ⟨_, by rw [HS11.out.rt.cell, Array.getElem?_eq_getElem (by rw [z11]; decide)]⟩
  have x2 : ∃ x, w11.cell? ⟨w.heap.size + 1, 2, none⟩ = some x := ⟨_, by rw [HS11.out.rt.cell, Array.getElem?_eq_getElem (by rw [z11]; decide)]⟩
  have x3 : ∃ x, w11.cell? ⟨w.heap.size + 1, 3, none⟩ = some x := ⟨_, by rw [HS11.out.rt.cell, Array.getElem?_eq_getElem (by rw [z11]; decide)]⟩
  obtain ⟨x1, b1⟩ := x1
  obtain ⟨x2, b2⟩ := x2
  obtain ⟨x3, b3⟩ := x3
  have f1 := HS11.out.rt.fz 1
  have f2 := HS11.out.rt.fz 2
  have f3 := HS11.out.rt.fz 3
  clear z11
  go_upto_region 16 with fail
  have HS12 := Lib.hid (((HS11.out.cell 1 (.int .u32 0)).cell 2 (.int .u32 0)).cell 3 (.int .u32 0))
  have HC12 : Hid (∀ i, 11 ≤ i → (((C9.setIfInBounds 1 (Value.int IntKind.u32 0)).setIfInBounds 2 (.int .u32 0)).setIfInBounds 3 (.int .u32 0))[i]? = C9[i]?) := Lib.hid (fun i hi => by rw [Array.getElem?_setIfInBounds, if_neg (by omega), Array.getElem?_setIfInBounds, if_neg (by omega), Array.getElem?_setIfInBounds, if_neg (by omega)])
  have HT12 := Lib.hid (((HT9.out.set (i := 1) (v := .int .u32 0) (by decide) (by decide) rfl).set (i := 2) (v := .int .u32 0) (by decide) (by decide) rfl).set (i := 3) (v := .int .u32 0) (by decide) (by decide) rfl)
  clear b1 b2 b3 f1 f2 f3 HS11
  have HRG12 : Hid (∀ i, 4 ≤ i → i ≤ 10 → (((C9.setIfInBounds 1 (Value.int IntKind.u32 0)).setIfInBounds 2 (.int .u32 0)).setIfInBounds 3 (.int .u32 0))[i]? = some (s.c (8 + p * 38 + i))) := Lib.hid fun i h4 h10 => by
    rw [Array.getElem?_setIfInBounds_ne (by omega), Array.getElem?_setIfInBounds_ne (by omega), Array.getElem?_setIfInBounds_ne (by omega)]
    exact HRG9.out i h4 h10
  have HR3 : Hid (∀ i, 1 ≤ i → i ≤ 3 → (((C9.setIfInBounds 1 (Value.int IntKind.u32 0)).setIfInBounds 2 (.int .u32 0)).setIfInBounds 3 (.int .u32 0))[i]? = some (.int .u32 0)) := Lib.hid fun i h4 h10 => by
    have := HT9.out.sz
    have e : i = 1 ∨ i = 2 ∨ i = 3 := by omega
    rcases e with rfl | rfl | rfl
    · rw [Array.getElem?_setIfInBounds_ne (by decide), Array.getElem?_setIfInBounds_ne (by decide), Array.getElem?_setIfInBounds, if_pos rfl, if_pos (by omega)]
    · rw [Array.getElem?_setIfInBounds_ne (by decide), Array.getElem?_setIfInBounds, if_pos rfl, if_pos (by simp; omega)]
    · rw [Array.getElem?_setIfInBounds, if_pos rfl, if_pos (by simp; omega)]
  clear HRG9
  generalize ((w11.setCell ⟨w.heap.size + 1, 1, none⟩ (.int .u32 0)).setCell ⟨w.heap.size + 1, 2, none⟩ (.int .u32 0)).setCell ⟨w.heap.size + 1, 3, none⟩ (.int .u32 0) = w12 at *
  generalize ((C9.setIfInBounds 1 (Value.int IntKind.u32 0)).setIfInBounds 2 (.int .u32 0)).setIfInBounds 3 (.int .u32 0) = C at *
  have HS13 := Lib.hid (HS12.out.keep (Below.refl _ _).drew)
  have hld := HS13.out.rt.ld0 (d := _) Tryz.underlying68 rfl (by rw [HT12.out.sz]; kernel_rfl)
  have hst := HS13.out.kt.kr.stT (o := 8 + c * 38) (by omega) HT12.out.sz HT12.out.one
  have HKP := Lib.hid (HS13.out.kt.kr.putT (C := C) (o := 8 + c * 38) (by omega) HT12.out.sz)
  have HUP : Hid (Upd (fun j => j = k.K) w12.drew (w12.drew.setRow k.K (putA (kerA s.c) (8 + c * 38) C.toList))) := Lib.hid (Upd.setRow _ _ rfl)
  generalize w12.drew.setRow k.K (putA (kerA s.c) (8 + c * 38) C.toList) = wK at *
  go_region
  have HC' : Hid (∃ c', c' = fun j => if 8 + c * 38 ≤ j ∧ j < 8 + c * 38 + 38 then (C[j - (8 + c * 38)]?).getD undef else s.c j) := Lib.hid ⟨_, rfl⟩
  obtain ⟨c', hc'⟩ := HC'.out
  rw [← hc'] at HKP
  have HCO : Hid (∀ j, (j < 8 + c * 38 ∨ 8 + c * 38 + 38 ≤ j) → c' j = s.c j) := Lib.hid fun j hj => by rw [hc']; exact if_neg (by omega)
  have HCI : Hid (∀ i, i < 38 → c' (8 + c * 38 + i) = (C[i]?).getD undef) := Lib.hid fun i hi => by rw [hc']; show (if _ then _ else _) = _; rw [if_pos (by omega), show 8 + c * 38 + i - (8 + c * 38) = i by omega]
  have HK14 := Lib.hid (HS13.out.kt.cells (c' := c') (cw' := s.cw) (tag' := tg s.tag w1.drew.heap.size (mB k.M k.so m') 6) HKP.out HUP.out (fun j hj => HCO.out j (.inl (by omega))) (fun _ _ => rfl) (fun j hj => HS13.out.kt.tz j (Nat.le_trans HUP.out.size hj)) (fun p' b' hb' => by
    obtain ⟨⟨cp, h1⟩, h2, h3, h4⟩ := HS13.out.kt.cw p' b' hb'
    have hne : p' ≠ c := fun e => by rw [e, HWN.out] at hb'; cases hb'
    have hbK : b' ≠ k.K := fun e => by rw [e, HS13.out.kt.tK] at h4; exact absurd h4 (by decide)
    exact ⟨⟨cp, by rw [HCO.out _ (by omega)]; exact h1⟩, (HUP.out.cell h3 hbK).trans h2, Nat.lt_of_lt_of_le h3 HUP.out.size, h4⟩))
  have HS14 := Lib.hid (HS13.out.step HK14.out HUP.out (fun j e => by rw [e, HS13.out.kt.tK]; decide) (fun j e => .inl e))
  clear hld hst HUP HKP HS12 HS13 hc' HC'
  have q4 : wK.cell? ⟨k.K, 4, none⟩ = some (.pointer (some ⟨k.R, 0, none⟩)) := by rw [HS14.out.kt.kr.cell (by decide), HS14.out.kt.c4]
  have HAD := Lib.hid (addG_is HS14.out.kt.ru (t := c) (by omega) (by omega) HID.out.1 (by have := HS14.out.kt.cn; omega) HID.out.2)
  have hbd := bd_a c
  go_upto_region 18 with (go_at_call 39; refine HAD.out.mono ?_; rintro e15 w15 ⟨rfl, ⟨T5, cp5, hr5, hT5⟩, hu5⟩; have hk15 := HS14.out.kt.run hr5 hu5 (fun j e => hT5.elim (fun q => .inl (by rw [q]; exact e)) (fun q => e.elim (fun e => .inl (.inl e)) (fun ⟨a, e1, e2⟩ => .inr (by injection e1 with e1; rw [e2, ← e1]; exact q)))); have HS15 := Lib.hid (HS14.out.step hk15 hu5 (fun j e => by rw [HS14.out.kt.tR j e]; decide) (fun j e => tg_ne e)))
  clear q4 HAD
  obtain ⟨hX, hone⟩ := ansN3 0 (c : Int) 0
  have hr := HS15.out.ra
  have hst := ans_st hr hX hone
  have HLD := Lib.hid (ans_ldV hr hX)
  obtain ⟨hk16, hu16⟩ := HS15.out.fin (ansV 0 c 0 (.slice none 0 0))
  have ho : Upd (fun j => j < w0.heap.size) w (w15.setRow w.heap.size (ansV 0 c 0 (.slice none 0 0))) ∧ KOutG k s.tag T w (ansV 0 c 0 (.slice none 0 0)) (w15.setRow w.heap.size (ansV 0 c 0 (.slice none 0 0))) := by
    refine ⟨hu16.mono fun j _ e => HH.out.lt e, _, gg, 0, c, 0, hk16, fun j hj => ?_, HS15.out.fincg _, by have := HS15.out.gl; omega, HS15.out.gt, rfl, ?_, hu16⟩
    · rcases HS15.out.far j hj with e | e
      · exact .inl e
      · exact .inr (by omega)
    · have hg : ∀ i x, i < 38 → C[i]? = some x → c' (8 + c * 38 + i) = x := fun i x hi hx => by rw [HCI.out i hi, hx]; rfl
      exact HT.out m' nb c' _ _ _ gg cap w5.heap.size (fun i h1 h2 h3 => hg i _ (by omega) ((HC12.out i h1).trans (HC9.out.1 i h1 h2 h3))) (hg 13 _ (by decide) ((HC12.out 13 (by decide)).trans HC9.out.2.1)) (hg 17 _ (by decide) ((HC12.out 17 (by decide)).trans HC9.out.2.2.1)) (hg 18 _ (by decide) ((HC12.out 18 (by decide)).trans HC9.out.2.2.2)) HGG.out.1 HGG.out.2 HNB.out HFK.out HCO.out (hg 0 _ (by decide) HT12.out.c0) (fun j hj => by rw [show 8 + c * 38 + 19 + j = 8 + c * 38 + (19 + j) by omega]; exact hg (19 + j) _ (by omega) (HT12.out.sg j hj)) (hg 37 _ (by decide) HT12.out.cl) (fun i h4 h10 => hg i _ (by omega) (HRG12.out i h4 h10)) (fun i h4 h10 => hg i _ (by omega) (HR3.out i h4 h10)) (fun j hj => by
        have hz := HT12.out.sz
        rw [HCI.out j hj, Array.getElem?_eq_getElem (by omega)]
        have ho := HT12.out.one
        rw [Array.all_eq_true] at ho
        exact ho j (by omega))
  have HO := Lib.hid ho
  have HX := Lib.hid (And.intro hX hone)
  clear hk16 hu16 ho hr hX hone HCI HCO HK14 HS14 HS15
  generalize ansV 0 c 0 (.slice none 0 0) = X at *
  generalize w15.setRow w.heap.size X = w16 at *
  go_wp2_with fail
  exact bodyPost_ret (v := .agg X) (by rw [results_cell1 rfl]; simp [asAddr, Result.andThen, HLD.out]) rfl ⟨X, rfl, HX.out.1, HX.out.2, HO.out.1, HO.out.2⟩
end
end Go.Proofs.YtafflkemnniegaaGreatDoor
namespace Go.Proofs.YtafflkemnniegaaGreatDoor
open Go.RowKit
set_option linter.unusedVariables false
set_option linter.unusedSimpArgs false
/-- the kernel while it serves: from one state to another -/
structure KG (s0 : KSt) (k : KC) (w w1 : World) (s : KSt) : Prop where
  kt : KT w1 k s
  up : Upd (fun j => s0.tag j ≠ 0) w w1
  far : ∀ j, s.tag j ≠ 0 → s0.tag j ≠ 0 ∨ w.heap.size ≤ j
section
variable {w w1 w2 : World} {k : KC} {s0 s s' : KSt}
theorem KT.start (h : KT w k s) : KG s k w w s := ⟨h, Upd.refl _ _, fun _ e => .inl e⟩
theorem KG.step {S : Nat → Prop} (h : KG s0 k w w1 s) (hk : KT w2 k s') (hu : Upd S w1 w2) (hS : ∀ j, S j → s.tag j ≠ 0) (hf : ∀ j, s'.tag j ≠ 0 → s.tag j ≠ 0 ∨ w1.heap.size ≤ j) : KG s0 k w w2 s' :=
  ⟨hk, h.up.trans' hu (fun i hi q => (h.far i (hS i q)).elim id (fun e => by omega)), fun j hj => (hf j hj).elim (h.far j) (fun e => .inr (Nat.le_trans h.up.size e))⟩
theorem KG.keep (h : KG s0 k w w1 s) (hb : Below w1.heap.size w1 w2) : KG s0 k w w2 s := h.step (S := fun _ => False) (h.kt.keep hb) (Upd.below hb) (fun _ e => e.elim) (fun _ e => .inl e)
theorem KG.own (h : KG s0 k w w1 s) {n : Nat} (hu : Upd (fun j => j = n) w1 w2) (hn : w.heap.size ≤ n) (ht : s.tag n = 0) : KG s0 k w w2 s :=
  ⟨h.kt.upd hu (fun j hj e => hj (by rw [e]; exact ht)), h.up.trans' hu (fun i hi e => by omega), h.far⟩
theorem KG.trans {s'' : KSt} (h : KG s0 k w w1 s') (h2 : KG s' k w1 w2 s'') : KG s0 k w w2 s'' :=
  ⟨h2.kt, h.up.trans' h2.up (fun i hi q => (h.far i q).elim id (fun e => by omega)), fun j hj => (h2.far j hj).elim (h.far j) (fun e => .inr (Nat.le_trans h.up.size e))⟩
end
/-- some cells of the kernel are others: those from o to o + n -/
theorem KR.putN {w : World} {K o n : Nat} {c : Nat → Value} {C : Array Value} (h : KR w K c) (ho : o + n ≤ 655) (hC : C.size = n) :
    KR (w.setRow K (putA (kerA c) o C.toList)) K (fun j => if o ≤ j ∧ j < o + n then (C[j - o]?).getD undef else c j) := by
  have e : putA (kerA c) o C.toList = kerA (fun j => if o ≤ j ∧ j < o + n then (C[j - o]?).getD undef else c j) := by
    apply Array.ext_getElem?
    intro j
    rw [putA_get (by rw [kerA_size]; simp; omega)]
    by_cases hj : j < 655
    · rw [kerA_get _ hj, kerA_get _ hj]
      simp only [Array.length_toList, hC, Array.getElem?_toList]
      by_cases hr : o ≤ j ∧ j < o + n
      · rw [if_pos hr, if_pos hr, Array.getElem?_eq_getElem (by omega)]; rfl
      · rw [if_neg hr, if_neg hr]
    · rw [if_neg (by simp [hC]; omega), Array.getElem?_eq_none (by rw [kerA_size]; omega), Array.getElem?_eq_none (by rw [kerA_size]; omega)]
  rw [e]
  exact Row.setRow h _
end Go.Proofs.YtafflkemnniegaaGreatDoor
namespace Go.Proofs.YtafflkemnniegaaGreatDoor
open Go.RowKit
set_option linter.unusedVariables false
set_option linter.unusedSimpArgs false
set_option maxRecDepth 100000 in
theorem far_is {a b : Int} (a0 : 0 ≤ a) (a1 : a < 1000000000) (b0 : 0 ≤ b) (b1 : b < 1000000000) (w : World) : Calls Tryz.prog 52 #[.int .u32 a, .int .u32 b] w fun e w' => e = .returned (.int .i64 (b - a)) ∧ w = w' := by
  have e1 : wrap64 (wrap32 ((b - a) % 4294967296)) = b - a := by unfold wrap64 wrap32; omega
  go_enter Tryz.func52, Tryz.ntmps52
  go_wp2_with fail
  go_ret
  refine ⟨?_, rfl⟩
  show Ending.returned (.int .i64 (wrap64 (wrap32 ((b - a) % 4294967296)))) = _
  rw [e1]
set_option maxRecDepth 100000 in
theorem clone0_is (w : World) : Calls Tryz.prog 53 #[.slice none 0 0] w fun e w' => e = .returned (.slice none 0 0) ∧ w = w' := by
  have he : (binOp .eql 124 (.slice none 0 0) (.slice none 0 0)).run Tryz.prog w = .ok (.bool true) w := by kernel_rfl
  go_enter Tryz.func53, Tryz.ntmps53
  go_wp2_with fail
  go_ret
  exact ⟨rfl, rfl⟩
set_option maxRecDepth 100000 in
set_option maxHeartbeats 400000 in
theorem wstep0_is {w : World} {Wh : Nat} {a b : Int} (h : Row w Wh 126 #[.int .u32 a, .slice none 0 0]) (a0 : 0 ≤ a) (ab : a ≤ b) (b1 : b < 1000000000) : Calls Tryz.prog 19 #[.pointer (some ⟨Wh, 0, none⟩), .int .u32 b] w fun e w' => e = .returned (.tuple #[.slice none 0 0, .int .i64 0]) ∧ Row w' Wh 126 #[.int .u32 b, .slice none 0 0] ∧ Upd (fun j => j = Wh) w w' := by
  have c0 := h.cell 0
  have c1 := h.cell 1
  have fz := h.fz
  have HF := Lib.hid (far_is a0 (by omega) (by omega : 0 ≤ b) b1 w)
  have i0 : ¬ b - a < 0 := by omega
  have HH := Lib.hid h
  clear h
  go_enter Tryz.func19, Tryz.ntmps19
  go_upto_region 6 with (go_at_call 52; refine HF.out.mono ?_; rintro e1 w1 ⟨rfl, rfl⟩)
  refine wp_loop_rounds 1 ?_
  rw [rounds_succ]
  have i1 : decide ((0 : Int) < 0) = false := by decide
  go_upto_region 6 with fail
  go_quiet (fail)
  have HR := Lib.hid (HH.out.keep (below_drewN (Below.refl _ _) nq))
  have HU : Hid (Upd (fun j => j = Wh) w (w.drewN nq)) := Lib.hid (Upd.drewN _ _)
  clear c0 c1 fz HF HH
  generalize w.drewN nq = wd at *
  have c0 := HR.out.cell 0
  have c1 := HR.out.cell 1
  have fz := HR.out.fz
  have HC := Lib.hid (clone0_is wd)
  go_wp2_with (go_at_call 53; refine HC.out.mono ?_; rintro e2 w2 ⟨rfl, rfl⟩)
  go_ret2
  have e1 := HR.out.setCell 1 (.slice none 0 0)
  have r1 := HR.out.setRow ((#[.int .u32 a, .slice none 0 0] : Array Value).setIfInBounds 1 (.slice none 0 0))
  have e2 := r1.setCell 0 (.int .u32 b)
  refine ⟨rfl, ?_, (HU.out.trans (Upd.set _ _ rfl)).trans (Upd.set _ _ rfl)⟩
  rw [e1, e2]
  exact r1.setRow _
end Go.Proofs.YtafflkemnniegaaGreatDoor
