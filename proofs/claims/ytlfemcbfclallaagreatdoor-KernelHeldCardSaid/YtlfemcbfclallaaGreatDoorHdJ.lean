/- The walk of the law ringkeep5.KernelHeld. -/
import Derived.Test.YtlfemcbfclallaaGreatDoorHdK
import Derived.Test.YtlfemcbfclallaaGreatDoorRdC
import Derived.Test.YtlfemcbfclallaaGreatDoorEq
import Derived.Deep.DeepCutAuto
namespace Go.Proofs.YtlfemcbfclallaaGreatDoor
open Go.RowKit
set_option linter.unusedVariables false
set_option linter.unusedSimpArgs false
theorem goodH_is (n : Nat) (hn : n ≤ 3) (w : World) : Calls Tryz.prog 8 #[.slice (some ⟨w.heap.size, 0, none⟩) n n] (w.alloc (.cells (Array.replicate n (.int .i64 0)) 29)) fun e w' => e = .returned (.bool true) ∧ (w.alloc (.cells (Array.replicate n (.int .i64 0)) 29)) = w' := by
  have h := good_any w.heap.size n (List.replicate n 0) (w.alloc (.cells (Array.replicate n (.int .i64 0)) 29)) (by simp; omega) (fun j hj => by
    have hj : j < n := by simpa using hj
    rw [(row_new w 29 (Array.replicate n (.int .i64 0))).cell]
    simp [List.getD, hj])
  have e : (List.replicate n (0 : Int)).all (· == 0) = true := by simp
  rw [e] at h
  simpa using h
theorem at_min100 {w : World} {l : List Int} {a : Option Addr} {n c : Nat} (h : At (Value.int .u8) 0 w (.slice a n c) l) : ∃ z : List Int, z.length ≤ 100 ∧ (if 100 < (n : Int) then 100 else (n : Int)).toNat = z.length ∧ At (Value.int .u8) 0 w (.slice a (if 100 < (n : Int) then 100 else (n : Int)).toNat c) z := by
  have hk : (if 100 < (n : Int) then 100 else (n : Int)).toNat ≤ n ∧ (if 100 < (n : Int) then 100 else (n : Int)).toNat ≤ 100 := by split <;> omega
  generalize (if 100 < (n : Int) then 100 else (n : Int)).toNat = k at *
  obtain ⟨a', c', e, h1, h2, h3⟩ := h
  injection e with e1 e2 e3
  subst e1 e2 e3
  have hl : (l.take k).length = k := by rw [List.length_take]; omega
  refine ⟨l.take k, by omega, hl.symm, _, c, by rw [hl], by rw [hl]; omega, h2, ?_⟩
  rcases h3 with e | ⟨b, o, e, hb, hc⟩
  · left; rw [e]; simp
  · refine .inr ⟨b, o, e, hb, fun i hi => ?_⟩
    rw [hl] at hi
    rw [hc i (by omega)]
    congr 2
    simp [List.getD, List.getElem?_take, hi]
def Cwk (s : KSt) (x : FM) (gc : Nat) : Prop := s.cw 1 = some gc ∨ (s.tag gc = 0 ∧ ¬ x.bs gc)
theorem Who.sty {w w' : World} {k : KC} {s s' : KSt} {x : FM} {p : Nat} {U K : Int} {a : Option Addr} {cap gc cc : Nat} (q : Who w s p U K a cap gc cc) (hc : Cwk s x gc) (hu : Sty s.tag w x w') (hk : KT w' k s') (h1 : s'.c = s.c) (h2 : s'.cw = s.cw) : Who w' s' p U K a cap gc cc := by
  have hg : w'.cell? ⟨gc, 0, none⟩ = some (.int .i64 1) := by
    rcases hc with hc | ⟨e1, e2⟩
    · exact (hk.cw 1 gc (by rw [h2]; exact hc)).2.1
    · exact hu.cell q.g e1 e2
  refine ⟨q.p16, fun i hi => ?_, ?_, ?_, hg, q.hc, q.c1, q.c2, q.hU, q.hK⟩
  · rw [h1]; exact q.cr i hi
  · rw [h1]; exact q.wd
  · rw [h1]; exact q.mt
structure HeldBy (w : World) (s : KSt) (x : FM) (p j k0 : Nat) (L : Int) (a : Option Addr) (cap gc cc : Nat) : Prop where
  aw : Awake s p
  fd : s.fd (p * 8 + j) = k0 + 1
  th : OpenLaw.thing (s.fs k0) = .agg (thF L)
  who : Who w s p 0 127 a cap gc cc
  cw : Cwk s x gc
theorem thing_pos {s : KSt} {k0 : Nat} {a b : Int} (h : OpenLaw.thing (s.fs k0) = .agg (thF a)) : OpenLaw.thing ((SeekTo s k0 b).fs k0) = .agg (thF b) := by
  show OpenLaw.thing (OpenLaw.updF _ k0 { s.fs k0 with pos := b } k0) = _
  rw [OpenLaw.updF_same]
  unfold OpenLaw.thing thF at *
  injection h with h
  simp only [Array.mk.injEq, List.cons.injEq, and_true] at h
  obtain ⟨h1, h2, h3, h4, -⟩ := h
  rw [h1, h2, h3, h4]
theorem HeldBy.seek {w w' : World} {k : KC} {s : KSt} {x : FM} {p j k0 : Nat} {L : Int} {a : Option Addr} {cap gc cc : Nat} (h : HeldBy w s x p j k0 L a cap gc cc) (b : Int) (hu : Sty s.tag w x w') (hk : KT w' k (SeekTo s k0 b)) : HeldBy w' (SeekTo s k0 b) x p j k0 b a cap gc cc := ⟨h.aw.sk, h.fd, thing_pos h.th, h.who.sty h.cw hu hk rfl rfl, h.cw⟩
theorem Sty.al {t : Nat → Nat} {w w' : World} {x : FM} (h : Sty t w x w') (o : Obj) : Sty t w x (w'.alloc o) := Upd.trans h (Upd.alloc w' o)
theorem OB.sty {t : Nat → Nat} {w w' : World} {x : FM} {B : Nat} {v : Value} {z : List Int} (h : OB B w v z) (hf : ∀ j, v.ownBlock = some j → t j = 0 ∧ ¬ x.bs j) (hu : Sty t w x w') : OB B w' v z := h.upd hu (fun g hg e => by
  rcases e with e | e | e
  · exact e (hf g hg).1
  · exact (hf g hg).2 e
  · have := (h.lt g hg).2; omega)
section
attribute [local go_sem ↓] ld_ans st_ans bd_call
set_option maxRecDepth 100000 in
set_option maxHeartbeats 8000000 in
theorem held_any (w : World) {v : Value} {l : List Int} (hz : At (Value.int .u8) 0 w v l) (child : Bool) :
    Calls Tryz.prog 3 #[v, .bool child] w fun e w' => e = .returned (.bool true) ∧ Below w.heap.size w w' := by
  have hN := bdc_N
  have hb0 := bdc_0
  have hb1 := bdc_1
  have HS := Lib.hid (started2_is w)
  obtain ⟨ad, cp, rfl, lz, mz, -⟩ := id hz
  obtain ⟨z, hz100, hzl, hzA⟩ := at_min100 hz
  have HZ := Lib.hid hzA
  have HZL := Lib.hid (And.intro hz100 hzl)
  have hcm : (cp : Int) ≤ 9223372036854775807 := by unfold maxLen at mz; omega
  clear hzA hz100 hz hzl
  obtain ⟨L, hL⟩ : ∃ L, L = l.length := ⟨_, rfl⟩
  rw [← hL] at lz HZ HZL ⊢
  clear hL mz
  have i1 : (if 100 < (L : Int) then 100 else (L : Int)) ≤ (cp : Int) := by split <;> omega
  have i2 : 0 ≤ (if 100 < (L : Int) then 100 else (L : Int)) := by split <;> omega
  go_enter Tryz.func3, Tryz.ntmps3
  go_upto_region 4 with (go_at_call 4; refine HS.out.mono ?_; rintro e1 w1 ⟨K, D, B, P, Wh, Fi, Pr, R, M, so, sp, c, rfl, hks, ⟨fk, fx, hc2, hst, hr, n1, n2, n3, n4⟩, hB, hbw⟩)
  obtain ⟨tag, Tb, cc, wb, hkt, h63, hlo⟩ := hks.toKT2
  have hor := hks.or
  have hkb := hks.kp.b
  have hKF : KF w1 ⟨K, Wh, Fi, Pr, R, M, so⟩ (sS0 c tag Tb cc sp wb) fk fx := ⟨hkt, hc2, hst, fun j e => by
    have h1 := n4 j e
    cases Nat.eq_zero_or_pos (tag j) with
    | inl q => exact q
    | inr q =>
      have h2 := hlo j (by omega)
      omega⟩
  have HE1 : Hid (ED w w1 ⟨K, Wh, Fi, Pr, R, M, so⟩ (sS0 c tag Tb cc sp wb) fk fx []) := Lib.hid ⟨hKF, hbw, fun j hj => Nat.le_trans hB (hlo j hj).1, fun j e => (n4 j e).1, fun _ h => nomatch h⟩
  have HKS := Lib.hid hks
  obtain ⟨-, hgw, -, hgt⟩ := hkt.cw 1 wb rfl
  have HWB : Hid (Who w1 (sS0 c tag Tb cc sp wb) 1 0 127 none 0 wb 1 ∧ ¬ fx.bs wb ∧ wb ≠ Fi ∧ tag wb = 7) := Lib.hid ⟨who1 hks h63 hgw, (fun e => absurd ((hKF.sep _ e).symm.trans hgt) (by decide)), (fun e => absurd (hkt.tFi.symm.trans (e ▸ hgt)) (by decide)), hgt⟩
  have HRT := Lib.hid (And.intro hr (And.intro n1 (And.intro n2 n3)))
  clear hkt hlo hks hB HS hKF hst hr n1 n2 n3 n4 hc2 h63 hor hkb hgw hgt hbw
  obtain ⟨k, hkd⟩ : ∃ k : KC, k = ⟨K, Wh, Fi, Pr, R, M, so⟩ := ⟨_, rfl⟩
  have hkK : k.K = K := by rw [hkd]
  obtain ⟨s0, hs0⟩ : ∃ s0, s0 = sS0 c tag Tb cc sp wb := ⟨_, rfl⟩
  have HW : Hid (Who w1 s0 1 0 127 none 0 wb 1 ∧ ¬ fx.bs wb ∧ wb ≠ k.Fi ∧ s0.cw 1 = some wb) := Lib.hid (by rw [hkd, hs0]; exact ⟨HWB.out.1, HWB.out.2.1, HWB.out.2.2.1, rfl⟩)
  have HA0 : Hid (Awake s0 1) := Lib.hid (by rw [hs0]; exact HKS.out.calm.awake (s := sS0 c tag Tb cc sp wb) (by decide) (by decide) start1)
  have HFR : Hid ((∀ i, s0.fd i = 0) ∧ (∀ i, (s0.fs i).n = 0)) := Lib.hid (by rw [hs0]; exact ⟨fun _ => rfl, fun _ => rfl⟩)
  have HS0 := Lib.hid hs0
  rw [← hkd, ← hs0] at HE1
  clear hkd hs0 HWB
  subst hkK
  go_upto_region 5 with fail
  clear i1 i2 lz hcm
  generalize (if 100 < (L : Int) then 100 else (L : Int)) = mn at *
  generalize mn.toNat = L2 at *
  have HO1 := Lib.hid (openN_ask HE1.out HA0.out HW.out.1 HRT.out.1 (by rw [HRT.out.2.1]; decide) ⟨by rw [HRT.out.2.2.1]; decide, by rw [HRT.out.2.2.2]; decide⟩ ⟨0, by decide, HFR.out.1 _⟩ ⟨0, by decide, HFR.out.2 _⟩ HW.out.2.1 HW.out.2.2.1)
  go_upto_region 6 with (go_at_call 5; refine HO1.out.mono ?_; rintro e2 w2 ⟨j, rfl, k0, x1, rows1, hE, hj, hk0, hf, hnh, hhd⟩; have HE2 := Lib.hid hE; have HF := Lib.hid hf; have HJ := Lib.hid (And.intro hj (And.intro hk0 (And.intro hnh hhd))); clear hE hf hj hk0 hnh hhd)
  clear HO1
  have j0 : ¬ (j : Int) < 0 := by omega
  have op1 : (OpenTo s0 1 3 j k0).fd (1 * 8 + j) = k0 + 1 := by
    show OpenLaw.updN _ (1 * 8 + j) (k0 + 1) (1 * 8 + j) = _
    rw [OpenLaw.updN_same]
  have op2 : OpenLaw.thing ((OpenTo s0 1 3 j k0).fs k0) = .agg (thF 0) := by
    show OpenLaw.thing (OpenLaw.updF _ k0 ⟨1, 2, 3, false, 0, 1⟩ k0) = _
    rw [OpenLaw.updF_same]
    rfl
  have HOP := Lib.hid (And.intro op1 op2)
  clear op1 op2
  have HPU := Lib.hid (put_ask HE2.out HA0.out.op HF.out HJ.out.1 HOP.out.1 HOP.out.2 HZL.out.2 (HZ.out.keep HE2.out.hb) (by have := HZL.out.1; omega))
  go_upto_region 8 with (go_at_call 6; refine HPU.out.mono ?_; rintro e3 w3 ⟨rfl, x2, rows2, hE, hfz, hnh, hhd⟩; have HE3 := Lib.hid hE; have HFZ := Lib.hid hfz; have HH3 := Lib.hid hhd; clear hE hfz hnh hhd)
  clear HPU HE2 j0 HE1
  obtain ⟨s3, hs3⟩ : ∃ s3, s3 = SeekTo (OpenTo s0 1 3 j k0) k0 z.length := ⟨_, rfl⟩
  have HA3 : Hid (Awake s3 1) := Lib.hid (by rw [hs3]; exact HA0.out.op.sk)
  have H3 : Hid (s3.fd (1 * 8 + j) = k0 + 1 ∧ OpenLaw.thing (s3.fs k0) = .agg (thF z.length) ∧ s3.cw 1 = some wb ∧ s3 = SeekTo (OpenTo (sS0 c tag Tb cc sp wb) 1 3 j k0) k0 z.length) := Lib.hid ⟨by rw [hs3]; exact HOP.out.1, by rw [hs3]; exact thing_pos HOP.out.2, by rw [hs3]; exact HW.out.2.2.2, by rw [hs3, HS0.out]⟩
  rw [← hs3] at HE3
  have HW3 : Hid (Who w3 s3 1 0 127 none 0 wb 1) := Lib.hid (by
    have q := HW.out.1
    have hg := (HE3.out.kf.kt.cw 1 wb H3.out.2.2.1).2.1
    subst hs3
    exact ⟨q.p16, q.cr, q.wd, q.mt, hg, q.hc, q.c1, q.c2, q.hU, q.hK⟩)
  clear hs3 HW HA0 HOP HS0 HFR HRT HF
  have HUA := Lib.hid (unlink_ask HE3.out HA3.out HW3.out HFZ.out (by have := HZL.out.1; omega) (by rw [HH3.out, HJ.out.2.2.2]; exact Nat.succ_pos _))
  go_upto_region 9 with (go_at_call 7; refine HUA.out.mono ?_; rintro e4 w4 ⟨a4, b4, pd4, m4, cd4, rfl, x3, hE, hg, hh, hst4⟩; have hst := ans_newD w4 0 a4 b4 pd4 m4 cd4; have HE4 := Lib.hid hE; have HG4 := Lib.hid hg; have HST4 := Lib.hid hst4; clear hE hg hh hst4)
  clear hst HUA HE3
  generalize hX4 : ansV 0 a4 b4 (.slice pd4 m4 cd4) = X4 at *
  have HX4 : Hid (X4[0]? = some (.int .i64 0)) := Lib.hid (by rw [← hX4]; rfl)
  clear hX4
  have HSA := Lib.hid (HST4.out.al (.cells X4 34))
  generalize w4.alloc (.cells X4 34) = w5 at *
  generalize w4.heap.size = g9 at *
  have HW5 := Lib.hid (HW3.out.sty (s' := s3) (.inl H3.out.2.2.1) HSA.out HE4.out.kf.kt rfl rfl)
  clear HST4 HSA HW3
  go_upto_if 43 with fail
  go_cut [10] (fun pv wx => ∃ (p : Nat) (s : KSt) (rows : List (Nat × Array Value)) (L : Int) (a : Option Addr) (cap gc c2 : Nat), pv = .int .i64 p ∧ Hid (ED w wx k s fk x3 rows) ∧ Hid ((g9, X4) ∈ rows) ∧ Hid (HeldBy wx s x3 p j k0 L a cap gc c2))
  case first =>
    cases child
    · go_wp2_with fail
      go_meet
      case rel => exact ⟨1, s3, _, z.length, none, 0, wb, 1, rfl, HE4, Lib.hid (List.mem_cons_self ..), Lib.hid ⟨HA3.out, H3.out.1, H3.out.2.1, HW5.out, .inl H3.out.2.2.1⟩⟩
    · have HFA := Lib.hid (fork_ask HKS.out HJ.out.1 HJ.out.2.1 H3.out.2.2.2 HE4.out HA3.out)
      go_upto_region 12 with (go_at_call 7; refine HFA.out.mono ?_; rintro e6 w6 ⟨s6, g, rfl, hq, hgt, hgb, hE, hgc⟩; have hst := ans_new w6 0 2 0; have HE6 := Lib.hid hE; have HQ := Lib.hid (And.intro hq (And.intro hgt hgb)); have HGC := Lib.hid hgc; clear hE hq hgt hgb hgc)
      clear hst HFA
      generalize w6.alloc (.cells (ansV 0 2 0 (.slice none 0 0)) 34) = w7 at *
      generalize w6.heap.size = g11 at *
      have HCA := Lib.hid (close_ask HE6.out (p := 1) (HQ.out.1.q.c1.awake (by decide) (by decide) (by rw [HQ.out.1.q.t]; exact t1_1)) HJ.out.1 HQ.out.1.fd1 (a0 := z.length) (by rw [HQ.out.1.fs]; rfl) (by rw [HQ.out.1.fs]; exact ⟨(by decide : (2 : Int) ≤ 2), (by decide : (2 : Int) ≤ 200)⟩))
      go_upto_region 13 with (go_at_call 7; refine HCA.out.mono ?_; rintro e8 w8 ⟨a8, b8, pd8, m8, cd8, rfl, hE, hst8⟩; have hst := ans_newD w8 0 a8 b8 pd8 m8 cd8; have HE8 := Lib.hid hE; have HST8 := Lib.hid hst8; clear hE hst8)
      clear hst HCA HE6
      generalize hX8 : ansV 0 a8 b8 (.slice pd8 m8 cd8) = X8 at *
      have HX8 : Hid (X8[0]? = some (.int .i64 0)) := Lib.hid (by rw [← hX8]; rfl)
      clear hX8
      have HSA := Lib.hid (HST8.out.al (.cells X8 34))
      generalize w8.alloc (.cells X8 34) = w9 at *
      generalize w8.heap.size = g12 at *
      have r11 := (HE8.out.rows (g11, ansV 0 2 0 (.slice none 0 0)) (by simp)).1
      have c110 := (r11.cell 0).trans (show (ansV 0 2 0 (.slice none 0 0))[0]? = some (.int .i64 0) from rfl)
      have c111 := (r11.cell 1).trans (show (ansV 0 2 0 (.slice none 0 0))[1]? = some (.int .i64 2) from rfl)
      have c120 := ((HE8.out.rows (g12, X8) (by simp)).1.cell 0).trans HX8.out
      have hgc9 := HSA.out.cell HGC.out HQ.out.2.1 HQ.out.2.2
      have HGC9 := Lib.hid hgc9
      have HGD := Lib.hid (goodH_is 2 (by decide) w9)
      rw [show Array.replicate 2 (Value.int .i64 0) = #[.int .i64 0, .int .i64 0] from rfl] at HGD
      have hal := Go.Joins.below_alloc1 w9 (.cells #[.int .i64 0, .int .i64 0] 29)
      have HAL := Lib.hid hal
      have d111 : (w9.alloc (.cells #[.int .i64 0, .int .i64 0] 29)).cell? ⟨g11, 1, none⟩ = some (.int .i64 2) := (hal.cell (p := ⟨g11, 1, none⟩) (World.block_lt_of_cell? w9 _ c111)).trans c111
      clear r11 hal HST8 HSA HGC hgc9
      go_wp2_with (go_at_call 8; refine HGD.out.mono ?_; rintro e10 w10 ⟨rfl, rfl⟩)
      go_meet
      case rel =>
        obtain ⟨hq, hgt, hgb⟩ := HQ.out
        obtain ⟨b5, cp5, hwho⟩ := hq.q.who HGC9.out
        have hfs : (CloseTo s6 1 j k0).fs k0 = ⟨1, 2, 3, false, z.length, 1⟩ := by
          show OpenLaw.updF s6.fs k0 { s6.fs k0 with n := (s6.fs k0).n - 1 } k0 = _
          rw [OpenLaw.updF_same, hq.fs]
          rfl
        exact ⟨2, CloseTo s6 1 j k0, _, z.length, some ⟨b5, 0, none⟩, 0, g, cp5, rfl, Lib.hid (HE8.out.keep HAL.out), Lib.hid (by simp), Lib.hid ⟨(hq.q.c2.awake (s := s6) (by decide) (by decide) (by rw [hq.q.t]; exact t1_2.1)).cl, by
          show OpenLaw.updN s6.fd (1 * 8 + j) 0 (2 * 8 + j) = _
          rw [OpenLaw.updN_other _ _ (by have := HJ.out.1; omega)]
          exact hq.fd2, by rw [hfs]; rfl, (show Who w9 (CloseTo s6 1 j k0) 2 0 127 (some ⟨b5, 0, none⟩) 0 g cp5 from ⟨hwho.p16, hwho.cr, hwho.wd, hwho.mt, hwho.g, hwho.hc, hwho.c1, hwho.c2, hwho.hU, hwho.hK⟩).keep HAL.out, .inr ⟨hgt, hgb⟩⟩⟩
  case rest =>
    clear HE4 HW5 H3 HA3 HKS
    obtain ⟨p, s4, rows, L0, a0, cap0, gc, c0, rfl, HE, HM, HH⟩ := hcut
    have HSK := Lib.hid (seekP_ask HE.out HH.out.aw HJ.out.1 HH.out.fd HH.out.th)
    go_upto_region 17 with (go_at_call 7; refine HSK.out.mono ?_; rintro e11 w11 ⟨a11, b11, pd11, m11, cd11, rfl, hE, hst11⟩; have hst := ans_newD w11 0 a11 b11 pd11 m11 cd11; have HE11 := Lib.hid hE; have HST11 := Lib.hid hst11; clear hE hst11)
    clear hst HSK
    generalize hX11 : ansV 0 a11 b11 (.slice pd11 m11 cd11) = X11 at *
    have HX11 : Hid (X11[0]? = some (.int .i64 0)) := Lib.hid (by rw [← hX11]; rfl)
    clear hX11
    have HSA := Lib.hid (HST11.out.al (.cells X11 34))
    generalize w11.alloc (.cells X11 34) = w12 at *
    generalize w11.heap.size = g13 at *
    have HH12 := Lib.hid (HH.out.seek 0 HSA.out HE11.out.kf.kt)
    clear HE HH HST11 HSA
    have HGT := Lib.hid (gotP_ask HE11.out HH12.out.aw HG4.out.r HZL.out.1 HJ.out.1 HH12.out.fd HH12.out.th)
    go_upto_region 18 with (go_at_call 9; refine HGT.out.mono ?_; rintro e13 w13 ⟨pd, m1, cd, rfl, ho, rows5, hE, hfr, hst13⟩; have HE13 := Lib.hid hE; have HO13 := Lib.hid ho; have HFR13 := Lib.hid hfr; have HST13 := Lib.hid hst13; clear hE ho hfr hst13)
    clear HGT HE11
    have HH13 := Lib.hid (HH12.out.seek z.length HST13.out HE13.out.kf.kt)
    clear HH12 HST13
    have HSTA := Lib.hid (stat_ask HE13.out HH13.out.aw HH13.out.who HG4.out)
    go_upto_region 19 with (go_at_call 7; refine HSTA.out.mono ?_; rintro e14 w14 ⟨a14, b14, pd14, m14, cd14, rfl, hE, hst14⟩; have hst := ans_newD w14 4 a14 b14 pd14 m14 cd14; have HE14 := Lib.hid hE; have HST14 := Lib.hid hst14; clear hE hst14)
    clear hst HSTA HE13
    generalize hX14 : ansV 4 a14 b14 (.slice pd14 m14 cd14) = X14 at *
    have HX14 : Hid (X14[0]? = some (.int .i64 4)) := Lib.hid (by rw [← hX14]; rfl)
    clear hX14
    have HSA := Lib.hid (HST14.out.al (.cells X14 34))
    generalize w14.alloc (.cells X14 34) = w15 at *
    generalize w14.heap.size = g16 at *
    have HO15 := Lib.hid (HO13.out.sty HFR13.out HSA.out)
    have c9 := ((HE14.out.rows (g9, X4) (List.mem_cons_of_mem _ (List.mem_append.2 (.inr (List.mem_cons_of_mem _ HM.out))))).1.cell 0).trans HX4.out
    have c13 := ((HE14.out.rows (g13, X11) (List.mem_cons_of_mem _ (List.mem_append.2 (.inr (List.mem_cons_self ..))))).1.cell 0).trans HX11.out
    have c16 := ((HE14.out.rows (g16, X14) (List.mem_cons_self ..)).1.cell 0).trans HX14.out
    have HGD := Lib.hid (goodH_is 3 (by decide) w15)
    rw [show Array.replicate 3 (Value.int .i64 0) = #[.int .i64 0, .int .i64 0, .int .i64 0] from rfl] at HGD
    have hal := Go.Joins.below_alloc1 w15 (.cells #[.int .i64 0, .int .i64 0, .int .i64 0] 29)
    have HEQ := Lib.hid (equalB_is (l := z) (by have := HZL.out.1; omega) (HO15.out.keep hal).at ((HZ.out.keep HE14.out.hb).keep hal))
    have HAL := Lib.hid hal
    have HK16 := Lib.hid (fun (wx : World) (hx : Below w15.heap.size w15 wx) => (hx.cell (p := ⟨g16, 0, none⟩) (World.block_lt_of_cell? w15 _ c16)).trans c16)
    have HBF := Lib.hid HE14.out.hb
    clear HE14 HO13 HFR13 HST14 HSA HH13 HO15 HM hal HX4 HX11 HX14 HG4 HJ HZ HZL c16 hN hb0 hb1
    go_wp2_with (first | (go_at_call 8; (refine HGD.out.mono ?_); rintro e21 w21 ⟨rfl, rfl⟩) | (go_at_call 10; (refine HEQ.out.mono ?_); rintro e22 w22 ⟨rfl, hb22⟩; have HB22 := Lib.hid (HAL.out.trans (hb22.mono HAL.out.size)); have c16 := HK16.out _ HB22.out; clear hb22))
    go_ret
    exact ⟨rfl, HBF.out.trans (HB22.out.mono HBF.out.size)⟩
end
end Go.Proofs.YtlfemcbfclallaaGreatDoor
