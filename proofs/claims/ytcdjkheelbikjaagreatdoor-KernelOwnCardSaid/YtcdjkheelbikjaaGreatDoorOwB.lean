/- The walk of the law ringkeep5.KernelOwn. -/
import Derived.Test.YtcdjkheelbikjaaGreatDoorOwD
import Derived.Deep.DeepCutAuto
namespace Go.Proofs.YtcdjkheelbikjaaGreatDoor
open Go.RowKit
set_option linter.unusedVariables false
set_option linter.unusedSimpArgs false
theorem start_st : (ProcLaw.start 1).st = 1 ∧ ∀ j, j < 17 → j ≠ 1 → (ProcLaw.start j).st ≠ 1 := by decide
section
attribute [local go_sem ↓] ld_ans st_ans bd_call
set_option maxRecDepth 100000 in
set_option maxHeartbeats 8000000 in
theorem own_any (w : World) {v : Value} {l : List Int} (hz : At (Value.int .u8) 0 w v l) (s : ByteArray) :
    Calls Tryz.prog 3 #[v, .string s] w fun e w' => e = .returned (.bool true) ∧ Below w.heap.size w w' := by
  have hbs := bdc_1
  have hbl := bdc_L
  have HS := Lib.hid (started2_is w)
  obtain ⟨ad, cp, rfl, lz, mz, -⟩ := id hz
  obtain ⟨z, hz60, hzA⟩ := at_min60 hz
  have HZ := Lib.hid hzA
  have HZL := Lib.hid hz60
  have hcm : (cp : Int) ≤ 9223372036854775807 := by unfold maxLen at mz; omega
  clear hzA hz60 hz
  obtain ⟨L, hL⟩ : ∃ L, L = l.length := ⟨_, rfl⟩
  rw [← hL] at lz HZ ⊢
  clear hL mz
  have i1 : (if 60 < (L : Int) then 60 else (L : Int)) ≤ (cp : Int) := by split <;> omega
  have i2 : 0 ≤ (if 60 < (L : Int) then 60 else (L : Int)) := by split <;> omega
  go_enter Tryz.func3, Tryz.ntmps3
  go_upto_region 4 with (go_at_call 4; refine HS.out.mono ?_; rintro e1 w1 ⟨K, D, B, P, Wh, Fi, Pr, R, M, so, sp, c, rfl, hks, ⟨fk, fx, hc2, hst, hr, n1, n2, n3, n4⟩, hB, hbw⟩)
  obtain ⟨tag, Tb, cc, wb, hkt, h63, hlo⟩ := hks.toKT2
  have hor := hks.or
  have hkb := hks.kp.b
  have hKF : KF w1 ⟨K, Wh, Fi, Pr, R, M, so⟩ (sS0 c tag Tb cc sp wb) fk fx := ⟨hkt, hc2, hst, fun j e => by
    have h1 := n4 j e
    cases Nat.eq_zero_or_pos (tag j) with
    | inl q => exact q
    | inr q =>
      have h2 := hlo j (by omega)
      omega⟩
  have HE1 : Hid (ED w w1 ⟨K, Wh, Fi, Pr, R, M, so⟩ (sS0 c tag Tb cc sp wb) fk fx []) := Lib.hid ⟨hKF, hbw, fun j hj => Nat.le_trans hB (hlo j hj).1, fun j e => (n4 j e).1, fun _ h => nomatch h⟩
  have HKS := Lib.hid hks
  obtain ⟨-, hgw, -, hgt⟩ := hkt.cw 1 wb rfl
  have HWB : Hid (Who w1 (sS0 c tag Tb cc sp wb) 1 0 127 none 0 wb 1 ∧ ¬ fx.bs wb ∧ wb ≠ Fi ∧ tag wb = 7) := Lib.hid ⟨who1 hks h63 hgw, (fun e => absurd ((hKF.sep _ e).symm.trans hgt) (by decide)), (fun e => absurd (hkt.tFi.symm.trans (e ▸ hgt)) (by decide)), hgt⟩
  have HRT := Lib.hid (And.intro hr (And.intro n1 (And.intro n2 n3)))
  have HCL1 := Lib.hid (cloneB_is (w := w1) (by have := HZL.out; omega) (HZ.out.keep hbw))
  clear hkt hlo hks hB HS hKF hst hr n1 n2 n3 n4 hc2 h63 hor hkb hgw hgt hbw
  obtain ⟨k, hkd⟩ : ∃ k : KC, k = ⟨K, Wh, Fi, Pr, R, M, so⟩ := ⟨_, rfl⟩
  have hkK : k.K = K := by rw [hkd]
  obtain ⟨s0, hs0⟩ : ∃ s0, s0 = sS0 c tag Tb cc sp wb := ⟨_, rfl⟩
  have HW : Hid (Who w1 s0 1 0 127 none 0 wb 1 ∧ ¬ fx.bs wb ∧ wb ≠ k.Fi ∧ s0.tag wb = 7 ∧ s0.cw 1 = some wb) := Lib.hid (by rw [hkd, hs0]; exact ⟨HWB.out.1, HWB.out.2.1, HWB.out.2.2.1, HWB.out.2.2.2, rfl⟩)
  have HA0 : Hid (Awake s0 1) := Lib.hid (by rw [hs0]; exact HKS.out.calm.awake (s := sS0 c tag Tb cc sp wb) (by decide) (by decide) start1)
  have HFR : Hid ((∀ i, s0.fd i = 0) ∧ (∀ i, (s0.fs i).n = 0) ∧ s0.t = ProcLaw.start) := Lib.hid (by rw [hs0]; exact ⟨fun _ => rfl, fun _ => rfl, rfl⟩)
  rw [← hkd, ← hs0] at HE1
  clear hkd hs0 HWB HKS
  subst hkK
  go_upto_region 5 with (go_at_call 5; refine HCL1.out.mono ?_; rintro e2 w2 ⟨d, rfl, ho, hb⟩; have HD : Hid (OB w1.heap.size w2 d z) := Lib.hid ho; have HB2 := Lib.hid hb; clear ho hb)
  clear HCL1 HZ i1 i2 lz hcm
  have HE2 := Lib.hid (HE1.out.keep HB2.out)
  obtain ⟨pd, cd, hd⟩ := HD.out.form
  subst hd
  have HDF := Lib.hid (HE1.out.fre HD.out (Nat.le_refl _))
  have HW2 := Lib.hid (HW.out.1.keep HB2.out)
  have HCL2 := Lib.hid (cloneB_is (w := w2) (by have := HZL.out; omega) HD.out.at)
  go_upto_region 6 with (go_at_call 5; refine HCL2.out.mono ?_; rintro e3 w3 ⟨vw, rfl, ho, hb⟩; have HV : Hid (OB w2.heap.size w3 vw z) := Lib.hid ho; have HB3 := Lib.hid hb; clear ho hb)
  have HE3 := Lib.hid (HE2.out.keep HB3.out)
  have HVF := Lib.hid (HE2.out.fre HV.out (Nat.le_refl _))
  have HDV := Lib.hid (dis_of HD.out HV.out (Nat.le_refl _))
  have HD3 := Lib.hid (HD.out.keep HB3.out)
  have HZB := Lib.hid (HE1.out.hb.size)
  have HO1 := Lib.hid (openN_own HE3.out HA0.out (HW2.out.keep HB3.out) HRT.out.1 (by rw [HRT.out.2.1]; decide) ⟨by rw [HRT.out.2.2.1]; decide, by rw [HRT.out.2.2.2]; decide⟩ ⟨0, by decide, HFR.out.1 _⟩ ⟨0, by decide, HFR.out.2.1 _⟩ HW.out.2.1 HW.out.2.2.1)
  clear HCL2 HB2 HB3 HE1 HE2 HD
  go_upto_region 7 with (go_at_call 6; refine HO1.out.mono ?_; rintro e4 w4 ⟨j, rfl, k0, x1, hE, hj, hk0, hf, hst⟩; have HE4 := Lib.hid hE; have HF := Lib.hid hf; have HJ := Lib.hid hj; have HST := Lib.hid hst; clear hE hf hj hk0 hst)
  obtain ⟨hd4, hdf4⟩ := HST.out.own HD3.out HDF.out
  obtain ⟨hv4, hvf4⟩ := HST.out.own HV.out HVF.out
  have HD4 := Lib.hid hd4
  have HDF4 := Lib.hid hdf4
  have HV4 := Lib.hid hv4
  have HVF4 := Lib.hid hvf4
  have HL4 := Lib.hid (Hel.op HA0.out j k0)
  clear hd4 hdf4 hv4 hvf4 HST HD3 HDF HV HVF HE3 HO1 HA0
  have j0 : ¬ (j : Int) < 0 := by omega
  have HPU := Lib.hid (put_own HE4.out HL4.out.aw HF.out HJ.out HL4.out.fd HL4.out.th rfl HD4.out.at (by have := HZL.out; omega))
  go_upto_region 9 with (first | (go_at_call 7; refine HPU.out.mono ?_; rintro e5 w5 ⟨rfl, x2, hE, hfz, hst⟩; have HE5 := Lib.hid hE; have HFZ := Lib.hid hfz; obtain ⟨hd5, hdf5⟩ := hst.own HD4.out HDF4.out; obtain ⟨hv5, hvf5⟩ := hst.own HV4.out HVF4.out; have HD5 := Lib.hid hd5; have HDF5 := Lib.hid hdf5; have HV5 := Lib.hid hv5; have HVF5 := Lib.hid hvf5; have HEQ := Lib.hid (equalB_is (by have := HZL.out; omega) hd5.at hv5.at); clear hE hfz hst hd5 hdf5 hv5 hvf5) | (go_at_call 8; refine HEQ.out.mono ?_; rintro e6 w6 ⟨rfl, hb⟩; have HB6 := Lib.hid hb; clear hb))
  have HL5 := Lib.hid (HL4.out.sk (z.length : Int))
  have HE6 := Lib.hid (HE5.out.keep HB6.out)
  have HD6 := Lib.hid (HD5.out.keep HB6.out)
  have HV6 := Lib.hid (HV5.out.keep HB6.out)
  have HSP := Lib.hid (spoilB_is HD6.out 99)
  clear HD4 HDF4 HV4 HVF4 HPU HEQ HD5 HV5 HE4 HE5 j0
  go_upto_region 10 with (go_at_call 9; refine HSP.out.mono ?_; rintro e7 w7 ⟨rfl, hu⟩; have HU7 := Lib.hid hu; clear hu)
  have HE7 := Lib.hid (HE6.out.own HD6.out HDF5.out HZB.out HU7.out)
  have HV7 := Lib.hid (HV6.out.dis HDV.out HU7.out)
  have HX := Lib.hid (And.intro (HE7.out.kf.kt.cw 1 wb HW.out.2.2.2.2) HW.out.2.2.1)
  have HSK := Lib.hid (seek0 HE7.out HL5.out HJ.out)
  clear HSP HE6 HD6 HV6 HU7 HDF5 HDV HL4 HB6
  go_upto_region 11 with (go_at_call 10; refine HSK.out.mono ?_; rintro e8 w8 ⟨V8, rfl, hE, hst⟩; have HE8 := Lib.hid hE; have HST := Lib.hid hst; clear hE hst)
  obtain ⟨hv8, hvf8⟩ := HST.out.own HV7.out HVF5.out
  have HV8 := Lib.hid hv8
  have HVF8 := Lib.hid hvf8
  have HL8 := Lib.hid (HL5.out.sk 0)
  have HGT := Lib.hid (got60 HE8.out HL8.out HJ.out HFZ.out HZL.out)
  clear hv8 hvf8 HST HSK HE7 HV7 HVF5 HL5
  go_upto_region 12 with (go_at_call 11; refine HGT.out.mono ?_; rintro e9 w9 ⟨p1, m1, c1, rfl, ho, hfr, hE, hst⟩; have HE9 := Lib.hid hE; have HST := Lib.hid hst; have HO9 := Lib.hid ho; have HOF9 := Lib.hid hfr; clear hE hst ho hfr)
  obtain ⟨hv9, hvf9⟩ := HST.out.own HV8.out HVF8.out
  have HV9 := Lib.hid hv9
  have HVF9 := Lib.hid hvf9
  have HL9 := Lib.hid (HL8.out.sk z.length)
  have HOV := Lib.hid (dis_of HV8.out HO9.out (Nat.le_refl _)).symm
  have HOB9 : Hid (w.heap.size ≤ w8.heap.size) := Lib.hid HE8.out.hb.size
  have HCL3 := Lib.hid (cloneB_is (w := w9) (by have := HZL.out; omega) HO9.out.at)
  clear hv9 hvf9 HST HGT HE8 HV8 HVF8 HL8
  go_upto_region 13 with (go_at_call 5; refine HCL3.out.mono ?_; rintro e10 w10 ⟨vf, rfl, ho, hb⟩; have HF10 : Hid (OB w9.heap.size w10 vf z) := Lib.hid ho; have HB10 := Lib.hid hb; clear ho hb)
  have HE10 := Lib.hid (HE9.out.keep HB10.out)
  have HV10 := Lib.hid (HV9.out.keep HB10.out)
  have HO10 := Lib.hid (HO9.out.keep HB10.out)
  have HFF := Lib.hid (HE9.out.fre HF10.out (Nat.le_refl _))
  have HOF := Lib.hid (dis_of HO9.out HF10.out (Nat.le_refl _))
  have HSP := Lib.hid (spoilB_is HO10.out 98)
  clear HCL3 HE9 HV9 HO9
  go_upto_region 14 with (go_at_call 9; refine HSP.out.mono ?_; rintro e11 w11 ⟨rfl, hu⟩; have HU11 := Lib.hid hu; clear hu)
  have HE11 := Lib.hid (HE10.out.own HO10.out HOF9.out HOB9.out HU11.out)
  have HV11 := Lib.hid (HV10.out.dis HOV.out HU11.out)
  have HF11 := Lib.hid (HF10.out.dis HOF.out HU11.out)
  have HSK := Lib.hid (seek0 HE11.out HL9.out HJ.out)
  clear HSP HE10 HO10 HV10 HF10 HU11 HOF HOV HOF9 HOB9 HB10
  go_upto_region 15 with (go_at_call 10; refine HSK.out.mono ?_; rintro e12 w12 ⟨V12, rfl, hE, hst⟩; have HE12 := Lib.hid hE; have HST := Lib.hid hst; clear hE hst)
  obtain ⟨hv12, hvf12⟩ := HST.out.own HV11.out HVF9.out
  obtain ⟨hf12, hff12⟩ := HST.out.own HF11.out HFF.out
  have HV12 := Lib.hid hv12
  have HVF12 := Lib.hid hvf12
  have HF12 := Lib.hid hf12
  have HFF12 := Lib.hid hff12
  have HL12 := Lib.hid (HL9.out.sk 0)
  have HGT := Lib.hid (got60 HE12.out HL12.out HJ.out HFZ.out HZL.out)
  clear hv12 hvf12 hf12 hff12 HST HSK HE11 HV11 HVF9 HF11 HFF HL9
  go_upto_region 16 with (go_at_call 11; refine HGT.out.mono ?_; rintro e13 w13 ⟨p2, m2, c2, rfl, ho, hfr, hE, hst⟩; have HE13 := Lib.hid hE; have HST := Lib.hid hst; have HO13 := Lib.hid ho; clear hE hst ho hfr)
  have HV13 := Lib.hid (HST.out.own HV12.out HVF12.out).1
  have HF13 := Lib.hid (HST.out.own HF12.out HFF12.out).1
  have HL13 := Lib.hid (HL12.out.sk z.length)
  clear HST HGT HE12 HV12 HVF12 HF12 HFF12 HL12
  have HLI := Lib.hid (list_own HE13.out HL13.out.aw (HL13.out.who HW.out.1 (HE13.out.kf.kt.cw 1 wb HW.out.2.2.2.2).2.1) HFZ.out)
  go_upto_region 17 with (go_at_call 10; refine HLI.out.mono ?_; rintro e14 w14 ⟨g1, cg1, rfl, hg, he, hb⟩; have hst := ans_newT w14 1 (some ⟨g1, 0, none⟩) 1 cg1; have HG14 := Lib.hid hg; have HT14 := Lib.hid he; have HB14 := Lib.hid (hb.trans ((Go.Joins.below_alloc1 w14 (.cells (ansT 1 (.slice (some ⟨g1, 0, none⟩) 1 cg1)) 37)).mono hb.size)); clear hg he hb)
  clear hst HLI
  have r4 : (w14.alloc (.cells (ansT 1 (.slice (some ⟨g1, 0, none⟩) 1 cg1)) 37)).cell? ⟨w14.heap.size, 4, none⟩ = some (.slice (some ⟨g1, 0, none⟩) 1 cg1) := by rw [(row_new w14 37 (ansT 1 (.slice (some ⟨g1, 0, none⟩) 1 cg1))).cell]; rfl
  have HT15 := Lib.hid (HT14.out.keep (Go.Joins.below_alloc1 w14 (.cells (ansT 1 (.slice (some ⟨g1, 0, none⟩) 1 cg1)) 37)))
  generalize w14.alloc (.cells (ansT 1 (.slice (some ⟨g1, 0, none⟩) 1 cg1)) 37) = w15 at *
  generalize w14.heap.size = b15 at *
  have HE15 := Lib.hid (HE13.out.keep HB14.out)
  have HV15 := Lib.hid (HV13.out.keep HB14.out)
  have HF15 := Lib.hid (HF13.out.keep HB14.out)
  have HO15 := Lib.hid (HO13.out.keep HB14.out)
  obtain ⟨C15, hr15, hs15⟩ := HT15.out.rw rfl
  have HSE := Lib.hid (spoilE_is hr15 hs15 HT15.out.l1 HT15.out.l2 ⟨#[63]⟩ 0)
  clear hr15 hs15 HT14 HT15
  go_upto_region 18 with (go_at_call 12; refine HSE.out.mono ?_; rintro e16 w16 ⟨rfl, hu⟩; have HU16 := Lib.hid hu; clear hu)
  have HE16 := Lib.hid (HE15.out.upd HU16.out (fun i hi e => by
    have h1 := HG14.out
    have h2 : i = g1 := e
    exact ⟨HE13.out.kf.kt.tz i (by omega), fun q => by have := HE13.out.kf.fs.lt i q; omega, Nat.le_trans HE13.out.hb.size (by omega)⟩))
  have HV16 := Lib.hid (HV15.out.upd HU16.out (fun g hg e => by have h1 := HG14.out; have h2 : g = g1 := e; have := (HV13.out.lt g hg).2; omega))
  have HF16 := Lib.hid (HF15.out.upd HU16.out (fun g hg e => by have h1 := HG14.out; have h2 : g = g1 := e; have := (HF13.out.lt g hg).2; omega))
  have HO16 := Lib.hid (HO15.out.upd HU16.out (fun g hg e => by have h1 := HG14.out; have h2 : g = g1 := e; have := (HO13.out.lt g hg).2; omega))
  clear r4 HSE HE15 HV15 HF15 HO15 HU16 HG14 HB14 HE13 HV13 HF13 HO13
  have HLI := Lib.hid (list_own HE16.out HL13.out.aw (HL13.out.who HW.out.1 (HE16.out.kf.kt.cw 1 wb HW.out.2.2.2.2).2.1) HFZ.out)
  go_upto_region 19 with (go_at_call 10; refine HLI.out.mono ?_; rintro e17 w17 ⟨g2, cg2, rfl, hg, he, hb⟩; have hst := ans_newT w17 1 (some ⟨g2, 0, none⟩) 1 cg2; have HT17 := Lib.hid he; have HB17 := Lib.hid (hb.trans ((Go.Joins.below_alloc1 w17 (.cells (ansT 1 (.slice (some ⟨g2, 0, none⟩) 1 cg2)) 37)).mono hb.size)); clear hg he hb)
  clear hst HLI
  have HR18 := Lib.hid (row_new w17 37 (ansT 1 (.slice (some ⟨g2, 0, none⟩) 1 cg2)))
  have HT18 := Lib.hid (HT17.out.keep (Go.Joins.below_alloc1 w17 (.cells (ansT 1 (.slice (some ⟨g2, 0, none⟩) 1 cg2)) 37)))
  generalize w17.alloc (.cells (ansT 1 (.slice (some ⟨g2, 0, none⟩) 1 cg2)) 37) = w18 at *
  generalize w17.heap.size = b18 at *
  have HE18 := Lib.hid (HE16.out.keep HB17.out)
  have HV18 := Lib.hid (HV16.out.keep HB17.out)
  have HF18 := Lib.hid (HF16.out.keep HB17.out)
  have HO18 := Lib.hid (HO16.out.keep HB17.out)
  have HST1 : Hid (∀ (wx : World) (sx : KSt), sx.t = ProcLaw.start → KT wx k sx → Calls Tryz.prog 13 #[.pointer (some ⟨k.K, 0, none⟩)] wx fun e w' => ∃ g cp, e = .returned (.slice (some ⟨g, 0, none⟩) 1 cp) ∧ w'.ownsRow wx.heap.size 3 1 (.slice (some ⟨g, 0, none⟩) 1 cp) 1 [.int .i64 1] ∧ Below wx.heap.size wx w') := Lib.hid (fun wx sx ht hk => procsO_is hk (by rw [ht]; exact start_st.1) (by rw [ht]; exact start_st.2))
  have HPR := Lib.hid (HST1.out w18 _ (HL13.out.t.trans HFR.out.2.2) HE18.out.kf.kt)
  clear HE16 HV16 HF16 HO16 HB17 HT17
  go_upto_region 20 with (go_at_call 13; refine HPR.out.mono ?_; rintro e19 w19 ⟨g3, cp3, rfl, ho, hb⟩; have HP19 := Lib.hid ho; have HB19 := Lib.hid hb; clear ho hb)
  have HSI := Lib.hid (spoilI_is HP19.out 77)
  go_upto_region 21 with (go_at_call 14; refine HSI.out.mono ?_; rintro e20 w20 ⟨rfl, hu⟩; have HU20 := Lib.hid hu; clear hu)
  have HN : Hid (∀ i, i < w18.heap.size → ¬ (Value.slice (some ⟨g3, 0, none⟩) 1 cp3).ownBlock = some i) := Lib.hid (fun i hi e => by
    have h1 := (own1_cell HP19.out).2.2
    injection e with e
    have e : g3 = i := e
    omega)
  have HB20 : Hid (Below w18.heap.size w18 w20) := Lib.hid (HB19.out.trans (HU20.out.toBelow HB19.out.size HN.out))
  have HE20 := Lib.hid (HE18.out.keep HB20.out)
  have HV20 := Lib.hid (HV18.out.keep HB20.out)
  have HF20 := Lib.hid (HF18.out.keep HB20.out)
  have HO20 := Lib.hid (HO18.out.keep HB20.out)
  have HR20 := Lib.hid (HR18.out.keep HB20.out)
  have HT20 := Lib.hid (HT18.out.keep HB20.out)
  clear HE18 HV18 HF18 HO18 HR18 HT18 HPR HB19 HSI HU20 HN HB20 HP19
  have HKP : Hid (∀ wx, Below w20.heap.size w20 wx → Below w20.heap.size w20 wx ∧ wx.cell? ⟨b18, 0, none⟩ = some (.int .i64 0) ∧ wx.cell? ⟨b18, 4, none⟩ = some (.slice (some ⟨g2, 0, none⟩) 1 cg2) ∧ wx.cell? ⟨g2, 0, none⟩ = some (.string ⟨#[102]⟩)) := Lib.hid fun wx hx => by
    refine ⟨hx, ?_, ?_, ?_⟩
    · rw [(HR20.out.keep hx).cell]; rfl
    · rw [(HR20.out.keep hx).cell]; rfl
    · exact (HT20.out.keep hx).c0
  have HQ1 : Hid (∀ wx, Below w20.heap.size w20 wx → Calls Tryz.prog 8 #[vf, vw] wx fun e w' => e = .returned (.bool true) ∧ Below wx.heap.size wx w') := Lib.hid fun wx hx => equalB_is (by have := HZL.out; omega) (HF20.out.keep hx).at (HV20.out.keep hx).at
  have HQ2 : Hid (∀ wx, Below w20.heap.size w20 wx → Calls Tryz.prog 8 #[.slice p2 m2 c2, vw] wx fun e w' => e = .returned (.bool true) ∧ Below wx.heap.size wx w') := Lib.hid fun wx hx => equalB_is (by have := HZL.out; omega) (HO20.out.keep hx).at (HV20.out.keep hx).at
  have HPR : Hid (∀ wx, Below w20.heap.size w20 wx → Calls Tryz.prog 13 #[.pointer (some ⟨k.K, 0, none⟩)] wx fun e w' => ∃ g cp, e = .returned (.slice (some ⟨g, 0, none⟩) 1 cp) ∧ w'.cell? ⟨g, 0, none⟩ = some (.int .i64 1) ∧ g < w'.heap.size ∧ Below wx.heap.size wx w') := Lib.hid fun wx hx => (HST1.out wx _ (HL13.out.t.trans HFR.out.2.2) (HE20.out.keep hx).kf.kt).mono (by
    rintro e w' ⟨g, cp, rfl, ho, hb⟩
    exact ⟨g, cp, rfl, (own1_cell ho).1, (own1_cell ho).2.1, hb⟩)
  have HG3 := Lib.hid (goodO_is w20)
  have HBF := Lib.hid HE20.out.hb
  clear HE20 HV20 HF20 HO20 HR20 HT20 HST1 HW HRT HFR HL13 HFZ HJ HZL HZB HX hbs hbl
  obtain ⟨-, s1, s2, s3⟩ := HKP.out _ (Below.refl _ _)
  have hBA := Go.Joins.below_alloc1 w20 (.cells #[.int .i64 0, .int .i64 0, .int .i64 0] 32)
  have HBA := Lib.hid hBA
  have HGD := Lib.hid (HG3.out (w20.alloc (.cells #[.int .i64 0, .int .i64 0, .int .i64 0] 32)) (row_new w20 _ _))
  clear hBA
  go_wp2_with (first | (go_at_call 15; (with_reducible refine HGD.out.mono ?_); rintro e21 w21 ⟨rfl, rfl⟩) | (go_at_call 8; (with_reducible refine (HQ1.out _ HBA.out).mono ?_); rintro e22 w22 ⟨rfl, hb22⟩; have HB22 := Lib.hid (HBA.out.trans (hb22.mono HBA.out.size)); clear hb22) | (go_at_call 8; (with_reducible refine (HQ2.out _ HB22.out).mono ?_); rintro e23 w23 ⟨rfl, hb23⟩; have HB23 := Lib.hid (HB22.out.trans (hb23.mono HB22.out.size)); obtain ⟨-, k1, k2, k3⟩ := HKP.out w23 HB23.out; clear hb23) | (go_at_call 13; (with_reducible refine (HPR.out _ HB23.out).mono ?_); rintro e24 w24 ⟨g, cq, rfl, hc, hl, hb24⟩; have HQE := Lib.hid (eqO_is (w := w24.alloc (.cells #[.int .i64 1] 3)) (g := g) (b := w24.heap.size) (cp := cq) (by rw [World.cell?_alloc_lt (h := hl)]; exact hc) ((row_new w24 3 #[.int .i64 1]).cell 0)); have HB24 := Lib.hid (HB23.out.trans (hb24.mono HB23.out.size)); clear hc hl hb24) | (go_at_call 16; (with_reducible refine HQE.out.mono ?_); rintro e25 w25 ⟨rfl, hb25⟩; have HB25 := Lib.hid ((HB24.out.trans ((Go.Joins.below_alloc1 w24 (.cells #[.int .i64 1] 3)).mono HB24.out.size)).trans (hb25.mono (Nat.le_trans HB24.out.size (Go.Joins.below_alloc1 w24 (.cells #[.int .i64 1] 3)).size))); clear hb25))
  all_goals
    go_ret
    exact ⟨rfl, HBF.out.trans (HB25.out.mono HBF.out.size)⟩
end
end Go.Proofs.YtcdjkheelbikjaaGreatDoor
