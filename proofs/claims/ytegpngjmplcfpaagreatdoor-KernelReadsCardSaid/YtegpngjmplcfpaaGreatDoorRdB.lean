/- The walk of the law ringkeep5.KernelReads. -/
import Derived.Test.YtegpngjmplcfpaaGreatDoorRdC
import Derived.Deep.DeepCutAuto
namespace Go.Proofs.YtegpngjmplcfpaaGreatDoor
open Go.RowKit
set_option linter.unusedVariables false
set_option linter.unusedSimpArgs false
theorem At.takeN {w : World} {l : List Int} {a : Option Addr} {n c k : Nat} (h : At (Value.int .u8) 0 w (.slice a n c) l) (hk : k ≤ n) : At (Value.int .u8) 0 w (.slice a k c) (l.take k) := by
  obtain ⟨a', c', e, h1, h2, h3⟩ := h
  injection e with e1 e2 e3
  subst e1 e2 e3
  have hl : (l.take k).length = k := by rw [List.length_take]; omega
  refine ⟨_, c, by rw [hl], by rw [hl]; omega, h2, ?_⟩
  rcases h3 with e | ⟨b, o, e, hb, hc⟩
  · left; rw [e]; simp
  · refine .inr ⟨b, o, e, hb, fun i hi => ?_⟩
    rw [hl] at hi
    rw [hc i (by omega)]
    congr 2
    simp [List.getD, List.getElem?_take, hi]
theorem At.piece {w : World} {l : List Int} {ad X : Option Addr} {n c fr hi : Nat} (h : At (Value.int .u8) 0 w (.slice ad n c) l) (h1 : fr ≤ hi) (h2 : hi ≤ n) (hX : X = Option.map (fun x => x.add fr) ad ∨ c = fr) : At (Value.int .u8) 0 w (.slice X (hi - fr) (c - fr)) ((l.drop fr).take (hi - fr)) := by
  have hn : n = l.length := by obtain ⟨a', c', e, _⟩ := h; injection e
  have hc : n ≤ c ∧ c ≤ maxLen := by obtain ⟨a', c', e, q1, q2, _⟩ := h; injection e with e1 e2 e3; subst e3; exact ⟨by omega, q2⟩
  by_cases e : hi = fr
  · subst e
    rw [Nat.sub_self]
    exact ⟨X, c - hi, rfl, Nat.zero_le _, by omega, .inl rfl⟩
  · rcases hX with rfl | hX
    · rcases At.cellB h with e0 | ⟨b, o, rfl, hb, -⟩
      · rw [e0] at hn; simp at hn; omega
      · rw [Option.map_some, Addr.add_lit]
        exact At.sub (lo := fr) (k := hi - fr) h (by omega) hb
    · omega
theorem reads_law {z : List Int} {L a n fr hi : Nat} (hL : z.length = L) (hf : fr = min a L) (hh : hi = min (fr + n) L) : (z.drop fr).take (hi - fr) = (z.drop a).take n := by
  by_cases h : a ≤ L
  · have hfa : fr = a := by omega
    subst hfa
    by_cases h2 : fr + n ≤ L
    · rw [show hi - fr = n by omega]
    · have e1 : (z.drop fr).length = L - fr := by rw [List.length_drop, hL]
      rw [List.take_of_length_le (i := hi - fr) (by omega), List.take_of_length_le (i := n) (by omega)]
  · rw [List.drop_of_length_le (by omega), List.drop_of_length_le (by omega), List.take_nil, List.take_nil]
theorem good2_is (w : World) : Calls Tryz.prog 10 #[.slice (some ⟨w.heap.size, 0, none⟩) 2 2] (w.alloc (.cells #[.int .i64 0, .int .i64 0] 30)) fun e w' => e = .returned (.bool true) ∧ (w.alloc (.cells #[.int .i64 0, .int .i64 0] 30)) = w' := good_any w.heap.size 2 [0, 0] _ (by decide) (fun j hj => by
    rw [(row_new w 30 #[.int .i64 0, .int .i64 0]).cell]
    have : j = 0 ∨ j = 1 := by simp at hj; omega
    rcases this with rfl | rfl <;> rfl)
theorem Awake.op {s : KSt} {p q : Nat} {W : Int} {j k0 : Nat} (h : Awake s p) : Awake (OpenTo s q W j k0) p := ⟨h.p1, h.p16, h.lv, h.sl, h.sg⟩
theorem Awake.sk {s : KSt} {p k0 : Nat} {a : Int} (h : Awake s p) : Awake (SeekTo s k0 a) p := ⟨h.p1, h.p16, h.lv, h.sl, h.sg⟩
theorem Who.op {w w' : World} {s : KSt} {p q : Nat} {W U K : Int} {j k0 : Nat} {a : Option Addr} {cap gc cc : Nat} (h : Who w s p U K a cap gc cc) (hg : w'.cell? ⟨gc, 0, none⟩ = some (.int .i64 1)) : Who w' (OpenTo s q W j k0) p U K a cap gc cc := ⟨h.p16, h.cr, h.wd, h.mt, hg, h.hc, h.c1, h.c2, h.hU, h.hK⟩
theorem Who.sk {w : World} {s : KSt} {p : Nat} {U K : Int} {k0 : Nat} {b : Int} {a : Option Addr} {cap gc cc : Nat} (h : Who w s p U K a cap gc cc) : Who w (SeekTo s k0 b) p U K a cap gc cc := ⟨h.p16, h.cr, h.wd, h.mt, h.g, h.hc, h.c1, h.c2, h.hU, h.hK⟩
theorem op_thing (s : KSt) (p j k0 : Nat) : OpenLaw.thing ((OpenTo s p 3 j k0).fs k0) = .agg (thF 0) := by
  show OpenLaw.thing (OpenLaw.updF _ k0 ⟨1, 2, 3, false, 0, 1⟩ k0) = _
  rw [OpenLaw.updF_same]
  rfl
theorem op_fd (s : KSt) (p j k0 : Nat) : (OpenTo s p 3 j k0).fd (p * 8 + j) = k0 + 1 := by
  show OpenLaw.updN _ (p * 8 + j) (k0 + 1) (p * 8 + j) = _
  rw [OpenLaw.updN_same]
theorem sk_thing {s : KSt} {k0 : Nat} {a b : Int} (h : OpenLaw.thing (s.fs k0) = .agg (thF a)) : OpenLaw.thing ((SeekTo s k0 b).fs k0) = .agg (thF b) := by
  show OpenLaw.thing (OpenLaw.updF _ k0 { s.fs k0 with pos := b } k0) = _
  rw [OpenLaw.updF_same]
  unfold OpenLaw.thing thF at *
  injection h with h
  simp only [Array.mk.injEq, List.cons.injEq, and_true] at h
  obtain ⟨h1, h2, h3, h4, -⟩ := h
  rw [h1, h2, h3, h4]
theorem free_fd {s0 : KSt} {j k0 : Nat} {z : Int} (h1 : ∀ i, s0.fd i = 0) (h2 : ∀ i, (s0.fs i).n = 0) : (∃ j2, j2 < 8 ∧ (SeekTo (OpenTo s0 1 3 j k0) k0 z).fd (1 * 8 + j2) = 0) ∧ (∃ k2, k2 < 32 ∧ ((SeekTo (OpenTo s0 1 3 j k0) k0 z).fs k2).n = 0) := by
  refine ⟨⟨if j = 0 then 1 else 0, by split <;> omega, ?_⟩, ⟨if k0 = 0 then 1 else 0, by split <;> omega, ?_⟩⟩
  · show OpenLaw.updN s0.fd (1 * 8 + j) (k0 + 1) (1 * 8 + _) = 0
    rw [OpenLaw.updN_other _ _ (by split <;> omega)]
    exact h1 _
  · show (OpenLaw.updF (OpenLaw.updF s0.fs k0 ⟨1, 2, 3, false, 0, 1⟩) k0 _ _).n = 0
    rw [OpenLaw.updF_other _ _ (by split <;> omega), OpenLaw.updF_other _ _ (by split <;> omega)]
    exact h2 _
section
attribute [local go_sem ↓] ld_ans st_ans bd_call
set_option maxRecDepth 100000 in
set_option maxHeartbeats 8000000 in
theorem reads_any (w : World) {v : Value} {z : List Int} (hz : At (Value.int .u8) 0 w v z) (at0 n0 : Int) :
    Calls Tryz.prog 3 #[v, .int .i64 at0, .int .i64 n0] w fun e w' => e = .returned (.bool true) ∧ Below w.heap.size w w' := by
  have hbs := bdc_S
  have HS := Lib.hid (started2_is w)
  have HZ := Lib.hid hz
  obtain ⟨ad, cp, rfl, lz, mz, -⟩ := hz
  have hcm : (cp : Int) ≤ 9223372036854775807 := by unfold maxLen at mz; omega
  obtain ⟨L, hL⟩ : ∃ L, L = z.length := ⟨_, rfl⟩
  rw [← hL] at lz HZ ⊢
  have HL := Lib.hid hL
  clear hL
  go_enter Tryz.func3, Tryz.ntmps3
  go_upto_region 4 with (go_at_call 4; refine HS.out.mono ?_; rintro e1 w1 ⟨K, D, B, P, Wh, Fi, Pr, R, M, so, sp, c, rfl, hks, ⟨fk, fx, hc2, hst, hr, n1, n2, n3, n4⟩, hB, hbw⟩)
  obtain ⟨tag, Tb, cc, wb, hkt, h63, hlo⟩ := hks.toKT2
  have hor := hks.or
  have hkb := hks.kp.b
  have hKF : KF w1 ⟨K, Wh, Fi, Pr, R, M, so⟩ (sS0 c tag Tb cc sp wb) fk fx := ⟨hkt, hc2, hst, fun j e => by
    have h1 := n4 j e
    cases Nat.eq_zero_or_pos (tag j) with
    | inl q => exact q
    | inr q =>
      have h2 := hlo j (by omega)
      omega⟩
  have HE1 : Hid (ED w w1 ⟨K, Wh, Fi, Pr, R, M, so⟩ (sS0 c tag Tb cc sp wb) fk fx []) := Lib.hid ⟨hKF, hbw, fun j hj => Nat.le_trans hB (hlo j hj).1, fun j e => (n4 j e).1, fun _ h => nomatch h⟩
  have HKS := Lib.hid hks
  obtain ⟨-, hgw, -, hgt⟩ := hkt.cw 1 wb rfl
  have HWB : Hid (Who w1 (sS0 c tag Tb cc sp wb) 1 0 127 none 0 wb 1 ∧ ¬ fx.bs wb ∧ wb ≠ Fi ∧ tag wb = 7) := Lib.hid ⟨who1 hks h63 hgw, (fun e => absurd ((hKF.sep _ e).symm.trans hgt) (by decide)), (fun e => absurd (hkt.tFi.symm.trans (e ▸ hgt)) (by decide)), hgt⟩
  have HRT := Lib.hid (And.intro hr (And.intro n1 (And.intro n2 n3)))
  clear hkt hlo hks hB hbw HS hKF hst hr n1 n2 n3 n4 hc2 h63 hor hkb hgw hgt
  go_cut [0] (fun s0 wx => ∃ L2 : Nat, s0 = .slice ad L2 cp ∧ L2 = min L 200 ∧ wx = w1)
  case first =>
    rcases Nat.lt_or_ge 200 L with h2 | h2
    · have i1 : (200 : Int) < L := by omega
      have i2 : (200 : Int) ≤ cp := by omega
      go_wp2_with fail
      go_meet
      case rel => exact ⟨200, rfl, by omega, rfl⟩
    · have i1 : ¬ (200 : Int) < L := by omega
      have i2 : (L : Int) ≤ cp := by omega
      go_wp2_with fail
      go_meet
      case rel => exact ⟨L, rfl, by omega, rfl⟩
  case rest =>
    obtain ⟨L2, rfl, hL2, rfl⟩ := hcut
    obtain ⟨z2, hz2⟩ : ∃ z2, z2 = z.take L2 := ⟨_, rfl⟩
    have hzl : z2.length = L2 := by rw [hz2, List.length_take, ← HL.out]; omega
    have HZ2 : Hid (At (Value.int .u8) 0 w (.slice ad L2 cp) z2) := Lib.hid (by rw [hz2]; exact HZ.out.takeN (by omega))
    have HZL := Lib.hid (And.intro hzl (show L2 ≤ 200 by omega))
    have hL2c : L2 ≤ cp := by omega
    clear hz2 hL2 lz hzl HZ HL mz
    have HW1 := Lib.hid (within_any at0 250 wc (by decide) (by decide))
    have HW2 := Lib.hid (within_any n0 257 wc (by decide) (by decide))
    go_upto_region 6 with (first | (go_at_call 5; (with_reducible refine HW1.out.mono ?_); rintro e5 w6 ⟨rfl, rfl⟩; clear HW1) | (go_at_call 5; (with_reducible refine HW2.out.mono ?_); rintro e5 w6 ⟨rfl, rfl⟩; clear HW2))
    obtain ⟨a, ha⟩ : ∃ a : Nat, (a : Int) = at0 % 250 := ⟨(at0 % 250).toNat, by have := Int.emod_nonneg at0 (show (250 : Int) ≠ 0 by decide); omega⟩
    obtain ⟨n, hn⟩ : ∃ n : Nat, (n : Int) = n0 % 257 := ⟨(n0 % 257).toNat, by have := Int.emod_nonneg n0 (show (257 : Int) ≠ 0 by decide); omega⟩
    have ha1 : a < 250 := by have := Int.emod_lt_of_pos at0 (show (0 : Int) < 250 by decide); omega
    have hn1 : n < 257 := by have := Int.emod_lt_of_pos n0 (show (0 : Int) < 257 by decide); omega
    rw [← ha, ← hn]
    clear ha hn
    obtain ⟨k, hkd⟩ : ∃ k : KC, k = ⟨K, Wh, Fi, Pr, R, M, so⟩ := ⟨_, rfl⟩
    have hkK : k.K = K := by rw [hkd]
    obtain ⟨s0, hs0⟩ : ∃ s0, s0 = sS0 c tag Tb cc sp wb := ⟨_, rfl⟩
    have HW : Hid (Who wc s0 1 0 127 none 0 wb 1 ∧ ¬ fx.bs wb ∧ wb ≠ k.Fi ∧ s0.tag wb = 7 ∧ s0.cw 1 = some wb) := Lib.hid (by rw [hkd, hs0]; exact ⟨HWB.out.1, HWB.out.2.1, HWB.out.2.2.1, HWB.out.2.2.2, rfl⟩)
    have HA0 : Hid (Awake s0 1) := Lib.hid (by rw [hs0]; exact HKS.out.calm.awake (s := sS0 c tag Tb cc sp wb) (by decide) (by decide) start1)
    have HFR : Hid ((∀ i, s0.fd i = 0) ∧ ∀ i, (s0.fs i).n = 0) := Lib.hid (by rw [hs0]; exact ⟨fun _ => rfl, fun _ => rfl⟩)
    rw [← hkd, ← hs0] at HE1
    clear hkd hs0 HWB HKS
    subst hkK
    have HO1 := Lib.hid (openN_ask HE1.out HA0.out HW.out.1 HRT.out.1 (by rw [HRT.out.2.1]; decide) ⟨by rw [HRT.out.2.2.1]; decide, by rw [HRT.out.2.2.2]; decide⟩ ⟨0, by decide, HFR.out.1 _⟩ ⟨0, by decide, HFR.out.2 _⟩ HW.out.2.1 HW.out.2.2.1)
    go_upto_region 7 with (go_at_call 6; refine HO1.out.mono ?_; rintro e8 w8 ⟨j, rfl, k0, x1, rows1, hE, hj, hk0, hf, hnh, hhd⟩; have HE2 := Lib.hid hE; have HF := Lib.hid hf; have HJ := Lib.hid (And.intro hj (And.intro hk0 (And.intro hnh hhd))); clear hE hf hj hk0 hnh hhd)
    clear HO1 HE1
    have j0 : ¬ (j : Int) < 0 := by omega
    have HPU := Lib.hid (put_ask HE2.out HA0.out.op HF.out HJ.out.1 (op_fd s0 1 j k0) (op_thing s0 1 j k0) HZL.out.1.symm (HZ2.out.keep HE2.out.hb) (by have := HZL.out; omega))
    go_upto_region 9 with (go_at_call 7; refine HPU.out.mono ?_; rintro e10 w10 ⟨rfl, x2, rows2, hE, hfz, hnh, hhd⟩; have HE3 := Lib.hid hE; have HFZ := Lib.hid hfz; have HH3 := Lib.hid (And.intro hnh hhd); clear hE hfz hnh hhd)
    clear HPU HE2 j0
    have hcw := (HE3.out.kf.kt.cw 1 wb HW.out.2.2.2.2).2.1
    have hnb : ¬ x2.bs wb := fun e => by
      have h1 := HE3.out.kf.sep wb e
      have h2 : s0.tag wb = 0 := h1
      rw [HW.out.2.2.2.1] at h2
      cases h2
    obtain ⟨ff1, ff2⟩ := free_fd (j := j) (k0 := k0) (z := z2.length) HFR.out.1 HFR.out.2
    have HO2 := Lib.hid (openS_ask HE3.out HA0.out.op.sk (HW.out.1.op hcw).sk HFZ.out ⟨by rw [HH3.out.1, HJ.out.2.2.1, HRT.out.2.2.1]; decide, by rw [HH3.out.2, HJ.out.2.2.2, HRT.out.2.2.2]; decide⟩ ff1 ff2 hnb HW.out.2.2.1)
    clear hcw hnb ff1 ff2
    go_upto_region 10 with (go_at_call 6; refine HO2.out.mono ?_; rintro e11 w11 ⟨j2, rfl, k2, rows3, hE, hj, hk0⟩; have HE4 := Lib.hid hE; have HJ2 := Lib.hid (And.intro hj hk0); clear hE hj hk0)
    clear HO2 HE3
    obtain ⟨s3, hs3⟩ : ∃ s3, s3 = SeekTo (OpenTo s0 1 3 j k0) k0 z2.length := ⟨_, rfl⟩
    have HA3 : Hid (Awake s3 1) := Lib.hid (by rw [hs3]; exact HA0.out.op.sk)
    rw [← hs3] at HE4
    clear hs3
    have HSE := Lib.hid (seek_ask HE4.out HA3.out.op HJ2.out.1 (op_fd s3 1 j2 k2) (op_thing s3 1 j2 k2) (b := (a : Int)) ⟨by omega, by omega⟩)
    clear HW HA0 HFR HRT HF HJ
    go_upto_region 11 with (go_at_call 8; refine HSE.out.mono ?_; rintro e12 w12 ⟨a5, b5, pd5, m5, cd5, rfl, rows4, hE⟩; have hst := ans_newD w12 0 a5 b5 pd5 m5 cd5; have HE5 := Lib.hid hE; clear hE)
    clear hst HSE HE4
    have HFZ2 : Hid (FileZ (heldTo x2) 53 420 z2) := Lib.hid (by
      have q := HFZ.out
      exact ⟨q.k, q.m0, q.u, q.g, q.ps, q.sz, q.q0, q.q1, q.sec, q.n1, q.dat, q.nz, q.G, q.na, q.l0⟩)
    generalize hrow : ansV 0 a5 b5 (.slice pd5 m5 cd5) = RW at *
    have HRW0 : Hid (RW[0]? = some (.int .i64 0)) := Lib.hid (by rw [← hrow]; rfl)
    clear hrow
    have HGT := Lib.hid (got_ask HE5.out HA3.out.op.sk HFZ2.out (by have := HZL.out; omega) HJ2.out.1 (op_fd s3 1 j2 k2) (sk_thing (op_thing s3 1 j2 k2)) (a0 := a) (n := n) (by omega) (by omega))
    go_upto_region 12 with (go_at_call 9; refine HGT.out.mono ?_; rintro e13 w13 ⟨pd, m1, cd, rfl, ho, rows5, hE, -⟩; have HE6 := Lib.hid hE; have HOB := Lib.hid ho; clear hE ho)
    have r0 : w13.cell? ⟨w12.heap.size, 0, none⟩ = some (.int .i64 0) := by rw [(HE6.out.rows (w12.heap.size, RW) (List.mem_append.2 (.inr (List.mem_cons_self ..)))).1.cell]; exact HRW0.out
    clear HGT HE5 HFZ2 HJ2 HA3
    go_cut [15] (fun s15 wx => ∃ fr : Nat, s15 = .int .i64 fr ∧ fr = min a L2 ∧ wx = w13)
    case first =>
      rcases Nat.lt_or_ge L2 a with h2 | h2
      · have i1 : (L2 : Int) < a := by omega
        go_wp2_with fail
        go_meet
        case rel => exact ⟨L2, rfl, by omega, rfl⟩
      · have i1 : ¬ (L2 : Int) < a := by omega
        go_wp2_with fail
        go_meet
        case rel => exact ⟨a, rfl, by omega, rfl⟩
    case rest =>
      obtain ⟨fr, rfl, hfr, rfl⟩ := hcut
      have HFRR := Lib.hid hfr
      have HG := Lib.hid (good2_is wc)
      have hal := Go.Joins.below_alloc1 wc (.cells #[.int .i64 0, .int .i64 0] 30)
      have HOB1 := Lib.hid (HOB.out.keep hal)
      have HZ3 := Lib.hid ((HZ2.out.keep HE6.out.hb).keep hal)
      have HBB := Lib.hid (HE6.out.hb.trans (hal.mono HE6.out.hb.size))
      have f1 : (fr : Int) ≤ L2 := by omega
      have f2 : (fr : Int) ≤ cp := by omega
      have f0 : (0 : Int) ≤ fr := by omega
      obtain ⟨sm, hsm⟩ : ∃ sm : Nat, sm = fr + n := ⟨_, rfl⟩
      have y1 : IntKind.i64.wrap ((fr : Int) + n) = (sm : Int) := by rw [IntWalk.i64_in _ (by omega)]; omega
      have j0 : (0 : Int) ≤ j2 := by omega
      have HSM := Lib.hid hsm
      clear hal HE6 HOB HZ2 hfr hsm
      rcases Nat.lt_or_ge L2 sm with h2 | h2
      · have i1 : (L2 : Int) < sm := by omega
        have i3 : (L2 : Int) ≤ cp := by omega
        have i4 : (fr : Int) ≤ sm := by have := HSM.out; omega
        by_cases hcf : cp = fr
        · subst hcf
          have hnil : (z2.drop a).take n = [] := by
            rw [← reads_law HZL.out.1 HFRR.out (hi := L2) (by have := HSM.out; omega), show L2 - cp = 0 by omega]
            rfl
          have HEQ : Hid (Calls Tryz.prog 11 #[.slice pd m1 cd, .slice ad 0 0] (wc.alloc (.cells #[.int .i64 0, .int .i64 0] 30)) fun e w' => e = .returned (.bool true) ∧ Below (wc.alloc (.cells #[.int .i64 0, .int .i64 0] 30)).heap.size (wc.alloc (.cells #[.int .i64 0, .int .i64 0] 30)) w') := Lib.hid (by
            have h1 := HOB1.out.at
            rw [hnil] at h1
            exact equalB_is (l := []) (by decide) h1 ⟨ad, 0, rfl, Nat.le_refl _, Nat.zero_le _, .inl rfl⟩)
          clear hnil
          clear HOB1 HZ3
          go_wp2_with (first | (go_at_call 10; refine HG.out.mono ?_; rintro e18 w18 ⟨rfl, rfl⟩) | (go_at_call 11; refine HEQ.out.mono ?_; rintro e19 w19 ⟨rfl, hb19⟩))
          go_ret
          exact ⟨rfl, HBB.out.trans (hb19.mono HBB.out.size)⟩
        · have hcf2 : ¬ (cp : Int) = fr := by omega
          have HEQ : Hid (Calls Tryz.prog 11 #[.slice pd m1 cd, .slice (Option.map (fun x => x.add fr) ad) (L2 - fr) (cp - fr)] (wc.alloc (.cells #[.int .i64 0, .int .i64 0] 30)) fun e w' => e = .returned (.bool true) ∧ Below (wc.alloc (.cells #[.int .i64 0, .int .i64 0] 30)).heap.size (wc.alloc (.cells #[.int .i64 0, .int .i64 0] 30)) w') := Lib.hid (by
            refine equalB_is (l := (z2.drop a).take n) (by rw [List.length_take]; omega) HOB1.out.at ?_
            rw [← reads_law HZL.out.1 HFRR.out (hi := L2) (by have := HSM.out; omega)]
            have := HZ3.out.piece (fr := fr) (hi := L2) (X := (Option.map (fun x => x.add fr) ad)) (by omega) (by omega) (.inl rfl)
            exact this)
          clear HOB1 HZ3
          go_wp2_with (first | (go_at_call 10; refine HG.out.mono ?_; rintro e18 w18 ⟨rfl, rfl⟩) | (go_at_call 11; refine HEQ.out.mono ?_; rintro e19 w19 ⟨rfl, hb19⟩))
          go_ret
          exact ⟨rfl, HBB.out.trans (hb19.mono HBB.out.size)⟩
      · have i1 : ¬ (L2 : Int) < sm := by omega
        have i3 : (sm : Int) ≤ cp := by omega
        have i4 : (fr : Int) ≤ sm := by have := HSM.out; omega
        by_cases hcf : cp = fr
        · subst hcf
          obtain rfl : cp = sm := by omega
          have hnil : (z2.drop a).take n = [] := by
            rw [← reads_law HZL.out.1 HFRR.out (hi := cp) (by have := HSM.out; omega), show cp - cp = 0 by omega]
            rfl
          have HEQ : Hid (Calls Tryz.prog 11 #[.slice pd m1 cd, .slice ad 0 0] (wc.alloc (.cells #[.int .i64 0, .int .i64 0] 30)) fun e w' => e = .returned (.bool true) ∧ Below (wc.alloc (.cells #[.int .i64 0, .int .i64 0] 30)).heap.size (wc.alloc (.cells #[.int .i64 0, .int .i64 0] 30)) w') := Lib.hid (by
            have h1 := HOB1.out.at
            rw [hnil] at h1
            exact equalB_is (l := []) (by decide) h1 ⟨ad, 0, rfl, Nat.le_refl _, Nat.zero_le _, .inl rfl⟩)
          clear hnil
          clear HOB1 HZ3
          go_wp2_with (first | (go_at_call 10; refine HG.out.mono ?_; rintro e18 w18 ⟨rfl, rfl⟩) | (go_at_call 11; refine HEQ.out.mono ?_; rintro e19 w19 ⟨rfl, hb19⟩))
          go_ret
          exact ⟨rfl, HBB.out.trans (hb19.mono HBB.out.size)⟩
        · have hcf2 : ¬ (cp : Int) = fr := by omega
          have HEQ : Hid (Calls Tryz.prog 11 #[.slice pd m1 cd, .slice (Option.map (fun x => x.add fr) ad) (sm - fr) (cp - fr)] (wc.alloc (.cells #[.int .i64 0, .int .i64 0] 30)) fun e w' => e = .returned (.bool true) ∧ Below (wc.alloc (.cells #[.int .i64 0, .int .i64 0] 30)).heap.size (wc.alloc (.cells #[.int .i64 0, .int .i64 0] 30)) w') := Lib.hid (by
            refine equalB_is (l := (z2.drop a).take n) (by rw [List.length_take]; omega) HOB1.out.at ?_
            rw [← reads_law HZL.out.1 HFRR.out (hi := sm) (by have := HSM.out; omega)]
            have := HZ3.out.piece (fr := fr) (hi := sm) (X := (Option.map (fun x => x.add fr) ad)) (by omega) (by omega) (.inl rfl)
            exact this)
          clear HOB1 HZ3
          go_wp2_with (first | (go_at_call 10; refine HG.out.mono ?_; rintro e18 w18 ⟨rfl, rfl⟩) | (go_at_call 11; refine HEQ.out.mono ?_; rintro e19 w19 ⟨rfl, hb19⟩))
          go_ret
          exact ⟨rfl, HBB.out.trans (hb19.mono HBB.out.size)⟩
end
end Go.Proofs.YtegpngjmplcfpaaGreatDoor
