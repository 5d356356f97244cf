/- The walk of the law ringkeep5.KernelForks. -/
import Derived.Test.YtmdjkoiglghipaaGreatDoorGood
import Derived.Test.YtmdjkoiglghipaaGreatDoorSnapU
namespace Go.Proofs.YtmdjkoiglghipaaGreatDoor
open Go.RowKit
set_option linter.unusedVariables false
set_option linter.unusedSimpArgs false
theorem dl_list (xs : List Int) (h : xs.length ≤ 16) : pgl (dl (fun _ => 0) xs xs.length) 16 = splice (zeros 16) 0 xs := by
  apply List.ext_getElem?
  intro j
  by_cases hj : j < 16
  · simp only [pgl, List.getElem?_map, List.getElem?_range hj, Option.map_some, dl, splice, List.take_zero, List.nil_append, Nat.zero_add]
    by_cases hl : j < xs.length
    · rw [if_pos hl, List.getElem?_append_left hl, List.getD_eq_getElem?_getD, List.getElem?_eq_getElem hl]
      rfl
    · rw [if_neg hl, List.getElem?_append_right (by omega), List.getElem?_drop, zeros, List.getElem?_replicate, if_pos (by omega)]
  · rw [List.getElem?_eq_none (by rw [pgl_len]; omega), List.getElem?_eq_none (by simp [splice, zeros]; omega)]
/-- the first sixteen of some bytes -/
theorem min_le (n : Nat) : (if 16 < (n : Int) then 16 else (n : Int)).toNat ≤ 16 := by split <;> omega
theorem at_min {w : World} (x : List Int) (n : Nat) (a : Option Addr) (c : Nat) (hn : n = x.length) (hl : n ≤ c) (hm : c ≤ maxLen) (hx : x = [] ∨ ∃ b off, a = some ⟨b, off, none⟩ ∧ b < w.heap.size ∧ ∀ i, i < x.length → w.cell? ⟨b, off + i, none⟩ = some (.int .u8 (x.getD i 0))) :
    ∃ z : List Int, z.length = (if 16 < (n : Int) then 16 else (n : Int)).toNat ∧ (if 16 < (n : Int) then 16 else (n : Int)).toNat ≤ c ∧ At (Value.int .u8) 0 w (.slice a (if 16 < (n : Int) then 16 else (n : Int)).toNat c) z ∧ (z ≠ [] → ∃ b off, a = some ⟨b, off, none⟩ ∧ b < w.heap.size) := by
  have hk : (if 16 < (n : Int) then 16 else (n : Int)).toNat ≤ n := by split <;> omega
  generalize (if 16 < (n : Int) then 16 else (n : Int)).toNat = k at *
  have hlen : (x.take k).length = k := by rw [List.length_take]; omega
  refine ⟨x.take k, hlen, by omega, ⟨a, c, by rw [hlen], by omega, hm, ?_⟩, fun h => ?_⟩
  · rcases hx with rfl | ⟨b, off, ha, hb, hc⟩
    · exact .inl (by simp)
    · refine .inr ⟨b, off, ha, hb, fun i hi => ?_⟩
      rw [hlen] at hi
      rw [hc i (by omega)]
      congr 2
      simp [List.getD, List.getElem?_take, hi]
  · rcases hx with rfl | ⟨b, off, ha, hb, _⟩
    · simp at h
    · exact ⟨b, off, ha, hb⟩
theorem run_copy0 (w : World) (g c : Nat) (a : Option Addr) : (copyB #[.slice (some ⟨g, 0, none⟩) 16 16, .slice a 0 c]).run Tryz.prog w = .ok (.int .i64 0) w := by
  cases a <;> kernel_rfl
/-- a copy of at most sixteen bytes into sixteen -/
theorem copy_head {w : World} {g : Nat} (hg : BK w g (zeros 16)) {a : Option Addr} {n c : Nat} {z : List Int} (hz : At (Value.int .u8) 0 w (.slice a n c) z) (hn : z.length ≤ 16) :
    ∃ w', (copyB #[.slice (some ⟨g, 0, none⟩) 16 16, .slice a n c]).run Tryz.prog w = .ok (.int .i64 n) w' ∧ BK w' g (splice (zeros 16) 0 z) ∧ Upd (fun k => k = g) w w' := by
  obtain ⟨a', cap, e, h1, h2, h3⟩ := hz
  injection e with e1 e2 e3
  subst e1 e2 e3
  by_cases e0 : z = []
  · subst e0
    exact ⟨w, run_copy0 w g c a, by simpa [splice] using hg, Upd.refl _ _⟩
  · obtain ⟨b, off, rfl, hlt, hc⟩ := h3.resolve_left e0
    exact ⟨_, run_copyB hg (by rw [show z.length.min 16 = min z.length 16 from rfl, Nat.min_eq_left hn]) hc (by simp [zeros]; omega), hg.setRow _, Upd.setRow w _ rfl⟩
section
attribute [local go_sem ↓] mkB_eq copyB_eq ld_ans st_ans bd_call
set_option maxRecDepth 100000 in
set_option maxHeartbeats 8000000 in
theorem forks_any (w : World) {v0 v1 : Value} {x y : List Int} (hx : At (Value.int .u8) 0 w v0 x) (hy : At (Value.int .u8) 0 w v1 y) (pg : Int) :
    Calls Tryz.prog 3 #[v0, v1, .int .i64 pg] w fun e w' => e = .returned (.bool true) ∧ Below w.heap.size w w' := by
  have hb1 := bdc_1
  have hb3 := bdc_3
  have hb0 := bdc_0
  have HS := Lib.hid (started_is w)
  obtain ⟨a0, c0, rfl, lx, mx, hx0⟩ := hx
  obtain ⟨a1, c1, rfl, ly, my, hy0⟩ := hy
  have HX := Lib.hid hx0
  have HY := Lib.hid hy0
  have nx : (c0 : Int) ≤ 9223372036854775807 := by unfold maxLen at mx; omega
  have ny : (c1 : Int) ≤ 9223372036854775807 := by unfold maxLen at my; omega
  have MX := Lib.hid (And.intro mx my)
  clear hx0 hy0 mx my
  obtain ⟨n0, hn0⟩ : ∃ n0, n0 = x.length := ⟨_, rfl⟩
  obtain ⟨n1, hn1⟩ : ∃ n1, n1 = y.length := ⟨_, rfl⟩
  rw [← hn0] at lx ⊢
  rw [← hn1] at ly ⊢
  have HN := Lib.hid (And.intro hn0 hn1)
  clear hn0 hn1
  go_enter Tryz.func3, Tryz.ntmps3
  go_upto_region 4 with (go_at_call 4; refine HS.out.mono ?_; rintro e1 w1 ⟨K, D, B, P, Wh, Fi, Pr, R, M, so, sp, c, rfl, hks, hB, hb1⟩)
  go_region
  have HHX := Lib.hid (at_min x n0 a0 c0 HN.out.1 lx MX.out.1 HX.out)
  have HHY := Lib.hid (at_min y n1 a1 c1 HN.out.2 ly MX.out.2 HY.out)
  have HZX := Lib.hid (min_le n0)
  have HZY := Lib.hid (min_le n1)
  generalize (if 16 < (n0 : Int) then 16 else (n0 : Int)).toNat = m0 at *
  generalize (if 16 < (n1 : Int) then 16 else (n1 : Int)).toNat = m1 at *
  obtain ⟨tag, Tb, cc, wb, hkt, hlo⟩ := hks.toKT
  have HE1 : Hid (EX w w1.drew ⟨K, Wh, Fi, Pr, R, M, so⟩ (sS0 c tag Tb cc sp wb) []) := Lib.hid ⟨hkt.keep (Below.refl _ _).drew, hb1.drew, fun j hj => Nat.le_trans hB (hlo j hj), fun _ h => nomatch h⟩
  have HKS := Lib.hid hks
  clear hkt hlo hks hB hb1 HS
  generalize w1.drew = w2 at *
  have HW := Lib.hid (within_any pg 64 w2 (by decide) (by decide))
  have i0 : 0 ≤ pg % 64 := Int.emod_nonneg pg (by decide)
  have i1 : pg % 64 < 64 := Int.emod_lt_of_pos pg (by decide)
  go_upto_region 6 with (go_at_call 5; refine HW.out.mono ?_; rintro e5 w6 ⟨rfl, rfl⟩)
  clear HW
  generalize pg % 64 = p at *
  have HA1 := Lib.hid (HE1.out.ask (p := 1) (A := callA 23 p 1 3) (HKS.out.calm.awake (s := sS0 c tag Tb cc sp wb) (by decide) (by decide) start1) rfl (.inr (.inr (.inr rfl))) rfl (ask_map1 HKS.out HE1.out.kt i0 i1 rfl rfl rfl rfl rfl))
  go_upto_region 7 with (go_at_call 6; refine HA1.out.mono ?_; rintro e4 w4 ⟨sM, e, a, b, rfl, ⟨rfl, g, hq⟩, hel⟩; have hst := ans_new w4 0 a b; have HE4 := Lib.hid hel; have HQ := Lib.hid hq; clear hel hq)
  clear hst HA1
  generalize w4.alloc (.cells (ansV 0 a b (.slice none 0 0)) 33) = w5 at *
  generalize w4.heap.size = g1 at *
  have HSP := Lib.hid (spaceK_is HE4.out.kt (p := 1) (by decide) (by decide) (by rw [HQ.out.t]; exact start1) (s1 := 1) (by rw [HQ.out.c]; exact HKS.out.t0))
  go_upto_region 8 with (go_at_call 7; refine HSP.out.mono ?_; rintro e6 w6 ⟨rfl, rfl⟩)
  clear HSP
  obtain ⟨zx, lzx, mzx, azx, ezx⟩ := HHX.out
  obtain ⟨zy, lzy, mzy, azy, ezy⟩ := HHY.out
  have y16 : IntKind.i64.wrap (16 * p) = 16 * p := IntWalk.i64_in _ (by omega)
  have HMS := Lib.hid (mem_is HE4.out.kt)
  have HAX := Lib.hid azx
  have HAY := Lib.hid azy
  have HEX := Lib.hid ezx
  have HEY := Lib.hid ezy
  have HLX := Lib.hid (And.intro lzx lzy)
  clear azx azy ezx ezy lzx lzy HHX HHY
  have HW1 := Lib.hid (writeP_is HE4.out.kt.me (s := 1) (b := sp) (g := g) (pg := p) (by rw [HQ.out.S]; rfl) (by decide) i0 i1 HQ.out.F (by rw [HQ.out.pl]; simp) HQ.out.h HQ.out.u rfl ⟨by decide, by decide⟩ ⟨by decide, by decide⟩ (by rw [HQ.out.pl]; show ((1 : Nat) : Int) ≤ 64 + 64; decide) (HAX.out.keep HE4.out.hb) (by rw [HLX.out.1]; exact HZX.out) (fun e a' n' c' q => by
    obtain ⟨b', o', q1, q2⟩ := HEX.out e
    rw [q1] at q
    injection q with q _ _
    injection q with q
    rw [← q]
    exact HE4.out.far q2))
  go_upto_region 9 with (first | (go_at_call 8; refine HMS.out.mono ?_; rintro e7 w7 ⟨rfl, rfl⟩) | (go_at_call 9; refine HW1.out.mono ?_; rintro e8 w8 ⟨rfl, hm8, hu8⟩))
  have hgm : g ∈ sM.m.pl := by rw [HQ.out.pl]; simp
  rw [HQ.out.d] at hm8
  obtain ⟨d1, hd1⟩ : ∃ d1, d1 = dl (fun _ => 0) zx zx.length := ⟨_, rfl⟩
  rw [← hd1] at hm8
  have HD1 := Lib.hid hd1
  have HE8 := Lib.hid (HE4.out.mem hm8 (hu8.mono (fun j _ q => by rcases q with q | q; exact .inl q; subst q; exact .inr (.inr (.inr (.inr hgm))))) (fun j hj => .inl hj))
  have HQ8 := Lib.hid (HQ.out.dat d1 (tg sM.tag w5.heap.size (mB M so (sM.m.dat g d1)) 6))
  have HSL : Hid (sp < w8.heap.size) := Lib.hid (hm8.lt (.inr (.inr (.inr (.inl ⟨1, by show sM.m.S 1 = _; rw [HQ.out.S]; rfl⟩)))))
  clear hm8 hu8 hgm HW1 HMS HE4 HE1 HQ hd1
  generalize hs8 : ({ sM with m := sM.m.dat g d1, tag := tg sM.tag w5.heap.size (mB M so (sM.m.dat g d1)) 6 } : KSt) = s8 at *
  clear hs8
  have hcalm : Calm s8.c 1 := by rw [HQ8.out.c]; exact HKS.out.calm
  have HA2 := Lib.hid (HE8.out.ask (p := 1) (A := callA 2 0 0 0) (hcalm.awake (by decide) (by decide) (by rw [HQ8.out.t]; exact start1)) rfl (.inr (.inl rfl)) rfl (proc_fork (by decide) (by decide) (kout_ok HE8.out.kt.tz _) rfl rfl (ask_fork1 HKS.out HE8.out.kt HQ8.out HSL.out)))
  clear hcalm
  go_upto_region 10 with (go_at_call 6; refine HA2.out.mono ?_; rintro e9 w9 ⟨sF, ef, af, bf, rfl, ⟨rfl, rfl, rfl, nb, hr⟩, hel⟩; have hst := ans_new w9 0 2 0; have HE9 := Lib.hid hel; have HR := Lib.hid hr; clear hel hr)
  clear hst HA2 HE8 HQ8 HSL
  generalize w9.alloc (.cells (ansV 0 2 0 (.slice none 0 0)) 33) = w10 at *
  generalize w9.heap.size = g2 at *
  have a21 : w10.cell? ⟨g2, 1, none⟩ = some (.int .i64 2) := by rw [(HE9.out.rows _ (List.mem_cons_self ..)).1.cell]; rfl
  have HSP := Lib.hid (spaceK_is HE9.out.kt (p := 2) (by decide) (by decide) (by rw [HR.out.t]; exact t1_2.1) (s1 := 2) HR.out.p2)
  go_upto_region 11 with (go_at_call 7; refine HSP.out.mono ?_; rintro e11 w11 ⟨rfl, rfl⟩)
  clear HSP a21
  have HMS := Lib.hid (mem_is HE9.out.kt)
  have HRD := Lib.hid (readG_is HE9.out.kt.me (s := 2) (b := nb) (g := g) (pg := p) HR.out.S2 (by decide) i0 i1 HR.out.F2 (by rw [HR.out.pl]; simp) HR.out.h rfl)
  rw [HR.out.d] at HRD
  go_upto_region 12 with (first | (go_at_call 8; refine HMS.out.mono ?_; rintro e12 w12 ⟨rfl, rfl⟩) | (go_at_call 10; refine HRD.out.mono ?_; rintro e13 w13 ⟨⟨v13, rfl, ho13⟩, hm13, hu13⟩))
  have hgm : ∀ {m : MS} {j : Nat}, g ∈ m.pl → (j = M ∨ j = g) → mB M so m j := fun hg q => by rcases q with q | q; exact .inl q; subst q; exact .inr (.inr (.inr (.inr hg)))
  have hz10 := HE9.out.hb.size
  obtain ⟨q3, cp3, cur3, rfl, hq3, hrow3, hat3⟩ := ob_row ho13 (by intro q; have := pgl_len d1 16; rw [q] at this; cases this)
  have hgF : g ∈ sF.m.pl := by rw [HR.out.pl]; simp
  have hex13 := HE9.out.mem hm13 (hu13.mono (fun j _ q => hgm hgF q)) (fun j hj => .inl hj)
  have hr13 := HR.out.tagged (tg sF.tag w10.heap.size (mB M so sF.m) 6)
  have ht3 : tg sF.tag w10.heap.size (mB M so sF.m) 6 q3 = 0 := tg_no hq3 (fun q => by have := HE9.out.kt.me.lt q; omega)
  have HE13 := Lib.hid (hex13.push hrow3 ht3)
  have HR13 := Lib.hid hr13
  have HAT3 := Lib.hid hat3
  rw [pgl_len]
  clear HRD HMS hex13 hr13 ht3 hrow3 hat3 hq3 ho13 hm13 hu13 HE9 HR hgF hz10
  generalize hs13 : ({ sF with m := sF.m, tag := tg sF.tag w10.heap.size (mB M so sF.m) 6 } : KSt) = s13 at *
  clear hs13
  have HMS := Lib.hid (mem_is HE13.out.kt)
  have HW2 := Lib.hid (writeS_is HE13.out.kt.me (s := 1) (b := sp) (g := g) (pg := p) HR13.out.S1 (by decide) i0 i1 HR13.out.F1 (by rw [HR13.out.pl]; simp) HR13.out.h HR13.out.u rfl ⟨by decide, by decide⟩ ⟨by decide, by decide⟩ (by rw [HR13.out.pl]; show ((1 : Nat) : Int) + 1 ≤ 64 + 64; decide) (by
    rw [HR13.out.pl]
    have : List.countP s13.m.h [g] ≤ 1 := List.countP_le_length
    omega) (by have := HR13.out.nF; omega) (HAY.out.keep HE13.out.hb) (by rw [HLX.out.2]; exact HZY.out) (fun e a' n' c' q => by
    obtain ⟨b', o', q1, q2⟩ := HEY.out e
    rw [q1] at q
    injection q with q _ _
    injection q with q
    rw [← q]
    exact HE13.out.far q2))
  go_upto_region 13 with (first | (go_at_call 8; refine HMS.out.mono ?_; rintro e14 w14 ⟨rfl, rfl⟩) | (go_at_call 9; refine HW2.out.mono ?_; rintro e15 w15 ⟨rfl, m2, hm15, hst15, hu15, hB15⟩))
  have HE15 := Lib.hid (HE13.out.mem hm15 hu15 hB15)
  have HF15 : Hid (m2.S 2 = some nb ∧ m2.F nb p = some (g, 3) ∧ g ∈ m2.pl ∧ m2.h g = true ∧ m2.d g = d1) := Lib.hid ⟨by rw [hst15.S]; exact HR13.out.S2, by rw [hst15.Fo nb HR13.out.ne]; exact HR13.out.F2, hst15.p1, hst15.h1, hst15.d1.trans HR13.out.d⟩
  clear HW2 HMS hm15 hst15 hu15 hB15 HE13 HR13
  generalize hs15 : ({ s13 with m := m2, tag := tg s13.tag w13.heap.size (mB M so m2) 6 } : KSt) = s15 at *
  have HSM : Hid (s15.m = m2) := Lib.hid (by rw [← hs15])
  clear hs15
  have HMS := Lib.hid (mem_is HE15.out.kt)
  have HRD := Lib.hid (readG_is HE15.out.kt.me (s := 2) (b := nb) (g := g) (pg := p) (by rw [HSM.out]; exact HF15.out.1) (by decide) i0 i1 (by rw [HSM.out]; exact HF15.out.2.1) (by rw [HSM.out]; exact HF15.out.2.2.1) (by rw [HSM.out]; exact HF15.out.2.2.2.1) rfl)
  rw [show s15.m.d g = d1 by rw [HSM.out]; exact HF15.out.2.2.2.2] at HRD
  go_upto_region 14 with (first | (go_at_call 8; refine HMS.out.mono ?_; rintro e16 w16 ⟨rfl, rfl⟩) | (go_at_call 10; refine HRD.out.mono ?_; rintro e17 w17 ⟨⟨v17, rfl, ho17⟩, hm17, hu17⟩))
  obtain ⟨q7, cp7, cur7, rfl, hq7, hrow7, hat7⟩ := ob_row ho17 (by intro q; have := pgl_len d1 16; rw [q] at this; cases this)
  have HE17 := Lib.hid (HE15.out.mem hm17 (hu17.mono (fun j _ q => hgm (by rw [HSM.out]; exact HF15.out.2.2.1) q)) (fun j hj => .inl hj))
  have HAT7 := Lib.hid (And.intro hrow7 hat7)
  rw [pgl_len]
  clear HRD HMS hrow7 hat7 hq7 ho17 hm17 hu17 HE15 HSM HF15 hgm
  have r1 := (HE17.out.rows (g1, 33, ansV 0 a b (.slice none 0 0)) (by simp)).1
  have r2 := (HE17.out.rows (g2, 33, ansV 0 2 0 (.slice none 0 0)) (by simp)).1
  have r3 := (HE17.out.rows (q3, 5, cur3) (by simp)).1
  have HR3 := Lib.hid r3
  have hal := Go.Joins.below_alloc1 w17 (.cells #[.int .i64 0, .int .i64 0, .int .i64 0, .int .i64 0, .int .i64 0, .int .i64 0, .int .i64 0, .int .i64 0] 28)
  have c10 : w17.cell? ⟨g1, 0, none⟩ = some (.int .i64 0) := by rw [r1.cell]; rfl
  have c20 : w17.cell? ⟨g2, 0, none⟩ = some (.int .i64 0) := by rw [r2.cell]; rfl
  have c21 : (w17.alloc (.cells #[.int .i64 0, .int .i64 0, .int .i64 0, .int .i64 0, .int .i64 0, .int .i64 0, .int .i64 0, .int .i64 0] 28)).cell? ⟨g2, 1, none⟩ = some (.int .i64 2) := by rw [(r2.keep hal).cell]; rfl
  have HG : Hid (Calls Tryz.prog 11 #[.slice (some ⟨w17.heap.size, 0, none⟩) 8 8] (w17.alloc (.cells #[.int .i64 0, .int .i64 0, .int .i64 0, .int .i64 0, .int .i64 0, .int .i64 0, .int .i64 0, .int .i64 0] 28)) fun e w' => e = .returned (.bool true) ∧ (w17.alloc (.cells #[.int .i64 0, .int .i64 0, .int .i64 0, .int .i64 0, .int .i64 0, .int .i64 0, .int .i64 0, .int .i64 0] 28)) = w') := Lib.hid (good_any w17.heap.size 8 [0, 0, 0, 0, 0, 0, 0, 0] _ (by decide) (fun j hj => by
    rw [(row_new w17 28 #[.int .i64 0, .int .i64 0, .int .i64 0, .int .i64 0, .int .i64 0, .int .i64 0, .int .i64 0, .int .i64 0]).cell]
    have : j = 0 ∨ j = 1 ∨ j = 2 ∨ j = 3 ∨ j = 4 ∨ j = 5 ∨ j = 6 ∨ j = 7 := by simp at hj; omega
    rcases this with rfl | rfl | rfl | rfl | rfl | rfl | rfl | rfl <;> rfl))
  have HAL := Lib.hid hal
  clear r1 r2 r3 hal
  go_upto_region 16 with (go_at_call 11; refine HG.out.mono ?_; rintro e18 w18 ⟨rfl, rfl⟩)
  clear HG c10 c20 c21
  have HB18 := Lib.hid (HE17.out.hb.trans (HAL.out.mono HE17.out.hb.size))
  have HR318 := Lib.hid (HR3.out.keep HAL.out)
  have HR718 := Lib.hid (HAT7.out.1.keep HAL.out)
  clear HE17 HR3 HAL
  generalize w17.alloc (.cells #[.int .i64 0, .int .i64 0, .int .i64 0, .int .i64 0, .int .i64 0, .int .i64 0, .int .i64 0, .int .i64 0] 28) = w18 at *
  have mk16 := mkB16 w18
  have hal := Go.Joins.below_alloc1 w18 (.cells ((zeros 16).map u8V).toArray 5)
  obtain ⟨w19, hcp, hbk, hu19⟩ := copy_head (bk_new w18 (zeros 16)) (HAX.out.keep (HB18.out.trans (hal.mono HB18.out.size))) (by rw [HLX.out.1]; exact HZX.out)
  have HBK := Lib.hid hbk
  have HU19 := Lib.hid (Upd.toBelow (hu19 : Upd _ _ _) (hal.size : w18.heap.size ≤ _) (fun k hk => by show ¬ k = w18.heap.size; omega))
  have HALL := Lib.hid hal
  clear hal hbk hu19
  have hb19 : Below w18.heap.size w18 w19 := HALL.out.trans HU19.out
  have HAT319 := HAT3.out w19 (HR318.out.keep hb19)
  have HAT719 := HAT7.out.2 w19 (HR718.out.keep hb19)
  have hWA : At (Value.int .u8) 0 w19 (.slice (some ⟨w18.heap.size, 0, none⟩) 16 16) (pgl d1 16) := by
    rw [HD1.out, dl_list zx (by rw [HLX.out.1]; exact HZX.out)]
    have hl : (splice (zeros 16) 0 zx).length = 16 := by
      have := HLX.out.1
      have := HZX.out
      simp [splice, zeros]; omega
    refine ⟨_, 16, by rw [hl], by rw [hl]; exact Nat.le_refl _, by unfold maxLen; omega, .inr ⟨_, 0, rfl, HBK.out.lt, fun i hi => ?_⟩⟩
    rw [Nat.zero_add]
    exact HBK.out.cell hi
  rw [pgl_len] at HAT319 HAT719
  have HQ1 := Lib.hid (equalB_is (by rw [pgl_len]; decide) HAT319 hWA)
  have HQ2 := Lib.hid (fun (w6 : World) (h6 : Below w19.heap.size w19 w6) => equalB_is (by rw [pgl_len]; decide) (HAT719.keep h6) (hWA.keep h6))
  have HB19 := Lib.hid (HB18.out.trans (hb19.mono HB18.out.size))
  clear HAT319 HAT719 hWA hb19
  go_wp2_with (first | (go_at_call 12; (with_reducible refine HQ1.out.mono ?_); rintro e20 w20 ⟨rfl, hb20⟩; have HB20 := Lib.hid hb20; have HQ3 := Lib.hid (HQ2.out w20 hb20); clear hb20) | (go_at_call 12; (with_reducible refine HQ3.out.mono ?_); rintro e21 w21 ⟨rfl, hb21⟩; have HB21 := Lib.hid hb21; clear hb21))
  all_goals go_ret
  all_goals exact ⟨rfl, HB19.out.trans ((HB20.out.trans (HB21.out.mono HB20.out.size)).mono HB19.out.size)⟩
end
end Go.Proofs.YtmdjkoiglghipaaGreatDoor
