/- The law of ends, till its answers are there. -/
import Derived.Test.YtdkbmkapnapahaaGreatDoorKerF
import Derived.Test.YtdkbmkapnapahaaGreatDoorKerN
namespace Go.Proofs.YtdkbmkapnapahaaGreatDoor
open Go.RowKit
set_option linter.unusedVariables false
set_option linter.unusedSimpArgs false
def callA (n a b c : Int) : Array Value := #[.int .i64 n, .int .i64 a, .int .i64 b, .int .i64 c, .string ByteArray.empty, .string ByteArray.empty, .slice none 0 0]
def bdC (ps : Array (Nat × Value)) : Sem Value := Instr.build 39 ps
theorem bd_call (ps : Array (Nat × Value)) : Instr.build 39 ps = bdC ps := rfl
theorem bdc_0 (w : World) (n : Int) : (bdC #[(0, .int .i64 n)]).run Tryz.prog w = .ok (.agg (callA n 0 0 0)) w := by kernel_rfl
theorem bdc_1 (w : World) (n a : Int) : (bdC #[(0, .int .i64 n), (1, .int .i64 a)]).run Tryz.prog w = .ok (.agg (callA n a 0 0)) w := by kernel_rfl
theorem bdc_3 (w : World) (n a b c : Int) : (bdC #[(0, .int .i64 n), (1, .int .i64 a), (2, .int .i64 b), (3, .int .i64 c)]).run Tryz.prog w = .ok (.agg (callA n a b c)) w := by kernel_rfl
/-- the law under way: the kernel's state, the answers' rows -/
structure EL (w0 w : World) (k : KC) (s : KSt) (l : List (Nat × Array Value)) : Prop where
  kt : KT w k s
  hb : Below w0.heap.size w0 w
  lo : ∀ j, s.tag j ≠ 0 → w0.heap.size ≤ j
  rows : ∀ p, p ∈ l → Row w p.1 36 p.2 ∧ s.tag p.1 = 0
section
variable {w0 w w1 w' : World} {k : KC} {s : KSt} {l : List (Nat × Array Value)} {T : KSt → Int → Int → Int → Prop} {X : Array Value} {p : Nat} {A : Array Value}
theorem EL.keep (h : EL w0 w k s l) (hb : Below w.heap.size w w') : EL w0 w' k s l := ⟨h.kt.keep hb, h.hb.trans (hb.mono h.hb.size), h.lo, fun p hp => ⟨(h.rows p hp).1.keep hb, (h.rows p hp).2⟩⟩
theorem EL.asked (h : EL w0 w k s l) (hb : Below w.heap.size w w1) (ho : KOut w.heap.size k s.tag T w1 X w') : ∃ s' e a b, X = ansV e a b (.slice none 0 0) ∧ T s' e a b ∧ EL w0 (w'.alloc (.cells X 36)) k s' ((w'.heap.size, X) :: l) := by
  obtain ⟨s', e, a, b, hk, hf, rfl, hT, hU⟩ := ho
  have z0 := h.hb.size
  have z1 := hb.size
  have z2 := hU.size
  have hU' : Upd (fun j => s.tag j ≠ 0) w w' := (Upd.below hb).trans hU
  have al := Go.Joins.below_alloc1 w' (.cells (ansV e a b (.slice none 0 0)) 36)
  refine ⟨s', e, a, b, rfl, hT, hk.keep al, (h.hb.trans (hU'.toBelow z0 (fun j hj q => by have := h.lo j q; omega))).trans (al.mono (by omega)), fun j hj => ?_, fun q hq => ?_⟩
  · rcases hf j hj with q | q
    · exact h.lo j q
    · omega
  · rcases List.mem_cons.1 hq with rfl | hq
    · exact ⟨row_new _ _ _, hk.tz _ (Nat.le_refl _)⟩
    · obtain ⟨r1, r2⟩ := h.rows q hq
      refine ⟨(r1.upd hU' (fun e => e r2)).keep al, ?_⟩
      cases Nat.eq_zero_or_pos (s'.tag q.1) with
      | inl e => exact e
      | inr e =>
        rcases hf q.1 (by omega) with e2 | e2
        · exact absurd r2 e2
        · have := r1.lt; omega
theorem EL.ask (h : EL w0 w k s l) (haw : Awake s p) (hA : A.size = 7) {num : Int} (hn : num = 1 ∨ num = 2 ∨ num = 4 ∨ num = 23) (ha : A[0]? = some (.int .i64 num)) (hs : Spec w (KOut w.heap.size k s.tag T) 44 #[.pointer (some ⟨k.K, 0, none⟩), .int .i64 p, .agg A]) :
    Calls Tryz.prog 7 #[.pointer (some ⟨k.K, 0, none⟩), .int .i64 p, .agg A] w fun e2 w' => ∃ s' e a b, e2 = .returned (.agg (ansV e a b (.slice none 0 0))) ∧ T s' e a b ∧ EL w0 (w'.alloc (.cells (ansV e a b (.slice none 0 0)) 36)) k s' ((w'.heap.size, ansV e a b (.slice none 0 0)) :: l) := by
  have ok := kout_ok (k := k) (w0 := w) (tag0 := s.tag) h.kt.tz T
  refine (askP_is ok (Below.refl _ _) h.kt haw hA (doP_is ok hn hA ha hs)).mono ?_
  rintro e2 w' ⟨X, rfl, hX, hone, hu, ho⟩
  obtain ⟨s', e, a, b, rfl, hT, hel⟩ := h.asked (Below.refl _ _) ho
  exact ⟨s', e, a, b, rfl, hT, hel⟩
theorem ans_new (w : World) (e a b : Int) : (stR 36 (.pointer (some ⟨w.heap.size, 0, none⟩)) (.agg (ansV e a b (.slice none 0 0)))).run Tryz.prog (w.alloc (.cells #[.int .i64 0, .int .i64 0, .int .i64 0, .slice none 0 0, .slice none 0 0, .int .i64 0, .int .i64 0, .int .i64 0, .int .i64 0, .int .i64 0, .int .i64 0] 36)) = .ok () (w.alloc (.cells (ansV e a b (.slice none 0 0)) 36)) := st0_new w rfl (by kernel_rfl) (ansV_one _ _ _ rfl)
end
section
variable {w : World} {k : KC} {s : KSt}
set_option maxHeartbeats 400000 in
theorem procs1_is (h : KT w k s) (h1 : (s.t 1).st = 1) (hz : ∀ j, j < 17 → j ≠ 1 → (s.t j).st ≠ 1) : Calls Tryz.prog 11 #[.pointer (some ⟨k.K, 0, none⟩)] w fun e w' => ∃ g cp, e = .returned (.slice (some ⟨g, 0, none⟩) 1 cp) ∧ w'.cell? ⟨g, 0, none⟩ = some (.int .i64 1) ∧ g < w'.heap.size ∧ Below w.heap.size w w' := by
  have q7 : w.cell? ⟨k.K, 7, none⟩ = some (.pointer (some ⟨k.Pr, 0, none⟩)) := by rw [h.kr.cell (by decide), h.c7]
  have HA := Lib.hid (all1_is h.pr h1 hz)
  clear h h1 hz
  go_enter Tryz.func11, Tryz.ntmps11
  go_wp2_with (go_at_call 24; refine HA.out.mono ?_; rintro e1 w1 ⟨g, cp, rfl, hc, hl, hb⟩; have HC := Lib.hid (And.intro hc (And.intro hl hb)); clear hc hl hb)
  go_ret
  exact ⟨g, cp, rfl, HC.out.1, HC.out.2.1, HC.out.2.2⟩
set_option maxHeartbeats 400000 in
theorem eq1_is {w : World} {g b cp : Nat} (hg : w.cell? ⟨g, 0, none⟩ = some (.int .i64 1)) (hb : w.cell? ⟨b, 0, none⟩ = some (.int .i64 1)) : Calls Tryz.prog 10 #[.slice (some ⟨g, 0, none⟩) 1 cp, .slice (some ⟨b, 0, none⟩) 1 1] w fun e w' => e = .returned (.bool true) ∧ Below w.heap.size w w' := by
  have hg1 : w.drew.cell? ⟨g, 0, none⟩ = some (.int .i64 1) := hg
  have hb1 : w.drew.cell? ⟨b, 0, none⟩ = some (.int .i64 1) := hb
  go_enter Tryz.func10, Tryz.ntmps10
  go_wp2_with fail
  refine wp_loop_rounds 2 ?_
  rw [rounds_succ]
  go_upto_region 6 with fail
  go_region
  go_wp2_with fail
  rw [rounds_succ]
  go_wp2_with fail
  go_ret
  exact ⟨rfl, (Below.refl _ _).drew⟩
end
section
attribute [local go_sem ↓] ld_ans st_ans bd_call
set_option maxRecDepth 100000 in
set_option maxHeartbeats 8000000 in
theorem ends_any (w : World) (st pg : Int) :
    Calls Tryz.prog 3 #[.int .i64 st, .int .i64 pg] w fun e w' => e = .returned (.bool true) ∧ Below w.heap.size w w' := by
  have hb0 := bdc_0
  have hb1 := bdc_1
  have hb3 := bdc_3
  have HS := Lib.hid (started_is w)
  go_enter Tryz.func3, Tryz.ntmps3
  go_upto_region 4 with (go_at_call 4; refine HS.out.mono ?_; rintro e1 w1 ⟨K, D, B, P, Wh, Fi, Pr, R, M, so, sp, c, rfl, hks, hB, hb1⟩)
  obtain ⟨tag, Tb, cc, wb, hkt, hlo⟩ := hks.toKT
  have HE1 : Hid (EL w w1 ⟨K, Wh, Fi, Pr, R, M, so⟩ (sS0 c tag Tb cc sp wb) []) := Lib.hid ⟨hkt, hb1, fun j hj => Nat.le_trans hB (hlo j hj), fun _ h => nomatch h⟩
  have HKS := Lib.hid hks
  have HM1 := Lib.hid (memory_is hkt)
  have HF1 := Lib.hid (free_is (q := 0) (n := 0) hkt.me rfl rfl (by decide))
  clear hkt hlo hks hB hb1 HS
  go_upto_region 5 with (first | (go_at_call 5; refine HM1.out.mono ?_; rintro e2 w2 ⟨rfl, rfl⟩) | (go_at_call 6; refine HF1.out.mono ?_; rintro e3 w3 ⟨rfl, hb3'⟩))
  have HE3 := Lib.hid (HE1.out.keep hb3')
  clear hb3' HE1 HM1 HF1
  have HA1 := Lib.hid (HE3.out.ask (p := 1) (A := callA 2 0 0 0) (HKS.out.calm.awake (s := sS0 c tag Tb cc sp wb) (by decide) (by decide) start1) rfl (.inr (.inl rfl)) rfl (proc_fork (by decide) (by decide) (kout_ok HE3.out.kt.tz _) rfl rfl (ask_fork HKS.out HE3.out.kt rfl)))
  go_upto_region 6 with (go_at_call 7; refine HA1.out.mono ?_; rintro e4 w4 ⟨sF, e, a, b, rfl, ⟨rfl, rfl, rfl, nb, hp1⟩, hel⟩; have hst := ans_new w4 0 2 0; have HE4 := Lib.hid hel; have HP1 := Lib.hid hp1; clear hel hp1)
  clear hst HA1 HE3 HKS
  generalize w4.alloc (.cells (ansV 0 2 0 (.slice none 0 0)) 36) = w5 at *
  generalize w4.heap.size = g1 at *
  have a11 : w5.cell? ⟨g1, 1, none⟩ = some (.int .i64 2) := by rw [(HE4.out.rows _ (List.mem_cons_self ..)).1.cell]; rfl
  obtain ⟨n, hn⟩ : ∃ n : Nat, (n : Int) = 1 + pg % 20 := ⟨(1 + pg % 20).toNat, by have := Int.emod_nonneg pg (show (20 : Int) ≠ 0 by decide); omega⟩
  have i20 : 0 ≤ pg % 20 ∧ pg % 20 < 20 := ⟨Int.emod_nonneg pg (show (20 : Int) ≠ 0 by decide), Int.emod_lt_of_pos pg (show (0 : Int) < 20 by decide)⟩
  have n1 : 1 ≤ n := by omega
  have n20 : n ≤ 20 := by omega
  have i21 := i20.1
  have i22 := i20.2
  have HNN := Lib.hid hn
  have HW := Lib.hid (within_any pg 20 w5 (by decide) (by decide))
  have HA2 := Lib.hid (HE4.out.ask (p := 2) (A := callA 23 3 n 3) (HP1.out.c2.awake (by decide) (by decide) (by rw [HP1.out.t]; exact t1_2.1)) rfl (.inr (.inr (.inr rfl))) rfl (ask_map HE4.out.kt HP1.out rfl rfl rfl rfl rfl n1 n20))
  clear hn i20
  go_upto_region 7 with (go_at_call 8; refine HW.out.mono ?_; rintro e5 w6 ⟨rfl, rfl⟩)
  rw [← HNN.out]
  clear i21 i22 HW
  go_upto_region 8 with (go_at_call 7; refine HA2.out.mono ?_; rintro e6 w6 ⟨sM, e, a, b, rfl, ⟨rfl, hp2⟩, hel⟩; have hst := ans_new w6 0 a b; have HE6 := Lib.hid hel; have HP2 := Lib.hid hp2; clear hel hp2)
  clear hst HA2 HE4 HP1 a11
  generalize w6.alloc (.cells (ansV 0 a b (.slice none 0 0)) 36) = w7 at *
  generalize w6.heap.size = g2 at *
  have HM2 := Lib.hid (memory_is HE6.out.kt)
  have HF2 := Lib.hid (free_is (q := n) (n := n) HE6.out.kt.me (by rw [List.countP_eq_length.2 (fun g hg => HP2.out.h g hg)]; exact HP2.out.ln) HP2.out.ln (by omega))
  go_upto_region 9 with (first | (go_at_call 5; refine HM2.out.mono ?_; rintro e7 w8 ⟨rfl, rfl⟩) | (go_at_call 6; refine HF2.out.mono ?_; rintro e8 w9 ⟨rfl, hb9⟩))
  have HE9 := Lib.hid (HE6.out.keep hb9)
  clear hb9 HE6 HM2 HF2
  have HA3 := Lib.hid (HE9.out.ask (p := 1) (A := callA 4 0 0 0) (HP2.out.c1.awake (by decide) (by decide) (by rw [HP2.out.t]; exact t1_1)) rfl (.inr (.inr (.inl rfl))) rfl (ask_wait1 HE9.out.kt HP2.out rfl rfl))
  go_upto_region 10 with (go_at_call 7; refine HA3.out.mono ?_; rintro e9 w10 ⟨sW, e3, a3, b3, rfl, ⟨rfl, hp3⟩, hel⟩; have hst := ans_new w10 9 a3 b3; have HE10 := Lib.hid hel; have HP3 := Lib.hid hp3; clear hel hp3)
  clear hst HA3 HE9 HP2
  generalize w10.alloc (.cells (ansV 9 a3 b3 (.slice none 0 0)) 36) = w11 at *
  generalize w10.heap.size = g3 at *
  have a11 : w11.cell? ⟨g1, 1, none⟩ = some (.int .i64 2) := by rw [(HE10.out.rows (g1, ansV 0 2 0 (.slice none 0 0)) (by simp)).1.cell]; rfl
  have HA4 := Lib.hid (HE10.out.ask (p := 2) (A := callA 1 st 0 0) (HP3.out.c2.awake (by decide) (by decide) (by rw [HP3.out.t]; exact t1_2.1)) rfl (.inl rfl) rfl (proc_exit (by decide) (by decide) (kout_ok HE10.out.kt.tz _) rfl rfl rfl (ask_exit HE10.out.kt HP3.out n20 st)))
  go_upto_region 11 with (go_at_call 7; refine HA4.out.mono ?_; rintro e10 w12 ⟨sX, e4, a4, b4, rfl, ⟨rfl, hp4⟩, hel⟩; have hst := ans_new w12 0 a4 b4; have HE12 := Lib.hid hel; have HP4 := Lib.hid hp4; clear hel hp4)
  clear hst HA4 HE10 HP3 a11
  generalize w12.alloc (.cells (ansV 0 a4 b4 (.slice none 0 0)) 36) = w13 at *
  generalize w12.heap.size = g4 at *
  have HA5 := Lib.hid (HE12.out.ask (p := 1) (A := callA 4 0 0 0) (HP4.out.c1.awake (by decide) (by decide) (by rw [HP4.out.t]; exact t2_1 _)) rfl (.inr (.inr (.inl rfl))) rfl (ask_wait2 HE12.out.kt HP4.out rfl rfl))
  go_upto_region 12 with (go_at_call 7; refine HA5.out.mono ?_; rintro e11 w14 ⟨sY, e5, a5, b5, rfl, ⟨rfl, rfl, rfl, hp5⟩, hel⟩; have hst := ans_new w14 0 2 (bits .and .i64 st 255); have HE14 := Lib.hid hel; have HP5 := Lib.hid hp5; clear hel hp5)
  clear hst HA5 HE12 HP4
  generalize w14.alloc (.cells (ansV 0 2 (bits .and .i64 st 255) (.slice none 0 0)) 36) = w15 at *
  generalize w14.heap.size = g5 at *
  have HA6 := Lib.hid (HE14.out.ask (p := 1) (A := callA 4 0 0 0) (HP5.out.c1.awake (by decide) (by decide) (by rw [HP5.out.t]; exact (t3_1 _).1)) rfl (.inr (.inr (.inl rfl))) rfl (ask_wait3 HE14.out.kt HP5.out rfl rfl))
  go_upto_region 13 with (go_at_call 7; refine HA6.out.mono ?_; rintro e12 w16 ⟨sZ, e6, a6, b6, rfl, ⟨rfl, hp6⟩, hel⟩; have hst := ans_new w16 4 a6 b6; have HE16 := Lib.hid hel; have HP6 := Lib.hid hp6; clear hel hp6)
  clear hst HA6 HE14 HP5
  generalize w16.alloc (.cells (ansV 4 a6 b6 (.slice none 0 0)) 36) = w17 at *
  generalize w16.heap.size = g6 at *
  have HM3 := Lib.hid (memory_is HE16.out.kt)
  have HF3 := Lib.hid (free_is (q := 0) (n := 0) HE16.out.kt.me (by rw [HP6.out.pl]; rfl) (by rw [HP6.out.pl]; rfl) (by decide))
  go_upto_region 14 with (first | (go_at_call 5; refine HM3.out.mono ?_; rintro e13 w18 ⟨rfl, rfl⟩) | (go_at_call 6; refine HF3.out.mono ?_; rintro e14 w19 ⟨rfl, hb19⟩))
  have HE19 := Lib.hid (HE16.out.keep hb19)
  clear hb19 HE16 HM3 HF3
  have HR1 := Lib.hid (HE19.out.rows (g1, ansV 0 2 0 (.slice none 0 0)) (by simp)).1
  have HR2 := Lib.hid (HE19.out.rows (g2, ansV 0 a b (.slice none 0 0)) (by simp)).1
  have HR3 := Lib.hid (HE19.out.rows (g3, ansV 9 a3 b3 (.slice none 0 0)) (by simp)).1
  have HR4 := Lib.hid (HE19.out.rows (g4, ansV 0 a4 b4 (.slice none 0 0)) (by simp)).1
  have HR5 := Lib.hid (HE19.out.rows (g5, ansV 0 2 (bits .and .i64 st 255) (.slice none 0 0)) (by simp)).1
  have HR6 := Lib.hid (HE19.out.rows (g6, ansV 4 a6 b6 (.slice none 0 0)) (by simp)).1
  have HST := Lib.hid (and255 st)
  have HKP : Hid (∀ wx, Below w19.heap.size w19 wx → Below w19.heap.size w19 wx ∧ wx.cell? ⟨g1, 0, none⟩ = some (.int .i64 0) ∧ wx.cell? ⟨g2, 0, none⟩ = some (.int .i64 0) ∧ wx.cell? ⟨g4, 0, none⟩ = some (.int .i64 0) ∧ wx.cell? ⟨g5, 0, none⟩ = some (.int .i64 0) ∧ wx.cell? ⟨g3, 0, none⟩ = some (.int .i64 9) ∧ wx.cell? ⟨g5, 1, none⟩ = some (.int .i64 2) ∧ wx.cell? ⟨g1, 1, none⟩ = some (.int .i64 2) ∧ wx.cell? ⟨g5, 2, none⟩ = some (.int .i64 (st % 256)) ∧ wx.cell? ⟨g6, 0, none⟩ = some (.int .i64 4)) := Lib.hid fun wx hx => by
    refine ⟨hx, ?_, ?_, ?_, ?_, ?_, ?_, ?_, ?_, ?_⟩
    · rw [(HR1.out.keep hx).cell]; rfl
    · rw [(HR2.out.keep hx).cell]; rfl
    · rw [(HR4.out.keep hx).cell]; rfl
    · rw [(HR5.out.keep hx).cell]; rfl
    · rw [(HR3.out.keep hx).cell]; rfl
    · rw [(HR5.out.keep hx).cell]; rfl
    · rw [(HR1.out.keep hx).cell]; rfl
    · rw [(HR5.out.keep hx).cell, ← HST.out]; rfl
    · rw [(HR6.out.keep hx).cell]; rfl
  have hkp := HKP.out
  have ht1 : (sZ.t 1).st = 1 := by rw [HP6.out.t]; exact (t3_1 _).1
  have ht2 : ∀ j, j < 17 → j ≠ 1 → (sZ.t j).st ≠ 1 := by
    intro j _ hj e
    refine hj (t3_par (bits .and .i64 st 255) (j := j) ?_)
    rw [← HP6.out.t, e]
    exact Int.one_ne_zero
  have HKT : Hid (∀ wx, Below w19.heap.size w19 wx → KT wx ⟨K, Wh, Fi, Pr, R, M, so⟩ sZ) := Lib.hid fun wx hx => HE19.out.kt.keep hx
  have HPR : Hid (∀ wx, Below w19.heap.size w19 wx → Calls Tryz.prog 11 #[.pointer (some ⟨K, 0, none⟩)] wx fun e w' => ∃ g cp, e = .returned (.slice (some ⟨g, 0, none⟩) 1 cp) ∧ w'.cell? ⟨g, 0, none⟩ = some (.int .i64 1) ∧ g < w'.heap.size ∧ Below wx.heap.size wx w') := Lib.hid (by
    intro wx hx
    have h := procs1_is (HKT.out wx hx) ht1 ht2
    exact h)
  clear ht1 ht2 HKT
  have hd : IntKind.i64.wrap (64 - (n : Int)) = 64 - n := by rw [IntKind.wrap_i64]; omega
  clear HR1 HR2 HR3 HR4 HR5 HR6
  have hS0 := Lib.hid (hkp _ (Below.refl _ _).drew)
  have hBA : Below w19.heap.size w19 ((w19.alloc (.cells #[.int .i64 0, .int .i64 0, .int .i64 0, .int .i64 0] 30)).drew) := (Go.Joins.below_alloc1 w19 _).drew
  have hBB : Below w19.heap.size w19 (((w19.alloc (.cells #[.int .i64 0, .int .i64 0, .int .i64 0, .int .i64 0] 30)).alloc (.cells #[.int .i64 1] 3)).drew) := (((Go.Joins.below_alloc1 w19 _).trans ((Go.Joins.below_alloc1 _ _).mono (Go.Joins.below_alloc1 w19 _).size)).drew)
  have hSA := Lib.hid (hkp _ hBA)
  have hSB := Lib.hid (hkp _ hBB)
  clear hkp hb0 hb1 hb3
  have HG4 : Hid (Calls Tryz.prog 9 #[.slice (some ⟨w19.heap.size, 0, none⟩) 4 4] ((w19.alloc (.cells #[.int .i64 0, .int .i64 0, .int .i64 0, .int .i64 0] 30)).drew) fun e w' => e = .returned (.bool true) ∧ ((w19.alloc (.cells #[.int .i64 0, .int .i64 0, .int .i64 0, .int .i64 0] 30)).drew) = w') := Lib.hid (good_any w19.heap.size 4 [0, 0, 0, 0] ((w19.alloc (.cells #[.int .i64 0, .int .i64 0, .int .i64 0, .int .i64 0] 30)).drew) (by decide) (fun j hj => by
    have hr : Row ((w19.alloc (.cells #[.int .i64 0, .int .i64 0, .int .i64 0, .int .i64 0] 30)).drew) w19.heap.size 30 #[.int .i64 0, .int .i64 0, .int .i64 0, .int .i64 0] := row_new w19 _ _
    rw [hr.cell]
    have : j = 0 ∨ j = 1 ∨ j = 2 ∨ j = 3 := by simp at hj; omega
    rcases this with rfl | rfl | rfl | rfl <;> rfl))
  have HPA := Lib.hid (HPR.out _ hBA)
  have HPB := Lib.hid (HPR.out _ hBB)
  have HNB : Hid (∀ wx, Below (((w19.alloc (.cells #[.int .i64 0, .int .i64 0, .int .i64 0, .int .i64 0] 30)).alloc (.cells #[.int .i64 1] 3)).drew).heap.size (((w19.alloc (.cells #[.int .i64 0, .int .i64 0, .int .i64 0, .int .i64 0] 30)).alloc (.cells #[.int .i64 1] 3)).drew) wx → wx.cell? ⟨w19.heap.size + 1, 0, none⟩ = some (.int .i64 1)) := Lib.hid fun wx hx => by
    rw [← size_alloc1 w19 (.cells #[.int .i64 0, .int .i64 0, .int .i64 0, .int .i64 0] 30), (((row_new (w19.alloc (.cells #[.int .i64 0, .int .i64 0, .int .i64 0, .int .i64 0] 30)) 3 #[.int .i64 1]).keep (Below.refl _ _).drew).keep hx).cell]; rfl
  have HBA := Lib.hid hBA
  have HBB := Lib.hid hBB
  clear hBA hBB HPR
  go_region_held3 (fun wx => Below w19.heap.size w19 wx ∧ wx.cell? ⟨g1, 0, none⟩ = some (.int .i64 0) ∧ wx.cell? ⟨g2, 0, none⟩ = some (.int .i64 0) ∧ wx.cell? ⟨g4, 0, none⟩ = some (.int .i64 0) ∧ wx.cell? ⟨g5, 0, none⟩ = some (.int .i64 0) ∧ wx.cell? ⟨g3, 0, none⟩ = some (.int .i64 9) ∧ wx.cell? ⟨g5, 1, none⟩ = some (.int .i64 2) ∧ wx.cell? ⟨g1, 1, none⟩ = some (.int .i64 2) ∧ wx.cell? ⟨g5, 2, none⟩ = some (.int .i64 (st % 256)) ∧ wx.cell? ⟨g6, 0, none⟩ = some (.int .i64 4)) (first | assumption | exact hS2 | exact hS3 | exact hS4 | exact hS0.out | exact hSA.out | exact hSB.out) (first | (go_at_call 9; (with_reducible refine HG4.out.mono ?_); rintro e20 w20 ⟨rfl, rfl⟩) | (go_at_call 8; (with_reducible refine (within_any st 256 _ (by decide) (by decide)).mono ?_); rintro e21 w21 ⟨rfl, rfl⟩) | (go_at_call 11; (with_reducible refine HPA.out.mono ?_); rintro e22 w22 ⟨g, cp, rfl, hc, hl, hb⟩; have hb22 := HBA.out.trans (hb.mono HBA.out.size); have hS2 := HKP.out w22 hb22; have hb23 := hb22.trans ((Go.Joins.below_alloc1 w22 (.cells #[.int .i64 1] 3)).mono hb22.size); have hS3 := HKP.out _ hb23; have HQ := Lib.hid (eq1_is (w := w22.alloc (.cells #[.int .i64 1] 3)) (g := g) (b := w22.heap.size) (cp := cp) (by rw [World.cell?_alloc_lt (h := hl)]; exact hc) ((row_new w22 3 #[.int .i64 1]).cell 0)); have HB23 := Lib.hid hb23; clear hc hl hb hb22 hb23) | (go_at_call 11; (with_reducible refine HPB.out.mono ?_); rintro e22 w22 ⟨g, cp, rfl, hc, hl, hb⟩; have hb23 := HBB.out.trans (hb.mono HBB.out.size); have hS2 := HKP.out w22 hb23; have HQ := Lib.hid (eq1_is (cp := cp) hc (HNB.out w22 hb)); have HB23 := Lib.hid hb23; clear hc hl hb hb23) | (go_at_call 10; (with_reducible refine HQ.out.mono ?_); rintro e24 w24 ⟨rfl, hb24⟩; have hb25 := HB23.out.trans (hb24.mono HB23.out.size); have hS4 := HKP.out w24 hb25; have HB24 := Lib.hid hb25; clear hb24 hb25))
  all_goals clear hd
  · go_wp2_with fail
    go_ret
    exact ⟨rfl, HE19.out.hb.trans (HB24.out.mono HE19.out.hb.size)⟩
  · go_wp2_with fail
    go_ret
    exact ⟨rfl, HE19.out.hb.trans (HB24.out.mono HE19.out.hb.size)⟩
end
end Go.Proofs.YtdkbmkapnapahaaGreatDoor
