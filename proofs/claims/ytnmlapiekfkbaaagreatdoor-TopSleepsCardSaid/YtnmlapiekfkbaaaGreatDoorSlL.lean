/- The walk of ringtop.rvKernel at programs that go round. The kernel's calls CSleep and CPid, asked. No walk here. The kernel while processes go round: steps and ticks. No walk here. The kernel while processes go round and one sleeps. No walk here. -/
import Derived.Test.YtnmlapiekfkbaaaGreatDoorTpH
import Derived.Test.YtnmlapiekfkbaaaGreatDoorKer
import Derived.Test.YtnmlapiekfkbaaaGreatDoorSlI
import Derived.Test.YtnmlapiekfkbaaaGreatDoorKerSt
import Derived.Test.YtnmlapiekfkbaaaGreatDoorWhA
namespace Go.Proofs.YtnmlapiekfkbaaaGreatDoor
open Go.RowKit
set_option linter.unusedVariables false
set_option linter.unusedSimpArgs false
/-- the kernel lies behind a world -/
structure Sv (w0 w : World) (k : KC) (s : KSt) : Prop where
  kt : KT w k s
  lo : ∀ j, s.tag j ≠ 0 → w0.heap.size ≤ j
  hb : Below w0.heap.size w0 w
section
variable {w0 w w' : World} {k : KC} {s s' : KSt} {nc N : Nat}
theorem Sv.keep (h : Sv w0 w k s) (hb : Below w.heap.size w w') : Sv w0 w' k s := ⟨h.kt.keep hb, h.lo, h.hb.trans (hb.mono h.hb.size)⟩
theorem Sv.kg (h : Sv w0 w k s) (g : KG s k w w' s') : Sv w0 w' k s' :=
  ⟨g.kt, fun j hj => (g.far j hj).elim (h.lo j) (fun e => Nat.le_trans h.hb.size e), h.hb.trans (g.up.toBelow h.hb.size (fun j hj q => by have := h.lo j q; omega))⟩
def callT (n : Int) : Array Value := #[.int .i64 n, .int .i64 0, .int .i64 0, .int .i64 0, .string ByteArray.empty, .string ByteArray.empty, .slice none 0 0]
def bdCT (ps : Array (Nat × Value)) : Sem Value := Instr.build 37 ps
theorem bd_callT (ps : Array (Nat × Value)) : Instr.build 37 ps = bdCT ps := rfl
theorem bdcT_0 (w : World) (n : Int) : (bdCT #[(0, .int .i64 n)]).run Tryz.prog w = .ok (.agg (callT n)) w := by kernel_rfl
theorem ans_newT (w : World) (e a b : Int) : (stR 34 (.pointer (some ⟨w.heap.size, 0, none⟩)) (.agg (ansV e a b (.slice none 0 0)))).run Tryz.prog (w.alloc (.cells #[.int .i64 0, .int .i64 0, .int .i64 0, .slice none 0 0, .slice none 0 0, .int .i64 0, .int .i64 0, .int .i64 0, .int .i64 0, .int .i64 0, .int .i64 0] 34)) = .ok () (w.alloc (.cells (ansV e a b (.slice none 0 0)) 34)) := by
  have := st0_new w (T := 34) (c := #[.int .i64 0, .int .i64 0, .int .i64 0, .slice none 0 0, .slice none 0 0, .int .i64 0, .int .i64 0, .int .i64 0, .int .i64 0, .int .i64 0, .int .i64 0]) (cs := ansV e a b (.slice none 0 0)) rfl (by kernel_rfl) (ansV_one _ _ _ rfl)
  exact this
/-- the first process forks -/
theorem ask_fork (h : KT w k s) (hs : Ks s nc N) (hm : Mp s.m N) (h1 : 1 ≤ N) (h6 : N < 6) (n1 : 1 ≤ nc) (n4 : nc ≤ 4) :
    Calls Tryz.prog 7 #[.pointer (some ⟨k.K, 0, none⟩), .int .i64 1, .agg (callT 2)] w fun e w' => ∃ s' b nb, e = .returned (.agg (ansV 0 (N + 1 : Nat) 0 (.slice none 0 0))) ∧ KG s k w w' s' ∧ Ks s' nc (N + 1) ∧ Mf s'.m N b nb := by
  have ok := kout_ok (k := k) (w0 := w) (tag0 := s.tag) h.tz (fun s' e a b => e = 0 ∧ a = (N + 1 : Nat) ∧ b = 0 ∧ Ks s' nc (N + 1) ∧ ∃ b nb, Mf s'.m N b nb)
  refine (askP_is ok (Below.refl _ _) h (hs.ps 1 (by decide) h1).aw rfl (doP_is ok (.inr (.inl rfl)) rfl rfl (proc_fork (by decide) (by decide) ok rfl rfl (ask_more h hs hm h1 h6 n1 n4)))).mono ?_
  rintro e2 w' ⟨X, rfl, hX, hone, hu, s', e, a, b, hk, hf, rfl, ⟨rfl, rfl, rfl, hks, b, nb, hmf⟩, hU⟩
  exact ⟨s', b, nb, rfl, ⟨hk, hU, hf⟩, hks, hmf⟩
theorem wf_small {N : Nat} (h : N < 7) : (Lit.int .i64 (N : Nat)).wf = true := by
  have : N = 0 ∨ N = 1 ∨ N = 2 ∨ N = 3 ∨ N = 4 ∨ N = 5 ∨ N = 6 := by omega
  rcases this with rfl | rfl | rfl | rfl | rfl | rfl | rfl <;> decide
/-- the child's program is put -/
theorem put_more {b nb : Nat} {v : Value} (h : KT w k s) (hs : Ks s nc (N + 1)) (hm : Mf s.m N b nb) (h1 : 1 ≤ N) (h6 : N < 6) (hv : InsL w v loopL) :
    Calls Tryz.prog 12 #[.pointer (some ⟨k.K, 0, none⟩), .int .i64 (N + 1 : Nat), v] w fun e w' => e = .returned (.bool true) ∧ ∃ s', KG s k w w' s' ∧ Ks s' nc (N + 1) ∧ Mp s'.m (N + 1) := by
  have g := hs.ps (N + 1) (by omega) (Nat.le_refl _)
  refine (put_prog h (p := N + 1) (b := nb) (s1 := (N + 1 : Nat)) ⟨by omega, by omega, g.aw.lv, g.sp, wf_small (by omega), hm.Sn, by rw [hm.F]; exact hm.lone, fun j g r a1 a2 e => ?_, ?_, by have := hm.nFn; omega⟩ hv loop_enc (by decide) (by decide)).mono ?_
  · rw [hm.F] at e
    obtain ⟨-, -, q1, q2⟩ := hm.pg j g r e
    exact ⟨q1, by rw [q2]; decide, by rw [q2]; decide⟩
  · rw [hs.fr]; have := hm.len; omega
  · rintro e w' ⟨rfl, m1, m', tag', hu, hp, hg⟩
    exact ⟨rfl, _, hg, hs.mem m' tag', hm.put h1 hu hp hg.kt.me.nd (fun g hg => h.me.lt (.inr (.inr (.inr (.inr hg)))))⟩
/-- the first process's program is put -/
theorem put_first {nc : Nat} {c : Nat → Value} {tag : Nat → Nat} {T cc sp wb : Nat} {v : Value} (h : KT w k (sS0 nc c tag T cc sp wb)) (hs : Ks (sS0 nc c tag T cc sp wb) nc 1) (hv : InsL w v loopL) :
    Calls Tryz.prog 12 #[.pointer (some ⟨k.K, 0, none⟩), .int .i64 1, v] w fun e w' => e = .returned (.bool true) ∧ ∃ s', KG (sS0 nc c tag T cc sp wb) k w w' s' ∧ Ks s' nc 1 ∧ Mp s'.m 1 := by
  have g := hs.ps 1 (by decide) (by decide)
  refine (put_prog h (p := 1) (b := sp) (s1 := 1) ⟨by decide, by decide, g.aw.lv, g.sp, by decide, rfl, (fun _ _ _ _ _ e => nomatch e), (fun j g r a1 a2 e => nomatch e), by show ((0 : Nat) : Int) + 5 ≤ 48; decide, by show 0 < 9000; decide⟩ hv loop_enc (by decide) (by decide)).mono ?_
  rintro e w' ⟨rfl, m1, m', tag', hu, hp, hg⟩
  refine ⟨rfl, _, hg, hs.mem m' tag', mp_one (b := sp) (fun p => ?_) (Nat.le_refl _) rfl (fun _ => rfl) rfl hu hp hg.kt.me.nd⟩
  show (if (p : Int) = 1 then some sp else none) = _
  by_cases e : p = 1
  · rw [if_pos e, if_pos (by omega)]
  · rw [if_neg e, if_neg (by omega)]
end
attribute [local go_sem ↓] ld_ans st_ans bd_callT
set_option maxRecDepth 100000 in
set_option maxHeartbeats 2000000 in
theorem rvk_is {w : World} {nc n : Nat} (n1 : 1 ≤ nc) (n4 : nc ≤ 4) (hn : n < 6) {v : Value} {xs : List Value} {B : Nat} (hv : LpL B w v n xs) : Calls Tryz.prog 5 #[.int .i64 nc, v] w fun e w' => ∃ k s, e = .returned (.tuple #[.pointer (some ⟨k.K, 0, none⟩), .bool true]) ∧ Sv w w' k s ∧ Ks s nc (n + 1) ∧ Mp s.m (n + 1) := by
  have HV := Lib.hid hv
  obtain ⟨p0, cap, rfl⟩ := own_form hv.own
  have HM := Lib.hid (make_is w)
  have HN := Lib.hid (And.intro n1 n4)
  have hbd := fun w => bdcT_0 w 2
  have n6 : (n : Int) < 6 := by omega
  clear hv n1 n4
  go_enter Tryz.func5, Tryz.ntmps5
  go_upto_region 2 with (go_at_call 10; refine HM.out.mono ?_; rintro e1 w1 ⟨D, sb, nb, rfl, hdk, -, -, -, hb1⟩)
  have HST := Lib.hid (start_is hdk fmt_is.1 HN.out.1 HN.out.2)
  have HB1 := Lib.hid hb1
  clear HM hdk hb1
  go_upto_region 5 with (go_at_call 11; refine HST.out.mono ?_; rintro e2 w2 ⟨K, P, Wh, Fi, Pr, R, M, so, sp, c, rfl, hks, hb2⟩)
  obtain ⟨tag, T, cc, wb, hkt, hlo⟩ := hks.toKT HN.out.1 HN.out.2
  have HS2 : Hid (Sv w w2 ⟨K, Wh, Fi, Pr, R, M, so⟩ (sS0 nc c tag T cc sp wb)) := Lib.hid ⟨hkt, fun j hj => Nat.le_trans HB1.out.size (hlo j hj), HB1.out.trans (hb2.mono HB1.out.size)⟩
  have HKS := Lib.hid (hks.ks tag T cc wb)
  have HLP := Lib.hid (loop_is w2)
  clear hks hb2 hkt hlo HST HB1
  obtain ⟨k, hk⟩ : ∃ k : KC, k = ⟨K, Wh, Fi, Pr, R, M, so⟩ := ⟨_, rfl⟩
  rw [← hk] at HS2
  obtain rfl : K = k.K := by rw [hk]
  clear hk
  go_upto_region 7 with (first | (go_at_call 13; refine HLP.out.mono ?_; rintro e3 w3 ⟨b3, h30, h31, rfl, hi3, hb3⟩; have HS3 := Lib.hid (HS2.out.keep hb3); have HPF := Lib.hid (put_first HS3.out.kt HKS.out hi3); clear hb3 hi3) | (go_at_call 12; refine HPF.out.mono ?_; rintro e4 w4 ⟨rfl, s4, hg4, hk4, hm4⟩; have HS4 := Lib.hid (HS3.out.kg hg4); have HK4 := Lib.hid hk4; have HM4 := Lib.hid hm4; clear hg4 hk4 hm4))
  have HR0 : Hid (∃ s, Sv w w4 k s ∧ Ks s nc (0 + 1) ∧ Mp s.m (0 + 1)) := Lib.hid ⟨s4, HS4.out, HK4.out, HM4.out⟩
  clear HS4 HK4 HM4 HPF HS3 HLP HKS HS2
  go_wp2_with fail
  go_loopw [38] (fun kv wr => ∃ i : Nat, i ≤ n ∧ kv = .int .i64 i ∧ Hid (∃ s, Sv w wr k s ∧ Ks s nc (i + 1) ∧ Mp s.m (i + 1))) (fun kv _ => n - (intOf kv).toNat)
  case atStart => exact ⟨0, Nat.zero_le _, rfl, HR0⟩
  case round =>
    obtain ⟨i, hi0, rfl, HR⟩ := hrel
    by_cases hi : i < n
    · have i1 : (i : Int) < n := by omega
      obtain ⟨s, hsv, hks, hmp⟩ := HR.out
      have hvr := HV.out.keep hsv.hb
      obtain ⟨b0, hb0, hcell⟩ : ∃ b0, p0 = some ⟨b0, 0, none⟩ ∧ ∀ j u, xs[j]? = some u → wr.cell? ((⟨b0, 0, none⟩ : Addr).add j) = some u := by
        rcases hvr.own.2 with ⟨e, _⟩ | ⟨g, c', cur, e, _⟩
        · have e : (.slice p0 n cap : Value) = .slice none 0 0 := e
          injection e with _ e _
          omega
        · have e : (.slice p0 n cap : Value) = .slice (some ⟨g, 0, none⟩) n c' := e
          injection e with e _ _
          subst e
          exact ⟨g, rfl, hvr.own.cells (g := g) rfl⟩
      subst hb0
      obtain ⟨x, hx⟩ : ∃ x, xs[i]? = some x := ⟨xs[i]'(by rw [hvr.len]; exact hi), List.getElem?_eq_getElem _⟩
      obtain ⟨bx, rfl, hbx, hix, -⟩ := HV.out.one x (List.mem_of_getElem? hx)
      have hcx := hcell i _ hx
      rw [Addr.add_lit, Nat.zero_add] at hcx
      have HIX := Lib.hid hix
      have HSV := Lib.hid hsv
      have HAF := Lib.hid (ask_fork hsv.kt hks hmp (by omega) (by omega) HN.out.1 HN.out.2)
      rw [show ((i + 1 + 1 : Nat) : Int) = (i : Int) + 2 by omega] at HAF
      clear hsv hks hmp hvr hcell hx hbx hix
      go_upto_region 11 with (go_at_call 7; refine HAF.out.mono ?_; rintro e5 w5 ⟨s5, b5, nb5, rfl, hg5, hk5, hm5⟩; have hst := ans_newT w5 0 ((i : Int) + 2) 0; have HS5 := Lib.hid (HSV.out.kg hg5); have HK5 := Lib.hid hk5; have HM5 := Lib.hid hm5; clear hg5 hk5 hm5)
      have HA : Hid (Below w5.heap.size w5 (w5.alloc (.cells (ansV 0 ((i : Int) + 2) 0 (.slice none 0 0)) 34))) := Lib.hid (Go.Joins.below_alloc1 w5 _)
      have hrn := row_new w5 34 (ansV 0 ((i : Int) + 2) 0 (.slice none 0 0))
      have q0 := hrn.cell 0
      have q1 := hrn.cell 1
      rw [show (ansV 0 ((i : Int) + 2) 0 (.slice none 0 0))[0]? = some (.int .i64 0) from rfl] at q0
      rw [show (ansV 0 ((i : Int) + 2) 0 (.slice none 0 0))[1]? = some (.int .i64 ((i : Int) + 2)) from rfl] at q1
      have HS6 := Lib.hid (HS5.out.keep HA.out)
      clear hst hrn HA HAF HS5
      generalize w5.alloc (.cells (ansV 0 ((i : Int) + 2) 0 (.slice none 0 0)) 34) = w6 at *
      generalize w5.heap.size = g5 at *
      have HPM := Lib.hid (put_more HS6.out.kt HK5.out HM5.out (by omega) (by omega) (HIX.out.keep HS6.out.hb))
      rw [show ((i + 1 + 1 : Nat) : Int) = (i : Int) + 2 by omega] at HPM
      go_upto_region 13 with (go_at_call 12; refine HPM.out.mono ?_; rintro e7 w7 ⟨rfl, s7, hg7, hk7, hm7⟩; have HR7 : Hid (∃ s, Sv w w7 k s ∧ Ks s nc (i + 1 + 1) ∧ Mp s.m (i + 1 + 1)) := Lib.hid ⟨s7, HS6.out.kg hg7, hk7, hm7⟩; clear hg7 hk7 hm7)
      go_wp2_with fail
      go_roundw
      case rel => exact ⟨i + 1, by omega, by go_num, HR7⟩
      case measure => simp [intOf]; omega
    · obtain rfl : i = n := by omega
      go_wp2_with fail
      go_ret2
      obtain ⟨s, h1, h2, h3⟩ := HR.out
      exact ⟨k, s, rfl, h1, h2, h3⟩
end Go.Proofs.YtnmlapiekfkbaaaGreatDoor
namespace Go.Proofs.YtnmlapiekfkbaaaGreatDoor
open Go.RowKit
set_option linter.unusedVariables false
set_option linter.unusedSimpArgs false
section
variable {w : World} {k : KC} {s : KSt} {p i : Nat} {x : Tk}
def callU (n a : Int) : Array Value := #[.int .i64 n, .int .i64 a, .int .i64 0, .int .i64 0, .string ByteArray.empty, .string ByteArray.empty, .slice none 0 0]
theorem bdcU_1 (w : World) (n a : Int) : (bdCT #[(0, .int .i64 n), (1, .int .i64 a)]).run Tryz.prog w = .ok (.agg (callU n a)) w := by kernel_rfl
/-- the state behind sleep -/
def slept (s : KSt) (p i : Nat) (x : Tk) (at' : Int) (v' : Value) (tag' : Nat → Nat) : KSt := { s with c := upV s.c (8 + p * 38 + 37) (.bool true), l := fillG (s.l.set i { x with rd := false, cpu := -1 }) s.nc, wv := v', wl := [(at', (p : Int))], tag := tag' }
theorem ask_sleep (h : KT w k s) (haw : Awake s p) {n nw : Int} (n1 : 1 ≤ n) (n9 : n ≤ 1000) (h9 : s.c 654 = .int .u32 nw) (w0' : 0 ≤ s.wn) (w1' : s.wn ≤ nw) (w2' : nw < 1000000) (hv : s.wv = .slice none 0 0) (hwl : s.wl = []) (hi : idG s.l p = some i) (hx : s.l[i]? = some x) (hr : x.rd = true) :
    Calls Tryz.prog 7 #[.pointer (some ⟨k.K, 0, none⟩), .int .i64 p, .agg (callU 34 n)] w fun e w' => e = .returned (.agg (ansV 0 0 0 (.slice none 0 0))) ∧ ∃ v' tag', KG s k w w' (slept s p i x (nw + n) v' tag') := by
  have ok := kout_ok (k := k) (w0 := w) (tag0 := s.tag) h.tz (fun s' e a b => e = 0 ∧ a = 0 ∧ b = 0 ∧ ∃ v' tag', s' = slept s p i x (nw + n) v' tag')
  refine (askP_is ok (Below.refl _ _) h haw rfl (doQ_is ok (.inr rfl) rfl rfl (proc_sleep (a := n) (by have := haw.p1; omega) (by have := haw.p16; omega) ok rfl rfl rfl (fun w1 h1 => (ksleep_is (h.keep h1) haw.p16 n1 n9 h9 w0' w1' w2' hv hwl hi hx hr).mono ?_)))).mono ?_
  · rintro e w2 ⟨rfl, v', tag', hg⟩
    exact ⟨0, rfl, hg.up.mono (fun j _ e => h.lt e), _, 0, 0, 0, hg.kt, hg.far, rfl, ⟨rfl, rfl, rfl, v', tag', rfl⟩, hg.up⟩
  · rintro e2 w' ⟨X, rfl, hX, hone, hu, s', e, a, b, hk, hf, rfl, ⟨rfl, rfl, rfl, v', tag', rfl⟩, hU⟩
    exact ⟨rfl, v', tag', hk, hU, hf⟩
theorem ask_pid (h : KT w k s) (haw : Awake s p) :
    Calls Tryz.prog 7 #[.pointer (some ⟨k.K, 0, none⟩), .int .i64 p, .agg (callT 30)] w fun e w' => e = .returned (.agg (ansV 0 p (s.t p).par (.slice none 0 0))) ∧ KG s k w w' s := by
  have ok := kout_ok (k := k) (w0 := w) (tag0 := s.tag) h.tz (fun s' e a b => e = 0 ∧ a = p ∧ b = (s.t p).par ∧ s' = s)
  refine (askP_is ok (Below.refl _ _) h haw rfl (doQ_is ok (.inl rfl) rfl rfl (proc_pid h haw.p1 haw.p16 (by rw [haw.lv]; decide) rfl rfl))).mono ?_
  rintro e2 w' ⟨X, rfl, hX, hone, hu, s', e, a, b, hk, hf, rfl, ⟨rfl, rfl, rfl, rfl⟩, hU⟩
  exact ⟨rfl, hk, hU, hf⟩
end
end Go.Proofs.YtnmlapiekfkbaaaGreatDoor
namespace Go.Proofs.YtnmlapiekfkbaaaGreatDoor
open Go.RowKit
set_option linter.unusedVariables false
set_option linter.unusedSimpArgs false
theorem Mp.held {m : MS} {N : Nat} (h : Mp m N) (h' : Nat → Bool) : Mp { m with h := h' } N := by
  obtain ⟨b, hb, ho, hn⟩ := h.one
  refine ⟨fun p p1 p2 => ?_, h.S0, h.nS, h.len, ⟨b, hb, ⟨ho.lone, ho.pg, ho.nF, word_keep ho.w0 rfl (fun g hg => ⟨hg, rfl⟩), word_keep ho.w1 rfl (fun g hg => ⟨hg, rfl⟩)⟩, hn⟩⟩
  obtain ⟨b, q1, q2, q3⟩ := h.S p p1 p2
  exact ⟨b, q1, word_keep q2 rfl (fun g hg => ⟨hg, rfl⟩), word_keep q3 rfl (fun g hg => ⟨hg, rfl⟩)⟩
/-- the kernel behind r rounds -/
structure Rn (s : KSt) (nc n r : Nat) (mm : Nat → Nat) : Prop where
  cp : s.nc = nc
  c0 : s.c 0 = .int .i64 nc
  c9 : s.c 654 = .int .u32 r
  wv : s.wv = .slice none 0 0
  wl : s.wl = []
  wn0 : 0 ≤ s.wn
  wn1 : s.wn ≤ r
  t0 : 0 ≤ s.tk
  t1 : s.tk ≤ r * 4
  l : s.l = ticked nc n r
  fr : s.fr = 48
  ps : ∀ p, 1 ≤ p → p ≤ n + 1 → Go1 s p (mm p)
  mp : Mp s.m (n + 1)
theorem Ks.rn {s : KSt} {nc n : Nat} (h : Ks s nc (n + 1)) (hm : Mp s.m (n + 1)) : Rn s nc n 0 (had nc n 0) :=
  ⟨h.cp, h.c0, h.c9, h.wv, h.wl, by rw [h.wn]; decide, by rw [h.wn]; decide, by rw [h.tk]; decide, by rw [h.tk]; decide, h.l, h.fr, h.ps, hm⟩
section
variable {w : World} {k : KC} {s : KSt} {nc n r : Nat} {mm : Nat → Nat}
theorem Rn.turned (h : Rn s nc n r mm) {p : Nat} (p1 : 1 ≤ p) (p2 : p ≤ n + 1) (h15 : n < 15) (h' : Nat → Bool) (tag' : Nat → Nat) : Rn { s with c := putRg s.c (8 + p * 38 + 1) (gOf (mm p + 1)), m := { s.m with h := h' }, tag := tag' } nc n r (fun q : Nat => if (q : Int) = (p : Int) then mm q + 1 else mm q) := by
  have hout : ∀ j, (j < 8 + p * 38 + 1 ∨ 8 + p * 38 + 11 ≤ j) → putRg s.c (8 + p * 38 + 1) (gOf (mm p + 1)) j = s.c j := fun j hj => by unfold putRg; rw [if_neg (by omega)]
  refine ⟨h.cp, (hout 0 (by omega)).trans h.c0, (hout 654 (by omega)).trans h.c9, h.wv, h.wl, h.wn0, h.wn1, h.t0, h.t1, h.l, h.fr, fun q q1 q2 => ?_, h.mp.held h'⟩
  have g := h.ps q q1 q2
  refine ⟨⟨q1, g.aw.p16, g.aw.lv, (hout _ (by omega)).trans g.aw.sl, fun j hj => (hout _ (by omega)).trans (g.aw.sg j hj)⟩, fun j hj => ?_, (hout _ (by omega)).trans g.sp⟩
  by_cases e : q = p
  · subst e
    show putRg s.c (8 + q * 38 + 1) (gOf (mm q + 1)) (8 + q * 38 + 1 + j) = _
    unfold putRg
    rw [if_pos (by omega), if_pos rfl, show 8 + q * 38 + 1 + j - (8 + q * 38 + 1) = j by omega]
  · rw [if_neg (by omega)]
    exact (hout _ (by omega)).trans (g.rg j hj)
/-- a processor's step -/
theorem step_is (h : KT w k s) (hr : Rn s nc n r mm) (n1 : 1 ≤ nc) (n4 : nc ≤ 4) (hn : n < 6) (hr2 : r < 4 * (n + 1)) {c : Nat} (hc : c < nc) :
    Calls Tryz.prog 8 #[.pointer (some ⟨k.K, 0, none⟩), .int .i64 c] w fun e w' => (∃ pv tv : Int, (tv = 0 ∨ (tv = 5 ∧ pv = 0)) ∧ e = .returned (.tuple #[.int .i64 pv, .agg #[.int .i64 tv, .int .u32 0]])) ∧ ∃ s', KG s k w w' s' ∧ Rn s' nc n r (stepN (ticked nc n r) mm c) := by
  have hc' : c < s.nc := by rw [hr.cp]; exact hc
  cases ho : onG s.l c with
  | none =>
    refine (kstep_no h hc' ho).mono ?_
    rintro e w' ⟨rfl, hb⟩
    refine ⟨⟨0, 5, .inr ⟨rfl, rfl⟩, rfl⟩, s, h.start.keep hb, ?_⟩
    rw [hr.l] at ho
    unfold stepN
    rw [ho]
    exact hr
  | some i =>
    obtain ⟨x, hx, -⟩ := onG_some ho
    obtain ⟨p, hp, p1, p2⟩ := on_ok n1 n4 hn hr2 hc (by rw [← hr.l]; exact ho) (by rw [← hr.l]; exact hx)
    have g := hr.ps p p1 p2
    obtain ⟨b, hb, w0, w1⟩ := hr.mp.S p p1 p2
    have hlen : (s.m.pl.length : Int) ≤ s.fr := by rw [hr.fr]; have := hr.mp.len; omega
    have hst : stepN (ticked nc n r) mm c = fun q : Nat => if (q : Int) = (p : Int) then mm q + 1 else mm q := by
      rw [hr.l] at ho hx
      unfold stepN
      rw [ho]
      simp only [hx]
      rw [hp]
    rw [hst]
    by_cases hm : mm p % 2 = 0
    · have hpc : (gOf (mm p)).pc = 0 := if_pos hm
      refine (kstep_yes h hc' ho hx hp (g := gOf (mm p)) (s1 := p) (b := b) (y := y0) (op := 14) (A := 1) (B := 1) (C := 1) ⟨g.aw, g.rg, g.sp, wf_small (by omega), hb, hlen, by rw [hpc]; exact w0, dec_y0, by decide, by decide, .inl rfl⟩).mono ?_
      rintro e w' ⟨rfl, h', tag', hg⟩
      rw [gOf_even hm] at hg
      exact ⟨⟨p, 0, .inl rfl, rfl⟩, _, hg, hr.turned p1 p2 (by omega) h' tag'⟩
    · have hpc : (gOf (mm p)).pc = 4 := if_neg hm
      refine (kstep_yes h hc' ho hx hp (g := gOf (mm p)) (s1 := p) (b := b) (y := y1) (op := 19) (A := 0) (B := 0) (C := -4) ⟨g.aw, g.rg, g.sp, wf_small (by omega), hb, hlen, by rw [hpc]; exact w1, dec_y1, by decide, by decide, .inr rfl⟩).mono ?_
      rintro e w' ⟨rfl, h', tag', hg⟩
      rw [gOf_odd hm] at hg
      exact ⟨⟨p, 0, .inl rfl, rfl⟩, _, hg, hr.turned p1 p2 (by omega) h' tag'⟩
/-- the clock's tick -/
theorem tick_is (h : KT w k s) (hr : Rn s nc n r mm) (n1 : 1 ≤ nc) (n4 : nc ≤ 4) (hn : n < 6) (hr2 : r < 4 * (n + 1)) :
    Calls Tryz.prog 9 #[.pointer (some ⟨k.K, 0, none⟩)] w fun e w' => e = .returned (.tuple #[]) ∧ ∃ s', KG s k w w' s' ∧ Rn s' nc n (r + 1) mm := by
  refine (ktick_is h (nw := r) (b := (r : Int) * 419428) ⟨by rw [hr.cp]; exact hr.c0, hr.c9, hr.wv, hr.wl, hr.wn0, hr.wn1, by omega, hr.t0, by have := hr.t1; omega, by rw [hr.l]; exact ticked_ok n1 n4 hn r, by omega⟩).mono ?_
  rintro e w' ⟨rfl, tag', hg⟩
  have hout : ∀ j, j ≠ 654 → upV s.c 654 (.int .u32 ((r : Int) + 1)) j = s.c j := fun j hj => if_neg hj
  refine ⟨rfl, _, hg, ⟨hr.cp, (hout 0 (by decide)).trans hr.c0, ?_, hr.wv, hr.wl, by show 0 ≤ (r : Int) + 1; omega, by show (r : Int) + 1 ≤ ((r + 1 : Nat) : Int); omega, by show 0 ≤ s.tk + s.nc; have := hr.t0; omega, ?_, ?_, hr.fr, fun q q1 q2 => ?_, hr.mp⟩⟩
  · show upV s.c 654 (.int .u32 ((r : Int) + 1)) 654 = .int .u32 ((r + 1 : Nat) : Int)
    unfold upV
    rw [if_pos rfl]
    rfl
  · show s.tk + s.nc ≤ ((r + 1 : Nat) : Int) * 4
    have := hr.t1
    rw [hr.cp]
    push_cast
    omega
  · show tickAll s.l s.nc s.nc = _
    rw [hr.l, hr.cp]
    rfl
  · have g := hr.ps q q1 q2
    exact ⟨⟨q1, g.aw.p16, g.aw.lv, (hout _ (by omega)).trans g.aw.sl, fun j hj => (hout _ (by omega)).trans (g.aw.sg j hj)⟩, fun j hj => (hout _ (by omega)).trans (g.rg j hj), (hout _ (by omega)).trans g.sp⟩
end
end Go.Proofs.YtnmlapiekfkbaaaGreatDoor
namespace Go.Proofs.YtnmlapiekfkbaaaGreatDoor
open Go.RowKit
set_option linter.unusedVariables false
set_option linter.unusedSimpArgs false
/-- a process that goes round, or sleeps -/
structure Gz (s : KSt) (p m : Nat) (z : Bool) : Prop where
  p1 : 1 ≤ p
  p16 : p ≤ 16
  lv : (s.t p).st = 1
  sl : s.c (8 + p * 38 + 37) = .bool z
  sg : ∀ j, j < 18 → s.c (8 + p * 38 + 19 + j) = .int .i64 0
  rg : RegsAt s.c (8 + p * 38 + 1) (gOf m)
  sp : s.c (8 + p * 38) = .int .i64 p
theorem Gz.go {s : KSt} {p m : Nat} (h : Gz s p m false) : Go1 s p m := ⟨⟨h.p1, h.p16, h.lv, h.sl, h.sg⟩, h.rg, h.sp⟩
theorem Go1.gz {s : KSt} {p m : Nat} (h : Go1 s p m) : Gz s p m false := ⟨h.aw.p1, h.aw.p16, h.aw.lv, h.aw.sl, h.aw.sg, h.rg, h.sp⟩
/-- the kernel at the time r -/
structure Rz (s : KSt) (nc n r : Nat) (zz : Nat → Bool) : Prop where
  cp : s.nc = nc
  c0 : s.c 0 = .int .i64 nc
  c9 : s.c 654 = .int .u32 r
  wn0 : 0 ≤ s.wn
  wn1 : s.wn ≤ r
  t0 : 0 ≤ s.tk
  t1 : s.tk ≤ r * 4
  fr : s.fr = 48
  ps : ∀ p, 1 ≤ p → p ≤ n + 1 → ∃ m, Gz s p m (zz p)
  mp : Mp s.m (n + 1)
theorem Rn.rz {s : KSt} {nc n r : Nat} {mm : Nat → Nat} (h : Rn s nc n r mm) : Rz s nc n r (fun _ => false) :=
  ⟨h.cp, h.c0, h.c9, h.wn0, h.wn1, h.t0, h.t1, h.fr, fun p p1 p2 => ⟨mm p, (h.ps p p1 p2).gz⟩, h.mp⟩
section
variable {w : World} {k : KC} {s : KSt} {nc n r : Nat} {zz : Nat → Bool}
theorem Rz.turned (h : Rz s nc n r zz) {p m : Nat} (g : Gz s p m (zz p)) (p2 : p ≤ n + 1) (h15 : n < 15) (h' : Nat → Bool) (tag' : Nat → Nat) : Rz { s with c := putRg s.c (8 + p * 38 + 1) (gOf (m + 1)), m := { s.m with h := h' }, tag := tag' } nc n r zz := by
  have hout : ∀ j, (j < 8 + p * 38 + 1 ∨ 8 + p * 38 + 11 ≤ j) → putRg s.c (8 + p * 38 + 1) (gOf (m + 1)) j = s.c j := fun j hj => by unfold putRg; rw [if_neg (by omega)]
  refine ⟨h.cp, (hout 0 (by omega)).trans h.c0, (hout 654 (by omega)).trans h.c9, h.wn0, h.wn1, h.t0, h.t1, h.fr, fun q q1 q2 => ?_, h.mp.held h'⟩
  obtain ⟨m2, g2⟩ := h.ps q q1 q2
  by_cases e : q = p
  · subst e
    refine ⟨m + 1, q1, g2.p16, g2.lv, (hout _ (by omega)).trans g2.sl, fun j hj => (hout _ (by omega)).trans (g2.sg j hj), fun j hj => ?_, (hout _ (by omega)).trans g2.sp⟩
    show putRg s.c (8 + q * 38 + 1) (gOf (m + 1)) (8 + q * 38 + 1 + j) = _
    unfold putRg
    rw [if_pos (by omega), show 8 + q * 38 + 1 + j - (8 + q * 38 + 1) = j by omega]
  · exact ⟨m2, q1, g2.p16, g2.lv, (hout _ (by omega)).trans g2.sl, fun j hj => (hout _ (by omega)).trans (g2.sg j hj), fun j hj => (hout _ (by omega)).trans (g2.rg j hj), (hout _ (by omega)).trans g2.sp⟩
/-- a processor's step -/
theorem zstep_is (h : KT w k s) (hr : Rz s nc n r zz) (hn : n < 6) (hok : okL s.l nc n = true) {c : Nat} (hc : c < nc) (hz : ∀ p : Nat, 1 ≤ p → onT s.l c = (p : Int) → zz p = false) :
    Calls Tryz.prog 8 #[.pointer (some ⟨k.K, 0, none⟩), .int .i64 c] w fun e w' => (∃ tv : Int, e = .returned (.tuple #[.int .i64 (onT s.l c), .agg #[.int .i64 tv, .int .u32 0]])) ∧ ∃ s', KG s k w w' s' ∧ Rz s' nc n r zz ∧ s'.l = s.l ∧ s'.wl = s.wl ∧ s'.t = s.t := by
  have hc' : c < s.nc := by rw [hr.cp]; exact hc
  cases ho : onG s.l c with
  | none =>
    have e0 : onT s.l c = 0 := by unfold onT; rw [ho]
    rw [e0]
    refine (kstep_no h hc' ho).mono ?_
    rintro e w' ⟨rfl, hb⟩
    exact ⟨⟨5, rfl⟩, s, h.start.keep hb, hr, rfl, rfl, rfl⟩
  | some i =>
    obtain ⟨x, hx, -⟩ := onG_some ho
    obtain ⟨p, hp, p1, p2⟩ := okL_on hok hc ho hx
    have e0 : onT s.l c = (p : Int) := by unfold onT; rw [ho]; simp only [hx]; exact hp
    have hzp := hz p p1 e0
    rw [e0]
    obtain ⟨m, gz⟩ := hr.ps p p1 p2
    have g : Go1 s p m := Gz.go (by rw [← hzp]; exact gz)
    obtain ⟨b, hb, w0, w1⟩ := hr.mp.S p p1 p2
    have hlen : (s.m.pl.length : Int) ≤ s.fr := by rw [hr.fr]; have := hr.mp.len; omega
    by_cases hm : m % 2 = 0
    · have hpc : (gOf m).pc = 0 := if_pos hm
      refine (kstep_yes h hc' ho hx hp (g := gOf m) (s1 := p) (b := b) (y := y0) (op := 14) (A := 1) (B := 1) (C := 1) ⟨g.aw, g.rg, g.sp, wf_small (by omega), hb, hlen, by rw [hpc]; exact w0, dec_y0, by decide, by decide, .inl rfl⟩).mono ?_
      rintro e w' ⟨rfl, h', tag', hg⟩
      rw [gOf_even hm] at hg
      exact ⟨⟨0, rfl⟩, _, hg, hr.turned gz p2 (by omega) h' tag', rfl, rfl, rfl⟩
    · have hpc : (gOf m).pc = 4 := if_neg hm
      refine (kstep_yes h hc' ho hx hp (g := gOf m) (s1 := p) (b := b) (y := y1) (op := 19) (A := 0) (B := 0) (C := -4) ⟨g.aw, g.rg, g.sp, wf_small (by omega), hb, hlen, by rw [hpc]; exact w1, dec_y1, by decide, by decide, .inr rfl⟩).mono ?_
      rintro e w' ⟨rfl, h', tag', hg⟩
      rw [gOf_odd hm] at hg
      exact ⟨⟨0, rfl⟩, _, hg, hr.turned gz p2 (by omega) h' tag', rfl, rfl, rfl⟩
/-- the clock's tick -/
theorem ztick_is (h : KT w k s) (hr : Rz s nc n r zz) (n4 : nc ≤ 4) (hr2 : r < 200) (htl : s.wl.length ≤ 1000) (htm : ∀ (j : Nat) (t : Int × Int), s.wl[j]? = some t → 0 ≤ t.1 ∧ t.1 < 1000000000) {l1 : List Tk} {c1 : Nat → Value} (hw : Wakes s.nc s.l (upV s.c 654 (.int .u32 ((r : Int) + 1))) (dueI ((r : Int) + 1) s.wl) l1 c1) (hv : VOk 1000000000 l1) :
    Calls Tryz.prog 9 #[.pointer (some ⟨k.K, 0, none⟩)] w fun e w' => e = .returned (.tuple #[]) ∧ ∃ v' tag', KG s k w w' { s with c := c1, wn := (r : Int) + 1, wv := v', wl := s.wl.drop (dueN ((r : Int) + 1) s.wl), l := tickAll l1 s.nc s.nc, tk := s.tk + s.nc, tag := tag' } := by
  rcases h.wh.own.2 with ⟨e, hl0⟩ | ⟨g, cap, cur, e, _⟩
  · have hwl : s.wl = [] := List.eq_nil_of_length_eq_zero hl0
    rw [hwl] at hw
    obtain ⟨rfl, rfl⟩ := Wakes.inv0 (show Wakes s.nc s.l _ [] l1 c1 from hw)
    refine (ktick_is h (nw := r) (b := 1000000000) ⟨by rw [hr.cp]; exact hr.c0, hr.c9, e, hwl, hr.wn0, hr.wn1, by omega, hr.t0, by have := hr.t1; omega, hv, by decide⟩).mono ?_
    rintro e2 w' ⟨rfl, tag', hg⟩
    refine ⟨rfl, s.wv, tag', ?_⟩
    rw [show s.wl.drop (dueN ((r : Int) + 1) s.wl) = s.wl by rw [hwl]; rfl]
    exact hg
  · exact ktickT_is h (nw := r) (b := 1000000000) ⟨by rw [hr.cp]; exact hr.c0, hr.c9, htl, htm, hr.wn0, hr.wn1, by omega, hr.t0, by have := hr.t1; omega, hw, hv, by decide⟩ e
theorem Rz.ticked (h : Rz s nc n r zz) (n4 : nc ≤ 4) {z2 : Nat → Bool} {c1 : Nat → Value} {wn : Int} {wv : Value} {wl : List (Int × Int)} {l : List Tk} {tag : Nat → Nat} (hwn : wn = (r : Int) + 1) (h0 : c1 0 = s.c 0) (h9 : c1 654 = .int .u32 ((r : Int) + 1)) (hps : ∀ p, 1 ≤ p → p ≤ n + 1 → c1 (8 + p * 38 + 37) = .bool (z2 p) ∧ ∀ j, j < 37 → c1 (8 + p * 38 + j) = s.c (8 + p * 38 + j)) :
    Rz { s with c := c1, wn := wn, wv := wv, wl := wl, l := l, tk := s.tk + s.nc, tag := tag } nc n (r + 1) z2 := by
  have hcp := h.cp
  refine ⟨h.cp, h0.trans h.c0, h9.trans rfl, by show 0 ≤ wn; omega, by show wn ≤ ((r + 1 : Nat) : Int); omega, by show 0 ≤ s.tk + s.nc; have := h.t0; omega, by show s.tk + s.nc ≤ ((r + 1 : Nat) : Int) * 4; have := h.t1; rw [hcp]; push_cast; omega, h.fr, fun p p1 p2 => ?_, h.mp⟩
  obtain ⟨m, g⟩ := h.ps p p1 p2
  obtain ⟨q1, q2⟩ := hps p p1 p2
  refine ⟨m, g.p1, g.p16, g.lv, q1, fun j hj => ?_, fun j hj => ?_, ?_⟩
  · have := q2 (19 + j) (by omega)
    rw [← Nat.add_assoc] at this
    exact this.trans (g.sg j hj)
  · have := q2 (1 + j) (by omega)
    rw [← Nat.add_assoc] at this
    exact this.trans (g.rg j hj)
  · have := q2 0 (by decide)
    exact this.trans g.sp
end
end Go.Proofs.YtnmlapiekfkbaaaGreatDoor
