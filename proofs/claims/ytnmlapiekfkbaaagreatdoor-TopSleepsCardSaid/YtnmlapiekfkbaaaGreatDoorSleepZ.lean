/- The kernel while one sleeps: he falls asleep, sleeps on, wakes. No walk here. The walk of ringtop.TopSleeps. -/
import Derived.Test.YtnmlapiekfkbaaaGreatDoorSlL
import Derived.Test.YtnmlapiekfkbaaaGreatDoorTpDl
namespace Go.Proofs.YtnmlapiekfkbaaaGreatDoor
open Go.RowKit
set_option linter.unusedVariables false
set_option linter.unusedSimpArgs false
def isW (who : Nat) : Nat → Bool := fun p => p == who
section
variable {w : World} {k : KC} {s : KSt} {nc n r who T : Nat} {zz : Nat → Bool}
theorem Rz.slept (h : Rz s nc n r (fun _ => false)) {i : Nat} {x : Tk} (hi : idG s.l who = some i) (hx : s.l[i]? = some x) (at' : Int) (v' : Value) (tag' : Nat → Nat) :
    Rz (slept s who i x at' v' tag') nc n r (isW who) ∧ (slept s who i x at' v' tag').l = sleptL s.l nc who := by
  have hc : ∀ j, j ≠ 8 + who * 38 + 37 → upV s.c (8 + who * 38 + 37) (.bool true) j = s.c j := fun j hj => if_neg hj
  refine ⟨⟨h.cp, (hc 0 (by omega)).trans h.c0, ?_, h.wn0, h.wn1, h.t0, h.t1, h.fr, fun p p1 p2 => ?_, h.mp⟩, ?_⟩
  · show upV s.c (8 + who * 38 + 37) (.bool true) 654 = _
    rw [hc 654 (by omega)]
    exact h.c9
  · obtain ⟨m, g⟩ := h.ps p p1 p2
    refine ⟨m, g.p1, g.p16, g.lv, ?_, fun j hj => (hc _ (by omega)).trans (g.sg j hj), fun j hj => (hc _ (by omega)).trans (g.rg j hj), (hc _ (by omega)).trans g.sp⟩
    show upV s.c (8 + who * 38 + 37) (.bool true) (8 + p * 38 + 37) = .bool (p == who)
    by_cases e : p = who
    · subst e; unfold upV; rw [if_pos rfl]; simp
    · rw [hc _ (by omega), g.sl]
      have : (p == who) = false := by simpa using e
      rw [this]
  · unfold sleptL
    rw [setTl_at hi hx, ← h.cp]
    rfl
/-- a tick at which nobody is due -/
theorem tickA (h : KT w k s) (hr : Rz s nc n r zz) (n4 : nc ≤ 4) (hr2 : r < 200) (hok : okL s.l nc n = true) (hT : ∀ t ∈ s.wl, ¬ t.1 ≤ (r : Int) + 1 ∧ 0 ≤ t.1 ∧ t.1 < 1000000000) (hl : s.wl.length ≤ 1000) :
    Calls Tryz.prog 9 #[.pointer (some ⟨k.K, 0, none⟩)] w fun e w' => e = .returned (.tuple #[]) ∧ ∃ s', KG s k w w' s' ∧ Rz s' nc n (r + 1) zz ∧ s'.l = tickAll s.l nc nc ∧ s'.wl = s.wl ∧ s'.t = s.t := by
  have hd : dueN ((r : Int) + 1) s.wl = 0 := by
    cases hw : s.wl with
    | nil => rfl
    | cons t l =>
      unfold dueN
      rw [if_neg (hT t (by rw [hw]; exact List.mem_cons_self ..)).1]
  have hi : dueI ((r : Int) + 1) s.wl = [] := by unfold dueI; rw [hd]; rfl
  have hc : ∀ j, j ≠ 654 → upV s.c 654 (.int .u32 ((r : Int) + 1)) j = s.c j := fun j hj => if_neg hj
  refine (ztick_is h hr n4 hr2 hl (fun j t ht => (hT t (List.mem_of_getElem? ht)).2) (l1 := s.l) (c1 := upV s.c 654 (.int .u32 ((r : Int) + 1))) (by rw [hi]; exact .nil _ _) (okL_v hok)).mono ?_
  rintro e w' ⟨rfl, v', tag', hg⟩
  rw [hd, List.drop_zero] at hg
  refine ⟨rfl, _, hg, hr.ticked n4 rfl (hc 0 (by decide)) (by unfold upV; rw [if_pos rfl]) (fun p p1 p2 => ?_), by show tickAll s.l s.nc s.nc = _; rw [hr.cp], rfl, rfl⟩
  obtain ⟨m, g⟩ := hr.ps p p1 p2
  have := g.p16
  exact ⟨by rw [hc _ (by omega)]; exact g.sl, fun j hj => hc _ (by omega)⟩
/-- the tick at which he is due -/
theorem tickB (h : KT w k s) (hr : Rz s nc n r (isW who)) (n4 : nc ≤ 4) (hr2 : r < 200) (w1 : 1 ≤ who) (w6 : who ≤ n + 1) (hrd : rdL s.l who = some false) (hok : okL (wokeL s.l nc who) nc n = true) (hwl : s.wl = [(((r + 1 : Nat) : Int), (who : Int))]) :
    Calls Tryz.prog 9 #[.pointer (some ⟨k.K, 0, none⟩)] w fun e w' => e = .returned (.tuple #[]) ∧ ∃ s', KG s k w w' s' ∧ Rz s' nc n (r + 1) (fun _ => false) ∧ s'.l = tickAll (wokeL s.l nc who) nc nc ∧ s'.wl = [] ∧ s'.t = s.t := by
  have hd : dueN ((r : Int) + 1) s.wl = 1 := by
    rw [hwl]
    unfold dueN
    rw [if_pos (by push_cast; omega)]
    rfl
  have hi : dueI ((r : Int) + 1) s.wl = [(who : Int)] := by unfold dueI; rw [hd, hwl]; rfl
  obtain ⟨i, x, hid, hx, hxr⟩ := rdL_some hrd
  obtain ⟨m0, g0⟩ := hr.ps who w1 w6
  have hwk : wokeL s.l nc who = fillG (s.l.set i { x with v := wokeV s.l x, rd := true, cpu := -1 }) nc := by unfold wokeL; rw [setTl_at hid hx]
  have hc : ∀ j, j ≠ 654 → j ≠ 8 + who * 38 + 37 → upV (upV s.c 654 (.int .u32 ((r : Int) + 1))) (8 + who * 38 + 37) (.bool false) j = s.c j := fun j h1 h2 => by
    unfold upV
    rw [if_neg h2, if_neg h1]
  have h16 := g0.p16
  refine (ztick_is h hr n4 hr2 (by rw [hwl]; simp) (fun j t ht => ?_) (l1 := wokeL s.l nc who) (c1 := upV (upV s.c 654 (.int .u32 ((r : Int) + 1))) (8 + who * 38 + 37) (.bool false)) (by rw [hi, hwk, hr.cp]; exact .cons h16 hid hx hxr (.nil _ _)) (okL_v hok)).mono ?_
  · rw [hwl] at ht
    have := List.mem_of_getElem? ht
    simp only [List.mem_singleton] at this
    subst this
    exact ⟨by omega, by omega⟩
  rintro e w' ⟨rfl, v', tag', hg⟩
  rw [hd] at hg
  refine ⟨rfl, _, hg, hr.ticked n4 rfl (hc 0 (by decide) (by omega)) (by unfold upV; rw [if_neg (by omega), if_pos rfl]) (fun p p1 p2 => ?_), by show tickAll _ s.nc s.nc = _; rw [hr.cp], by show s.wl.drop 1 = []; rw [hwl]; rfl, rfl⟩
  obtain ⟨m, g⟩ := hr.ps p p1 p2
  have hp16 := g.p16
  refine ⟨?_, fun j hj => hc _ (by omega) (by omega)⟩
  by_cases e : p = who
  · subst e
    unfold upV
    rw [if_pos rfl]
  · rw [hc _ (by omega) (by omega), g.sl]
    have : isW who p = false := by unfold isW; simpa using e
    rw [this]
end
end Go.Proofs.YtnmlapiekfkbaaaGreatDoor
namespace Go.Proofs.YtnmlapiekfkbaaaGreatDoor
open Go.RowKit
set_option linter.unusedVariables false
set_option linter.unusedSimpArgs false
theorem Sv.base2 {w0 w1 w : World} {k : KC} {s : KSt} (h : Sv w1 w k s) (hb : Below w0.heap.size w0 w1) : Sv w0 w k s := ⟨h.kt, fun j hj => Nat.le_trans hb.size (h.lo j hj), hb.trans (h.hb.mono hb.size)⟩
/-- what the law on sleepers says at each tick -/
theorem slp_next {nc n q : Nat} {who : Int} {l : List Tk} (h : slp nc n who (q + 1) l = true) : okL l nc n = true ∧ onW l nc who = false ∧ rdL l who = some false ∧ okL (wokeL l nc who) nc n = true ∧ fnd nc n who (4 * (n + 1)) (tickAll (wokeL l nc who) nc nc) = true ∧ slp nc n who q (tickAll l nc nc) = true := by
  unfold slp at h
  simp only [Bool.and_eq_true, Bool.not_eq_true', beq_iff_eq] at h
  obtain ⟨⟨⟨⟨⟨h1, h2⟩, h3⟩, h4⟩, h5⟩, h6⟩ := h
  exact ⟨h1, h2, h3, h4, h5, h6⟩
theorem fnd_next {nc n q : Nat} {who : Int} {l : List Tk} (h : fnd nc n who (q + 1) l = true) : okL l nc n = true ∧ (onW l nc who = true ∨ fnd nc n who q (tickAll l nc nc) = true) := by
  unfold fnd at h
  simp only [Bool.and_eq_true, Bool.or_eq_true] at h
  exact h
/-- the state while he sleeps -/
structure Zs (w0 w : World) (k : KC) (s : KSt) (nc n r who T : Nat) : Prop where
  sv : Sv w0 w k s
  rz : Rz s nc n r (isW who)
  wl : s.wl = [((T : Int), (who : Int))]
  par : (s.t who).par = 1
  lw : slp nc n who (40 - r) s.l = true
/-- the state behind -/
structure Zf (w0 w : World) (k : KC) (s : KSt) (nc n r who q : Nat) : Prop where
  sv : Sv w0 w k s
  rz : Rz s nc n r (fun _ => false)
  wl : s.wl = []
  par : (s.t who).par = 1
  lw : fnd nc n who q s.l = true
theorem onW_yes {l : List Tk} {nc : Nat} {who : Int} (h : onW l nc who = true) : ∃ c, c < nc ∧ onT l c = who := by
  unfold onW at h
  obtain ⟨c, hc, e⟩ := List.any_eq_true.1 h
  exact ⟨c, List.mem_range.1 hc, by simpa using e⟩
theorem Zs.step {w0 w w' : World} {k : KC} {s s' : KSt} {nc n r who T : Nat} (h : Zs w0 w k s nc n r who T) (hg : KG s k w w' s') (hr : Rz s' nc n r (isW who)) (hl : s'.l = s.l) (hw : s'.wl = s.wl) (ht : s'.t = s.t) : Zs w0 w' k s' nc n r who T :=
  ⟨h.sv.kg hg, hr, hw.trans h.wl, by rw [ht]; exact h.par, by rw [hl]; exact h.lw⟩
theorem Zs.keep {w0 w w' : World} {k : KC} {s : KSt} {nc n r who T : Nat} (h : Zs w0 w k s nc n r who T) (hb : Below w.heap.size w w') : Zs w0 w' k s nc n r who T := ⟨h.sv.keep hb, h.rz, h.wl, h.par, h.lw⟩
theorem Zf.keep {w0 w w' : World} {k : KC} {s : KSt} {nc n r who q : Nat} (h : Zf w0 w k s nc n r who q) (hb : Below w.heap.size w w') : Zf w0 w' k s nc n r who q := ⟨h.sv.keep hb, h.rz, h.wl, h.par, h.lw⟩
theorem Zf.step {w0 w w' : World} {k : KC} {s s' : KSt} {nc n r who q : Nat} (h : Zf w0 w k s nc n r who q) (hg : KG s k w w' s') (hr : Rz s' nc n r (fun _ => false)) (hl : s'.l = s.l) (hw : s'.wl = s.wl) (ht : s'.t = s.t) : Zf w0 w' k s' nc n r who q :=
  ⟨h.sv.kg hg, hr, hw.trans h.wl, by rw [ht]; exact h.par, by rw [hl]; exact h.lw⟩
def fldA (v : Value) : Sem Value := Instr.field 34 v 0
theorem fld_ans (v : Value) : Instr.field 34 v 0 = fldA v := rfl
theorem fldA_run (w : World) (e : Int) : (fldA (.agg (ansV e 0 0 (.slice none 0 0)))).run Tryz.prog w = .ok (.int .i64 e) w := by kernel_rfl
attribute [local go_sem ↓] ld_ans st_ans st_tr bd_callT fld_ans
set_option maxRecDepth 100000 in
set_option maxHeartbeats 4000000 in
theorem sleeps_any (w : World) (a0 a1 a2 a3 : Int) : Calls Tryz.prog 3 #[.int .i64 a0, .int .i64 a1, .int .i64 a2, .int .i64 a3] w fun e w' => e = .returned (.bool true) ∧ Below w.heap.size w w' := by
  have hb0 := fun w => bdcT_0 w 30
  have hb1 := fun w a => bdcU_1 w 34 a
  have hf0 := fun w => fldA_run w 0
  have hf8 := fun w => fldA_run w 8
  go_enter Tryz.func3, Tryz.ntmps3
  go_upto_region 2 with (go_at_call 4; refine (rest_is _ _ (by decide) (by decide)).mono ?_; first | (rintro e1 w1 ⟨cc, (hcc : (cc : Int) < 4), rfl, rfl⟩) | (rintro e2 w2 ⟨nn, (hnn : (nn : Int) < 5), rfl, rfl⟩))
  obtain ⟨nc, hnc⟩ : ∃ nc : Nat, (1 : Int) + cc = nc := ⟨1 + cc, by omega⟩
  obtain ⟨n, hn⟩ : ∃ n : Nat, (1 : Int) + nn = n := ⟨1 + nn, by omega⟩
  rw [hnc, hn]
  have HNP : Hid ((0 : Int) < n ∧ (n : Int) < 1000) := Lib.hid ⟨by omega, by omega⟩
  have HNC : Hid (1 ≤ nc ∧ nc ≤ 4 ∧ 1 ≤ n ∧ n ≤ 5) := Lib.hid ⟨by omega, by omega, by omega, by omega⟩
  clear hcc hnn hnc hn
  have nf := HNP.out.1
  have ng := HNP.out.2
  go_upto_region 3 with (go_at_call 4; refine (rest_is _ _ (by first | decide | exact nf) (by first | decide | exact ng)).mono ?_; first | (rintro e3 w3 ⟨tt, (htt : (tt : Int) < 40), rfl, rfl⟩) | (rintro e4 w4 ⟨ww, hww, rfl, rfl⟩))
  clear nf ng
  obtain ⟨who, hwho⟩ : ∃ who : Nat, (2 : Int) + ww = who := ⟨2 + ww, by omega⟩
  obtain ⟨T, hT⟩ : ∃ T : Nat, (1 : Int) + tt = T := ⟨1 + tt, by omega⟩
  rw [hwho, hT]
  have HW : Hid (2 ≤ who ∧ who ≤ n + 1 ∧ 1 ≤ T ∧ T ≤ 40) := Lib.hid ⟨by omega, by omega, by omega, by omega⟩
  clear hww htt hwho hT
  have nc4 : (nc : Int) ≤ 4 := by have := HNC.out; omega
  have n5 : (n : Int) ≤ 5 := by have := HNC.out; omega
  have T40 : (T : Int) ≤ 40 := by have := HW.out; omega
  have HLS := Lib.hid (loops_is w3 (n := n) (by have := HNC.out; omega))
  go_upto_region 4 with (first | (go_at_call 6; refine HLS.out.mono ?_; rintro e5 w5 ⟨v, xs, rfl, hv5, hb5⟩; have HRK := Lib.hid (rvk_is HNC.out.1 HNC.out.2.1 (by have := HNC.out; omega) hv5); have HB5 := Lib.hid hb5; clear hv5 hb5) | (go_at_call 5; refine HRK.out.mono ?_; rintro e6 w6 ⟨k, s4, rfl, hs4, hk4, hm4⟩; have HS4 := Lib.hid (hs4.base2 HB5.out); have HK4 := Lib.hid hk4; have HM4 := Lib.hid hm4; clear hs4 hk4 hm4))
  clear HLS HRK HB5
  have hlaw := law_sleep HNC.out.1 HNC.out.2.1 HNC.out.2.2.1 HNC.out.2.2.2 HW.out.1 HW.out.2.1
  unfold lawB at hlaw
  rw [Bool.and_eq_true, beq_iff_eq] at hlaw
  have hl4 : s4.l = entered nc n := HK4.out.l
  obtain ⟨i, x, hi, hx, hxr⟩ := rdL_some hlaw.1
  rw [← hl4] at hi hx
  have g4 := HK4.out.ps who (by have := HW.out; omega) (by have := HW.out; omega)
  have HAS := Lib.hid (ask_sleep HS4.out.kt g4.aw (n := T) (nw := 0) (by have := HW.out; omega) (by have := HW.out; omega) HK4.out.c9 (by rw [HK4.out.wn]; decide) (by rw [HK4.out.wn]; decide) (by decide) HK4.out.wv HK4.out.wl hi hx hxr)
  have HZ : Hid (∀ w' v' tag', KG s4 k w6 w' (slept s4 who i x (0 + (T : Int)) v' tag') → Zs w3 w' k (slept s4 who i x (0 + (T : Int)) v' tag') nc n 0 who T) := Lib.hid fun w' v' tag' hg => by
    have hz := Rz.slept (who := who) ((HK4.out.rn HM4.out).rz) hi hx (0 + (T : Int)) v' tag'
    refine ⟨HS4.out.kg hg, hz.1, ?_, HK4.out.par who HW.out.1 HW.out.2.1, ?_⟩
    · show [((0 : Int) + T, (who : Int))] = _
      rw [Int.zero_add]
    · rw [hz.2, hl4]
      exact hlaw.2
  clear hlaw hl4 hi hx hxr g4
  go_upto_region 6 with (go_at_call 7; refine HAS.out.mono ?_; rintro e7 w7 ⟨rfl, v7, t7, hg7⟩; have HZ7 : Hid (∃ s, Zs w3 w7 k s nc n 0 who T) := Lib.hid ⟨_, HZ.out w7 v7 t7 hg7⟩; clear hg7)
  have HR0 : Hid ((0 < T → ∃ s, Zs w3 w7 k s nc n 0 who T) ∧ (0 = T → ∃ s, Zf w3 w7 k s nc n 0 who (4 * (n + 1)))) := Lib.hid ⟨fun _ => HZ7.out, fun e => by have := HW.out; omega⟩
  clear HZ HAS HS4 HK4 HM4 HZ7
  go_wp2_with fail
  go_loopw [50] (fun kv wr => ∃ r : Nat, r ≤ T ∧ kv = .int .i64 r ∧ Hid ((r < T → ∃ s, Zs w3 wr k s nc n r who T) ∧ (r = T → ∃ s, Zf w3 wr k s nc n r who (4 * (n + 1))))) (fun kv _ => T - (intOf kv).toNat)
  case atStart => exact ⟨0, Nat.zero_le _, rfl, HR0⟩
  case round =>
    clear HR0
    obtain ⟨r, hr0, rfl, HR⟩ := hrel
    by_cases hr : r < T
    · have i1 : (r : Int) < T := by omega
      have HC0 : Hid (∃ s, Zs w3 wr k s nc n r who T) := Lib.hid (HR.out.1 hr)
      clear HR
      go_wp2_with fail
      go_loopw [53] (fun kv wr => ∃ c : Nat, c ≤ nc ∧ kv = .int .i64 c ∧ Hid (∃ s, Zs w3 wr k s nc n r who T)) (fun kv _ => nc - (intOf kv).toNat)
      case atStart => exact ⟨0, Nat.zero_le _, rfl, HC0⟩
      case round =>
        clear HC0
        obtain ⟨c, hc0, rfl, HC⟩ := hrel
        obtain ⟨s, hz⟩ := HC.out
        have hlw := hz.lw
        rw [show 40 - r = (39 - r) + 1 by have := HW.out; omega] at hlw
        obtain ⟨f1, f2, f3, f4, f5, f6⟩ := slp_next hlw
        have HZ := Lib.hid hz
        by_cases hc : c < nc
        · have i2 : (c : Int) < nc := by omega
          have hpv : ¬ onT s.l c = (who : Int) := onW_no f2 hc
          have HST := Lib.hid (zstep_is hz.sv.kt hz.rz (by have := HNC.out; omega) f1 hc (fun p _ e => by
            have : p ≠ who := fun e2 => hpv (by rw [e, e2])
            unfold isW
            simpa using this))
          clear hz hlw f1 f2 f3 f4 f5 f6 HC
          generalize onT s.l c = pv at *
          go_upto_region 12 with (go_at_call 8; refine HST.out.mono ?_; rintro e8 w8 ⟨⟨tv, rfl⟩, s8, hg8, hr8, hl8, hw8, ht8⟩; have hst : (stR 40 (.pointer (some ⟨w8.heap.size, 0, none⟩)) (.agg #[.int .i64 tv, .int .u32 0])).run Tryz.prog (w8.alloc (.cells #[.int .i64 0, .int .u32 0] 40)) = .ok () (w8.alloc (.cells #[.int .i64 tv, .int .u32 0] 40)) := st0_new w8 rfl (by kernel_rfl) (by simp [Value.oneCell']); have HZ8 := Lib.hid (HZ.out.step hg8 hr8 hl8 hw8 ht8); clear hg8 hr8 hl8 hw8 ht8)
          have HR9 : Hid (∃ s, Zs w3 (w8.alloc (.cells #[.int .i64 tv, .int .u32 0] 40)) k s nc n r who T) := Lib.hid ⟨s8, HZ8.out.keep (Go.Joins.below_alloc1 w8 _)⟩
          clear hst HZ8 HST HZ
          generalize w8.alloc (.cells #[.int .i64 tv, .int .u32 0] 40) = w9 at *
          generalize w8.heap.size = g8 at *
          go_wp2_with fail
          go_roundw
          case rel => exact ⟨c + 1, by omega, by go_num, HR9⟩
          case measure => simp [intOf]; omega
        · obtain rfl : c = nc := by omega
          obtain ⟨m0, gw⟩ := hz.rz.ps who (by have := HW.out; omega) HW.out.2.1
          have HAK := Lib.hid (asksl_is (A := callT 30) hz.sv.kt gw.p1 gw.p16 gw.lv (by rw [gw.sl]; unfold isW; simp) rfl)
          have HF := Lib.hid (And.intro f1 (And.intro f3 (And.intro f4 (And.intro f5 f6))))
          clear hz hlw f1 f2 f3 f4 f5 f6 HC gw
          go_upto_region 17 with (go_at_call 7; refine HAK.out.mono ?_; rintro e8 w8 ⟨rfl, hb8⟩; have HZ8 := Lib.hid (HZ.out.keep hb8); clear hb8)
          clear HAK HZ
          by_cases hrT : r + 1 < T
          · have HTK := Lib.hid (tickA HZ8.out.sv.kt HZ8.out.rz HNC.out.2.1 (by have := HW.out; omega) HF.out.1 (fun t ht => by
              rw [HZ8.out.wl] at ht
              simp only [List.mem_singleton] at ht
              subst ht
              have := HW.out
              exact ⟨by show ¬ (T : Int) ≤ (r : Int) + 1; omega, by show 0 ≤ (T : Int); omega, by show (T : Int) < 1000000000; omega⟩) (by rw [HZ8.out.wl]; simp))
            go_wp2_with (go_at_call 9; refine HTK.out.mono ?_; rintro e9 w9 ⟨rfl, s9, hg9, hr9, hl9, hw9, ht9⟩; have HR9 : Hid ((r + 1 < T → ∃ s, Zs w3 w9 k s c n (r + 1) who T) ∧ (r + 1 = T → ∃ s, Zf w3 w9 k s c n (r + 1) who (4 * (n + 1)))) := Lib.hid ⟨fun _ => ⟨s9, HZ8.out.sv.kg hg9, hr9, hw9.trans HZ8.out.wl, by rw [ht9]; exact HZ8.out.par, by rw [hl9, show 40 - (r + 1) = 39 - r by omega]; exact HF.out.2.2.2.2⟩, fun e => by omega⟩; clear hg9 hr9 hl9 hw9 ht9)
            go_roundw
            case rel => exact ⟨r + 1, by omega, by go_num, HR9⟩
            case measure => simp [intOf]; omega
          · have HTK := Lib.hid (tickB (who := who) HZ8.out.sv.kt HZ8.out.rz HNC.out.2.1 (by have := HW.out; omega) (by have := HW.out; omega) HW.out.2.1 HF.out.2.1 HF.out.2.2.1 (by rw [HZ8.out.wl, show T = r + 1 by omega]))
            go_wp2_with (go_at_call 9; refine HTK.out.mono ?_; rintro e9 w9 ⟨rfl, s9, hg9, hr9, hl9, hw9, ht9⟩; have HR9 : Hid ((r + 1 < T → ∃ s, Zs w3 w9 k s c n (r + 1) who T) ∧ (r + 1 = T → ∃ s, Zf w3 w9 k s c n (r + 1) who (4 * (n + 1)))) := Lib.hid ⟨fun e => by omega, fun _ => ⟨s9, HZ8.out.sv.kg hg9, hr9, hw9, by rw [ht9]; exact HZ8.out.par, by rw [hl9]; exact HF.out.2.2.2.1⟩⟩; clear hg9 hr9 hl9 hw9 ht9)
            go_roundw
            case rel => exact ⟨r + 1, by omega, by go_num, HR9⟩
            case measure => simp [intOf]; omega
    · obtain rfl : r = T := by omega
      obtain ⟨s, hz⟩ := HR.out.2 rfl
      have HZ := Lib.hid hz
      have g := hz.rz.ps who (by have := HW.out; omega) HW.out.2.1
      have HAP := Lib.hid (ask_pid (p := who) hz.sv.kt (g.choose_spec.go.aw))
      rw [hz.par] at HAP
      clear hz g HR
      go_upto_region 20 with (go_at_call 7; refine HAP.out.mono ?_; rintro e5 w5 ⟨rfl, hg5⟩; have hst := ans_newT w5 0 who 1; have HZ5 : Hid (Zf w3 w5 k s nc n r who (4 * (n + 1))) := Lib.hid (HZ.out.step hg5 HZ.out.rz rfl rfl rfl); clear hg5)
      have HA : Hid (Below w5.heap.size w5 (w5.alloc (.cells (ansV 0 who 1 (.slice none 0 0)) 34))) := Lib.hid (Go.Joins.below_alloc1 w5 _)
      have hrn := row_new w5 34 (ansV 0 who 1 (.slice none 0 0))
      have q0 := hrn.cell 0
      have q1 := hrn.cell 1
      have q2 := hrn.cell 2
      rw [show (ansV 0 who 1 (.slice none 0 0))[0]? = some (.int .i64 0) from rfl] at q0
      rw [show (ansV 0 who 1 (.slice none 0 0))[1]? = some (.int .i64 who) from rfl] at q1
      rw [show (ansV 0 who 1 (.slice none 0 0))[2]? = some (.int .i64 1) from rfl] at q2
      have HZ6 := Lib.hid (HZ5.out.keep HA.out)
      clear hst hrn HA HAP HZ HZ5
      generalize w5.alloc (.cells (ansV 0 who 1 (.slice none 0 0)) 34) = w6 at *
      generalize w5.heap.size = g5 at *
      obtain ⟨m, hm⟩ : ∃ m, m = 4 * (n + 1) := ⟨_, rfl⟩
      have HM := Lib.hid hm
      have hm2 : (4 : Int) * ((n : Int) + 1) = (m : Int) := by omega
      have m24 : (m : Int) ≤ 24 := by have := HNC.out; omega
      rw [← hm] at HZ6
      clear hm
      go_upto_region 23 with fail
      (try rw [hm2])
      clear hm2
      have HR0 : Hid (∃ s, Zf w3 w6 k s nc n (r + 0) who (m - 0)) := Lib.hid ⟨s, HZ6.out⟩
      clear q0 q1 q2 HZ6
      go_wp2_with fail
      go_loopw [96] (fun kv wr => ∃ q : Nat, q ≤ m ∧ kv = .int .i64 q ∧ Hid (∃ s, Zf w3 wr k s nc n (r + q) who (m - q))) (fun kv _ => m - (intOf kv).toNat)
      case atStart => exact ⟨0, Nat.zero_le _, rfl, HR0⟩
      case round =>
        clear HR0
        obtain ⟨q, hq0, rfl, HQ⟩ := hrel
        by_cases hq : q < m
        · have i1 : (q : Int) < m := by omega
          have HC0 : Hid (∃ s, Zf w3 wr k s nc n (r + q) who (m - q) ∧ ((∃ c', 0 ≤ c' ∧ c' < nc ∧ onT s.l ((c' : Nat) : Int) = (who : Int)) ∨ fnd nc n who (m - q - 1) (tickAll s.l nc nc) = true)) := Lib.hid (by
            obtain ⟨s, hz⟩ := HQ.out
            have hl := hz.lw
            rw [show m - q = (m - q - 1) + 1 by omega] at hl
            obtain ⟨h1, h2⟩ := fnd_next hl
            refine ⟨s, hz, h2.imp (fun h => ?_) id⟩
            obtain ⟨c, hc, e⟩ := onW_yes h
            exact ⟨c, Nat.zero_le _, hc, e⟩)
          clear HQ
          go_wp2_with fail
          go_loopw [99] (fun kv wr => ∃ c : Nat, c ≤ nc ∧ kv = .int .i64 c ∧ Hid (∃ s, Zf w3 wr k s nc n (r + q) who (m - q) ∧ ((∃ c', c ≤ c' ∧ c' < nc ∧ onT s.l ((c' : Nat) : Int) = (who : Int)) ∨ fnd nc n who (m - q - 1) (tickAll s.l nc nc) = true))) (fun kv _ => nc - (intOf kv).toNat)
          case atStart => exact ⟨0, Nat.zero_le _, rfl, HC0⟩
          case round =>
            clear HC0
            obtain ⟨c, hc0, rfl, HC⟩ := hrel
            obtain ⟨s, hz, hlw⟩ := HC.out
            have hl := hz.lw
            rw [show m - q = (m - q - 1) + 1 by omega] at hl
            obtain ⟨f1, -⟩ := fnd_next hl
            have HZ := Lib.hid hz
            have HLW := Lib.hid hlw
            by_cases hc : c < nc
            · have i2 : (c : Int) < nc := by omega
              have HST := Lib.hid (zstep_is hz.sv.kt hz.rz (by have := HNC.out; omega) f1 hc (fun p _ e => rfl))
              obtain ⟨pv, hpv⟩ : ∃ pv, pv = onT s.l c := ⟨_, rfl⟩
              have HPV := Lib.hid hpv
              rw [← hpv] at HST
              clear hz hl f1 HC hlw hpv
              go_upto_region 28 with (go_at_call 8; refine HST.out.mono ?_; rintro e8 w8 ⟨⟨tv, rfl⟩, s8, hg8, hr8, hl8, hw8, ht8⟩; have hst : (stR 40 (.pointer (some ⟨w8.heap.size, 0, none⟩)) (.agg #[.int .i64 tv, .int .u32 0])).run Tryz.prog (w8.alloc (.cells #[.int .i64 0, .int .u32 0] 40)) = .ok () (w8.alloc (.cells #[.int .i64 tv, .int .u32 0] 40)) := st0_new w8 rfl (by kernel_rfl) (by simp [Value.oneCell']); have HZ8 := Lib.hid (HZ.out.step hg8 hr8 hl8 hw8 ht8); have HL8 := Lib.hid hl8; clear hg8 hr8 hl8 hw8 ht8)
              have HZ9 := Lib.hid (HZ8.out.keep (Go.Joins.below_alloc1 w8 (.cells #[.int .i64 tv, .int .u32 0] 40)))
              clear hst HZ8 HST HZ
              generalize w8.alloc (.cells #[.int .i64 tv, .int .u32 0] 40) = w9 at *
              generalize w8.heap.size = g8 at *
              by_cases hpw : pv = (who : Int)
              · subst hpw
                go_wp2_with fail
                go_ret
                exact ⟨rfl, HZ9.out.sv.hb⟩
              · have HR9 : Hid (∃ s, Zf w3 w9 k s nc n (r + q) who (m - q) ∧ ((∃ c', c + 1 ≤ c' ∧ c' < nc ∧ onT s.l ((c' : Nat) : Int) = (who : Int)) ∨ fnd nc n who (m - q - 1) (tickAll s.l nc nc) = true)) := Lib.hid ⟨s8, HZ9.out, by
                  rw [HL8.out]
                  refine HLW.out.imp (fun h => ?_) id
                  obtain ⟨c', h1, h2, h3⟩ := h
                  refine ⟨c', ?_, h2, h3⟩
                  have : c' ≠ c := fun e => hpw (by rw [HPV.out, ← e]; exact h3)
                  omega⟩
                go_wp2_with fail
                go_roundw
                case rel => exact ⟨c + 1, by omega, by go_num, HR9⟩
                case measure => simp [intOf]; omega
            · obtain rfl : c = nc := by omega
              have hf : fnd c n who (m - q - 1) (tickAll s.l c c) = true := hlw.resolve_left (fun h => by obtain ⟨c', h1, h2, -⟩ := h; omega)
              have HF := Lib.hid hf
              have HTK := Lib.hid (tickA hz.sv.kt hz.rz HNC.out.2.1 (by have := HW.out; have := HM.out; have := HNC.out; omega) f1 (fun t ht => by rw [hz.wl] at ht; cases ht) (by rw [hz.wl]; simp))
              clear hz hl f1 HC hlw hf HLW
              go_wp2_with (go_at_call 9; refine HTK.out.mono ?_; rintro e9 w9 ⟨rfl, s9, hg9, hr9, hl9, hw9, ht9⟩; have HR9 : Hid (∃ s, Zf w3 w9 k s c n (r + (q + 1)) who (m - (q + 1))) := Lib.hid ⟨s9, HZ.out.sv.kg hg9, hr9, hw9.trans HZ.out.wl, by rw [ht9]; exact HZ.out.par, by rw [hl9, show m - (q + 1) = m - q - 1 by omega]; exact HF.out⟩; clear hg9 hr9 hl9 hw9 ht9)
              go_roundw
              case rel => exact ⟨q + 1, by omega, by go_num, HR9⟩
              case measure => simp [intOf]; omega
        · obtain rfl : q = m := by omega
          exfalso
          obtain ⟨s, hz⟩ := HQ.out
          have hl := hz.lw
          rw [Nat.sub_self] at hl
          unfold fnd at hl
          cases hl
end Go.Proofs.YtnmlapiekfkbaaaGreatDoor
