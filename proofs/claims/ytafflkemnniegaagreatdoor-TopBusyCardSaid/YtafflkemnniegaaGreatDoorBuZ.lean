/- The walk of ringtop.TopBusy. -/
import Derived.Test.YtafflkemnniegaaGreatDoorBuQ
namespace Go.Proofs.YtafflkemnniegaaGreatDoor
open Go.RowKit
set_option linter.unusedVariables false
set_option linter.unusedSimpArgs false
theorem uF_zero : uF (fun _ => none) = fun _ => none := by
  funext k
  unfold uF
  split <;> rfl
theorem below_newB {w w1 : World} (h : Below w.heap.size w w1) (o : Obj) : Below w.heap.size w (w1.alloc o) := h.trans ((Go.Joins.below_alloc1 w1 o).mono h.size)
theorem below_gn {w w' : World} (h : w.grownBy w' none) : Below w.heap.size w w' := ⟨h.os, h.tape, h.output, h.size, fun k hk => h.block k hk (by simp)⟩
def fldB (v : Value) : Sem Value := Instr.field 35 v 0
theorem fld_ansB (v : Value) : Instr.field 35 v 0 = fldB v := rfl
theorem fldB_run (w : World) (e a : Int) : (fldB (.agg (ansV e a 0 (.slice none 0 0)))).run Tryz.prog w = .ok (.int .i64 e) w := by kernel_rfl
theorem mkI2_run (w : World) : (Instr.makeMap 27 none).run Tryz.prog w = .ok (.map (some w.heap.size)) (w.alloc (.map #[] 0)) := by kernel_rfl
theorem mkT2_run (w : World) : (Instr.makeMap 39 none).run Tryz.prog w = .ok (.map (some w.heap.size)) (w.alloc (.map #[] 0)) := by kernel_rfl
attribute [local go_sem ↓] ld_ans st_ans st_tr bd_callT fld_ansB
set_option maxRecDepth 100000 in
set_option maxHeartbeats 4000000 in
theorem busy_any (w : World) (a0 : Int) {pv : Value} {pl : List Int} (hpl : At (Value.int .i64) 0 w pv pl) : Calls Tryz.prog 3 #[.int .i64 a0, pv] w fun e w' => e = .returned (.bool true) ∧ Below w.heap.size w w' := by
  obtain ⟨sp0, cp, rfl, hlc, hcm, hcell⟩ := hpl
  have hcp63 : (cp : Int) ≤ 9223372036854775807 := by have := hcm; unfold maxLen at this; omega
  have HCELL := Lib.hid hcell
  obtain ⟨L, hL⟩ : ∃ L, L = pl.length := ⟨_, rfl⟩
  rw [← hL]
  have HLL := Lib.hid hL
  have hLc : L ≤ cp := by omega
  clear hcell hcm hlc hL
  have hb0 := fun w => bdcT_0 w 2
  have hb1 := fun w => bdcT_0 w 1
  have hb2 := fun w a => bdcU_1 w 34 a
  go_enter Tryz.func3, Tryz.ntmps3
  go_upto_region 2 with (go_at_call 4; refine (rest_is _ _ (by decide) (by decide)).mono ?_; rintro e1 w1 ⟨cc, (hcc : (cc : Int) < 4), rfl, rfl⟩)
  obtain ⟨nc, hnc⟩ : ∃ nc : Nat, (1 : Int) + cc = nc := ⟨1 + cc, by omega⟩
  rw [hnc]
  have HNC : Hid (1 ≤ nc ∧ nc ≤ 4) := Lib.hid ⟨by omega, by omega⟩
  have n4 : (nc : Int) ≤ 4 := by omega
  clear hcc hnc
  have HRK := Lib.hid (rvk_is (w := w1) HNC.out.1 HNC.out.2 (n := 0) (by decide) (B := 0) (v := .slice none 0 0) (xs := []) ⟨World.ownsRow_nil _ _ _ _, rfl, fun x hx => nomatch hx⟩)
  go_upto_region 5 with (go_at_call 5; refine HRK.out.mono ?_; rintro e4 w4 ⟨k, s4, rfl, hs4, hk4, hm4⟩)
  have HS4 := Lib.hid hs4
  have HB4 := Lib.hid (hk4.bz hm4 HNC.out.1)
  clear hs4 hk4 hm4 HRK
  obtain ⟨w5, hput, hnm5, hg5⟩ := (NMap.made w4).put (T := 27) Tryz.underlying27 (k := 1) (x := 0) (by decide) (by decide) (by decide)
  have hnm5 : NMap w5 w4.heap.size 1 (cntU U1) (uF U1) := by
    have e := uF_put (fun _ => none) 1 0
    rw [uF_zero] at e
    rw [cntU1, show uF U1 = uF (fup (fun _ => none) 1 (some 0)) from rfl, ← e]
    exact hnm5
  have hb5 : Below w4.heap.size w4 w5 := (Go.Joins.below_alloc1 w4 _).trans ((Below.refl w4.heap.size _).grown hg5 (Go.Joins.below_alloc1 w4 (.map #[] 0)).size (fun k e => by injection e with e; omega))
  have HB5 : Hid (By w1 w5 k w4.heap.size nc 0 0 2 U1 (fun p => p) U1 s4 1) := Lib.hid ⟨HS4.out.keep hb5, HB4.out, HS4.out.kt.tz _ (Nat.le_refl _), HS4.out.hb.size, hnm5, Nat.le_refl _⟩
  clear hnm5 hg5 hb5 HS4 HB4
  have hmk := mkI2_run w4
  go_upto_region 6 with fail
  clear hput hmk
  clear hnm5
  generalize w4.heap.size = ub at *
  go_upto_region 7 with fail
  obtain ⟨m, hm⟩ : ∃ m, m = min L 80 := ⟨_, rfl⟩
  go_cut [41, 42, 43] from 37 to 43 (fun s41 s42 s43 wx => s41 = .slice sp0 m cp ∧ s42 = .int .i64 m ∧ s43 = .int .i64 0 ∧ wx = w5)
  case first =>
    rcases Nat.lt_or_ge 80 L with h2 | h2
    · have i1 : (80 : Int) < L := by omega
      have i2 : (80 : Int) ≤ cp := by omega
      go_wp2_with fail
      all_goals (go_meet; case rel => exact ⟨by congr 1; omega, by congr 1; omega, rfl, rfl⟩)
    · have i1 : ¬ (80 : Int) < L := by omega
      have i2 : (L : Int) ≤ cp := by omega
      go_wp2_with fail
      all_goals (go_meet; case rel => exact ⟨by congr 1; omega, by congr 1; omega, rfl, rfl⟩)
  case rest =>
    obtain ⟨rfl, rfl, rfl, hwc⟩ := hcut
    subst hwc
    obtain ⟨v1, rfl⟩ : ∃ x : World, x = wc := ⟨_, rfl⟩
    have HM : Hid (m ≤ 80 ∧ m ≤ L ∧ m ≤ pl.length) := Lib.hid ⟨by omega, by omega, by have := HLL.out; omega⟩
    have hm80 : (m : Int) ≤ 80 := by omega
    clear hm
    have HR0 : Hid (∃ (s : KSt) (n top : Nat) (U : Nat → Option Nat) (sp : Nat → Nat), By w1 v1 k ub nc 0 0 top U sp U s n) := Lib.hid ⟨s4, 1, 2, U1, _, HB5.out⟩
    clear HB5
    go_wp2_with fail
    go_loopw [8, 43] (fun nv iv wr => ∃ i now : Nat, i ≤ m ∧ now ≤ i ∧ iv = .int .i64 i ∧ nv = .int .i64 now ∧ Hid (∃ (s : KSt) (n top : Nat) (U : Nat → Option Nat) (sp : Nat → Nat), By w1 wr k ub nc now i top U sp U s n)) (fun _ iv _ => m - (intOf iv).toNat)
    case atStart => exact ⟨0, 0, Nat.zero_le _, Nat.le_refl _, rfl, rfl, HR0⟩
    case round =>
      clear HR0
      obtain ⟨i, now, hi0, hnow, rfl, rfl, HR⟩ := hrel
      by_cases hi : i < m
      · have i1 : (i : Int) < m := by omega
        have HI : Hid (i < m ∧ now ≤ i) := Lib.hid ⟨hi, hnow⟩
        clear hi hnow hi0
        obtain ⟨s, n, top, U, sp, hby⟩ := HR.out
        have HBY := Lib.hid hby
        obtain ⟨pb, po, rfl, hx⟩ : ∃ b off, sp0 = some ⟨b, off, none⟩ ∧ ∀ wx, Below w1.heap.size w1 wx → ∃ x : Int, wx.cell? ⟨b, off + i, none⟩ = some (.int .i64 x) := by
          rcases HCELL.out with e | ⟨b, off, e, hlt, hc⟩
          · exfalso
            have h0 : pl.length = 0 := by rw [e]; rfl
            have := HM.out.2.2
            have := HI.out.1
            omega
          · exact ⟨b, off, e, fun wx hb => ⟨pl.getD i 0, (hb.cell (p := ⟨b, off + i, none⟩) hlt).trans (hc i (by have := HM.out.2.2; have := HI.out.1; omega))⟩⟩
        obtain ⟨x, hx⟩ := hx wr hby.sv.hb
        clear hby HR
        go_upto_region 11 with (go_at_call 4; refine (rest_is _ _ (by decide) (by decide)).mono ?_; rintro e1 w6 ⟨p0, (hp0 : (p0 : Int) < 6), rfl, rfl⟩)
        clear hx
        obtain ⟨p, hp⟩ : ∃ p : Nat, (1 : Int) + p0 = p := ⟨1 + p0, by omega⟩
        rw [hp]
        have HP : Hid (1 ≤ p ∧ p ≤ 6) := Lib.hid ⟨by omega, by omega⟩
        clear hp hp0
        obtain ⟨ev, lv, hlook, hev⟩ : ∃ (ev : Int) (lv : Bool), (Instr.lookup 27 (.map (some ub)) (.int .i64 p) true).run Tryz.prog w6 = .ok (.tuple #[.int .i64 ev, .bool lv]) w6 ∧ ((lv = false ∧ U p = none) ∨ ∃ e : Nat, lv = true ∧ U p = some e ∧ ev = e) := by
          have h := HBY.out.nm.look_ok (T := 27) Tryz.underlying27 (k := p) (wf_any (by have := HP.out; omega))
          rw [uF_nat] at h
          cases hU : U p with
          | none => rw [hU] at h; exact ⟨_, _, h, .inl ⟨rfl, rfl⟩⟩
          | some e => rw [hU] at h; exact ⟨_, _, h, .inr ⟨e, rfl, rfl, rfl⟩⟩
        have HEV := Lib.hid hev
        clear hev
        go_upto_block 2 with (go_at_call 4; refine (rest_is _ _ (by decide) (by decide)).mono ?_; rintro e1 w7 ⟨r5, (hr5 : (r5 : Int) < 5), rfl, rfl⟩)
        clear hlook
        go_cut [8, 14, 15, 16] from 44 to 142 (fun s8 s14 s15 s16 wx => ∃ now' : Nat, now' ≤ i + 1 ∧ s8 = .int .i64 now' ∧ Hid (∃ (s : KSt) (n top : Nat) (U : Nat → Option Nat) (sp : Nat → Nat), By w1 wx k ub nc now' (i + 1) top U sp U s n))
        case first =>
          have HNOP : Hid (∃ (s : KSt) (n top : Nat) (U : Nat → Option Nat) (sp : Nat → Nat), By w1 w7 k ub nc now (i + 1) top U sp U s n) := Lib.hid ⟨s, n, top, U, sp, HBY.out.more HBY.out.bz.more⟩
          have hi90 : i < 90 := by have := HI.out; have := HM.out; omega
          have hnow90 : now ≤ 90 := by have := HI.out; omega
          have hnowi : now ≤ i := HI.out.2
          have h5 : r5 = 0 ∨ r5 = 1 ∨ r5 = 2 ∨ r5 = 3 ∨ r5 = 4 := by omega
          have hlen := HBY.out.nm.len (T := 27) Tryz.underlying27 3
          clear hr5
          rcases h5 with rfl | rfl | rfl | rfl | rfl
          · rcases HEV.out with ⟨rfl, hU⟩ | ⟨e, rfl, hU, rfl⟩
            · clear hU
              by_cases j0 : ev ≤ (now : Int)
              · go_wp2_with fail
                go_meet
                case rel => exact ⟨now, by omega, rfl, HNOP⟩
              · go_wp2_with fail
                go_meet
                case rel => exact ⟨now, by omega, rfl, HNOP⟩
            · by_cases he : e ≤ now
              · have j0 : (e : Int) ≤ (now : Int) := by omega
                by_cases hc : cntU U < 6
                · have j1 : (cntU U : Int) < 6 := by omega
                  have HF := Lib.hid (fork_bz HBY.out.sv.kt HBY.out.bz hU he hc (by omega))
                  have htop : (0 : Int) < (top : Int) := by have := HBY.out.bz.ur p e hU; omega
                  have HTT : Hid (top < 17) := Lib.hid (by have := cntU_top HBY.out.bz.dead HBY.out.bz.top17; omega)
                  clear hU hc
                  go_upto_region 18 with (go_at_call 6; refine HF.out.mono ?_; rintro e8 w8 ⟨rfl, s8, s2, hg8, hb8⟩; have hst := ans_newT w8 0 (top : Int) 0; have HB8 := Lib.hid (HBY.out.kg hg8 hb8 (Nat.le_succ _)); clear hg8 hb8)
                  have hrn := row_new w8 35 (ansV 0 (top : Int) 0 (.slice none 0 0))
                  have q0 := hrn.cell 0
                  have q1 := hrn.cell 1
                  rw [show (ansV 0 (top : Int) 0 (.slice none 0 0))[0]? = some (.int .i64 0) from rfl] at q0
                  rw [show (ansV 0 (top : Int) 0 (.slice none 0 0))[1]? = some (.int .i64 (top : Int)) from rfl] at q1
                  have HB9 := Lib.hid (HB8.out.keep (Go.Joins.below_alloc1 w8 (.cells (ansV 0 (top : Int) 0 (.slice none 0 0)) 35)))
                  clear hst hrn HF HB8
                  generalize w8.alloc (.cells (ansV 0 (top : Int) 0 (.slice none 0 0)) 35) = w9 at *
                  generalize w8.heap.size = g8 at *
                  obtain ⟨w10, hput, hb10, -⟩ := HB9.out.put (T := 27) Tryz.underlying27 (p := top) (m := 0) HTT.out (by decide) (by omega) HBY.out.ns
                  have hput : (Instr.mapUpdate 27 (.map (some ub)) (.int .i64 (top : Int)) (.int .i64 0)).run Tryz.prog w9 = .ok () w10 := hput
                  have HB10 := Lib.hid hb10
                  clear hb10
                  go_wp2_with fail
                  go_meet
                  case rel => exact ⟨now, by omega, rfl, Lib.hid ⟨s8, n + 1, top + 1, _, _, HB10.out⟩⟩
                · have j1 : ¬ (cntU U : Int) < 6 := by omega
                  clear hU hc
                  go_wp2_with fail
                  go_meet
                  case rel => exact ⟨now, by omega, rfl, HNOP⟩
              · have j0 : ¬ (e : Int) ≤ (now : Int) := by omega
                clear hU
                go_wp2_with fail
                go_meet
                case rel => exact ⟨now, by omega, rfl, HNOP⟩
          · rcases HEV.out with ⟨rfl, hU⟩ | ⟨e, rfl, hU, rfl⟩
            · clear hU
              by_cases j0 : ev ≤ (now : Int)
              · go_wp2_with fail
                go_meet
                case rel => exact ⟨now, by omega, rfl, HNOP⟩
              · go_wp2_with fail
                go_meet
                case rel => exact ⟨now, by omega, rfl, HNOP⟩
            · by_cases he : e ≤ now
              · have j0 : (e : Int) ≤ (now : Int) := by omega
                by_cases hp1 : 1 < p
                · have j1 : (1 : Int) < (p : Int) := by omega
                  have HF := Lib.hid (exit_bz HBY.out.sv.kt HBY.out.bz hU he (by omega) HP.out.2)
                  have HU := Lib.hid (And.intro hU (HBY.out.i17 hU))
                  have hfl := fun wx => fldB_run wx 0 0
                  clear hU hp1
                  go_upto_region 26 with (go_at_call 6; refine HF.out.mono ?_; rintro e8 w8 ⟨rfl, s8, hg8, hb8⟩; have HB8 := Lib.hid (HBY.out.kg hg8 hb8 (Nat.le_succ _)); clear hg8 hb8)
                  obtain ⟨w10, hdel, hb10⟩ := HB8.out.del (T := 27) (ty := 0) Tryz.underlying27 HU.out.1 HU.out.2
                  have HB10 := Lib.hid hb10
                  clear hb10 HF
                  go_wp2_with fail
                  go_meet
                  case rel => exact ⟨now, by omega, rfl, Lib.hid ⟨s8, n, top, _, _, HB10.out⟩⟩
                · have j1 : ¬ (1 : Int) < (p : Int) := by omega
                  clear hU hp1
                  go_wp2_with fail
                  go_meet
                  case rel => exact ⟨now, by omega, rfl, HNOP⟩
              · have j0 : ¬ (e : Int) ≤ (now : Int) := by omega
                clear hU
                go_wp2_with fail
                go_meet
                case rel => exact ⟨now, by omega, rfl, HNOP⟩
          · go_upto_region 29 with (go_at_call 4; refine (rest_is _ _ (by decide) (by decide)).mono ?_; rintro e1 w8 ⟨d0, (hd0 : (d0 : Int) < 5), rfl, rfl⟩)
            obtain ⟨d, hd⟩ : ∃ d : Nat, (1 : Int) + d0 = d := ⟨1 + d0, by omega⟩
            rw [hd]
            have HD : Hid (1 ≤ d ∧ d ≤ 5) := Lib.hid ⟨by omega, by omega⟩
            have hd5 : (d : Int) ≤ 5 := by omega
            have hn90 : (now : Int) ≤ 90 := by omega
            clear hd hd0
            rcases HEV.out with ⟨rfl, hU⟩ | ⟨e, rfl, hU, rfl⟩
            · clear hU
              by_cases j0 : ev ≤ (now : Int)
              · go_wp2_with fail
                go_meet
                case rel => exact ⟨now, by omega, rfl, HNOP⟩
              · go_wp2_with fail
                go_meet
                case rel => exact ⟨now, by omega, rfl, HNOP⟩
            · by_cases he : e ≤ now
              · have j0 : (e : Int) ≤ (now : Int) := by omega
                have HF := Lib.hid (sleep_bz HBY.out.sv.kt HBY.out.bz hU he (by omega) (by omega) HD.out.1 HD.out.2)
                have H17 := Lib.hid (HBY.out.i17 hU)
                have hfl := fun wx => fldB_run wx 0 0
                clear hU
                go_upto_region 32 with (go_at_call 6; refine HF.out.mono ?_; rintro e8 w9 ⟨rfl, s8, hg8, hb8⟩; have HB8 := Lib.hid (HBY.out.kg hg8 hb8 (Nat.le_succ _)); clear hg8 hb8)
                obtain ⟨w10, hput, hb10, -⟩ := HB8.out.put (T := 27) Tryz.underlying27 (p := p) (m := now + d) H17.out (by omega) (by omega) HBY.out.ns
                rw [show ((now + d : Nat) : Int) = (now : Int) + d by omega] at hput
                have HB10 := Lib.hid hb10
                clear hb10 HF
                go_wp2_with fail
                go_meet
                case rel => exact ⟨now, by omega, rfl, Lib.hid ⟨s8, n + 1, top, _, _, HB10.out⟩⟩
              · have j0 : ¬ (e : Int) ≤ (now : Int) := by omega
                clear hU
                go_wp2_with fail
                go_meet
                case rel => exact ⟨now, by omega, rfl, HNOP⟩
          · have HF := Lib.hid (tick_bz HBY.out.sv.kt HBY.out.bz (by omega) (by omega))
            have hn90 : (now : Int) ≤ 90 := by omega
            go_wp2_with (go_at_call 7; refine HF.out.mono ?_; rintro e8 w9 ⟨rfl, s8, hg8, hb8⟩; have HB8 := Lib.hid (HBY.out.kg hg8 hb8 (Nat.le_succ _)); clear hg8 hb8)
            go_meet
            case rel => exact ⟨now + 1, by omega, by go_num, Lib.hid ⟨s8, n, top, _, _, HB8.out⟩⟩
          · have HF := Lib.hid (tick_bz HBY.out.sv.kt HBY.out.bz (by omega) (by omega))
            have hn90 : (now : Int) ≤ 90 := by omega
            go_wp2_with (go_at_call 7; refine HF.out.mono ?_; rintro e8 w9 ⟨rfl, s8, hg8, hb8⟩; have HB8 := Lib.hid (HBY.out.kg hg8 hb8 (Nat.le_succ _)); clear hg8 hb8)
            go_meet
            case rel => exact ⟨now + 1, by omega, by go_num, Lib.hid ⟨s8, n, top, _, _, HB8.out⟩⟩
        case rest =>
          obtain ⟨now', hnow', rfl, HR2⟩ := hcut
          obtain ⟨v2, rfl⟩ : ∃ x : World, x = wc := ⟨_, rfl⟩
          clear HBY HEV HP
          obtain ⟨s, n, top, U, sp, hby⟩ := HR2.out
          have HBY := Lib.hid hby
          obtain ⟨A, hA⟩ : ∃ A, A = cntB (fun p => rdy U now' p == some true) 17 := ⟨_, rfl⟩
          have HA := Lib.hid hA
          have A17 : (A : Int) ≤ 17 := by rw [hA]; have := cntB_le (fun p => rdy U now' p == some true) 17; omega
          clear hby hA HR2
          go_wp2_with (first | (at_range; refine wpList_range_n _ rfl _ 27 rfl Tryz.underlying27 rfl HBY.out.nm ?_; intro w9 cnt9 hrg9 hg9 hs9) | fail)
          go_frame
          have HB9 := Lib.hid (HBY.out.keep (below_gn hg9))
          have HR9 := Lib.hid hrg9
          have HRT : Hid (s.tag v2.heap.size = 0 ∧ w1.heap.size ≤ v2.heap.size ∧ v2.heap.size ≠ ub) := Lib.hid ⟨HBY.out.tz (Nat.le_refl _), HBY.out.sv.hb.size, by have := HBY.out.nm.lt; omega⟩
          clear hrg9 hg9 hs9 HBY
          generalize v2.heap.size = rb at *
          go_loopw [17] (fun av wr => ∃ (a : Nat) (lf : Int → Bool) (cnt : Nat), av = .int .i64 a ∧ Hid (NRng wr ub rb n (uF U) lf cnt) ∧ Hid (a + awk U now' lf = A) ∧ Hid (By w1 wr k ub nc now' (i + 1) top U sp U s n)) (fun _ wr => wr.rangeLeft ub rb)
          case atStart => exact ⟨0, _, cnt9, rfl, HR9, Lib.hid (by rw [awk_all, HA.out]; omega), HB9⟩
          case round =>
            clear HR9 HB9
            obtain ⟨a, lf, cnt, rfl, HR, HM2, HB⟩ := hrel
            have a17 : (a : Int) ≤ 17 := by have := HM2.out; omega
            go_wp2_with (first | (at_next; refine wpList_next_n _ rfl _ rfl (cnt := cnt) rfl HR.out ?_ ?_) | fail)
            · intro hl
              have haA : a = A := by have := HM2.out; rw [awk_none hl] at this; omega
              subst haA
              have HBY := Lib.hid HB.out
              have hmk := mkT2_run wr
              obtain ⟨l, hl2⟩ : ∃ l, l = s.l := ⟨_, rfl⟩
              have HL2 : Hid (Full nc l ∧ busyN l nc = min nc a) := Lib.hid ⟨by rw [hl2]; exact HB.out.bz.full, by rw [hl2, HB.out.bz.busy, HA.out]⟩
              have HS0 : Hid (Bs w1 (wr.alloc (.map #[] 0)) k ub wr.heap.size nc now' (i + 1) top U sp l 0 s n 0) := Lib.hid ⟨HB.out.keep (Go.Joins.below_alloc1 wr _), hl2.symm, HB.out.tz (Nat.le_refl _), CMap.made wr, Nat.le_refl _, HB.out.sv.hb.size⟩
              have HNE : Hid (wr.heap.size ≠ ub) := Lib.hid (by have := HB.out.nm.lt; omega)
              clear hl hl2 HR HM2 HB HBY
              go_upto_region 43 with fail
              clear hmk
              generalize wr.heap.size = sb at *
              generalize wr.alloc (.map #[] 0) = w11 at *
              have HS1 : Hid (∃ (s : KSt) (n ns : Nat), Bs w1 w11 k ub sb nc now' (i + 1) top U sp l 0 s n ns) := Lib.hid ⟨s, n, 0, HS0.out⟩
              clear HS0
              go_wp2_with fail
              go_loopw [20, 154] (fun bv cv wr => ∃ c : Nat, c ≤ nc ∧ cv = .int .i64 c ∧ bv = .int .i64 (busyN l c) ∧ Hid (∃ (s : KSt) (n ns : Nat), Bs w1 wr k ub sb nc now' (i + 1) top U sp l c s n ns)) (fun _ cv _ => nc - (intOf cv).toNat)
              case atStart => exact ⟨0, Nat.zero_le _, rfl, rfl, HS1⟩
              case round =>
                clear HS1
                obtain ⟨c, hc0, rfl, rfl, HC⟩ := hrel
                have hbl : (busyN l c : Int) ≤ c := by have := busy_le l c; omega
                by_cases hc : c < nc
                · have i2 : (c : Int) < nc := by omega
                  obtain ⟨s5, n5, ns5, hbs⟩ := HC.out
                  have HBS := Lib.hid hbs
                  have hle := hbs.le
                  cases ho : onG l c with
                  | none =>
                    have HST := Lib.hid (stepN_bz hbs.by'.sv.kt hbs.by'.bz hc (by rw [hle]; exact ho))
                    have HNX : Hid (∀ wx, Below wr.heap.size wr wx → ∃ (s : KSt) (n ns : Nat), Bs w1 wx k ub sb nc now' (i + 1) top U sp l (c + 1) s n ns) := Lib.hid fun wx hb => ⟨s5, n5, ns5, (hbs.keep hb).no ho⟩
                    have HBN : Hid (busyN l (c + 1) = busyN l c) := Lib.hid (busy_no ho)
                    clear hbs HC hle ho
                    go_upto_region 47 with (go_at_call 8; refine HST.out.mono ?_; rintro e5 w12 ⟨rfl, hb12⟩; have hst : (stR 42 (.pointer (some ⟨w12.heap.size, 0, none⟩)) (.agg #[.int .i64 5, .int .u32 0])).run Tryz.prog (w12.alloc (.cells #[.int .i64 0, .int .u32 0] 42)) = .ok () (w12.alloc (.cells #[.int .i64 5, .int .u32 0] 42)) := st0_new w12 rfl (by kernel_rfl) (by simp [Value.oneCell']); have HB12 := Lib.hid hb12; clear hb12)
                    have HN13 := Lib.hid (HNX.out _ (below_newB HB12.out (.cells #[.int .i64 5, .int .u32 0] 42)))
                    clear hst HNX HST HB12
                    generalize w12.alloc (.cells #[.int .i64 5, .int .u32 0] 42) = w13 at *
                    go_wp2_with fail
                    go_roundw
                    case rel => exact ⟨c + 1, by omega, by go_num, by rw [HBN.out], HN13⟩
                    case measure => simp [intOf]; omega
                  | some j =>
                    obtain ⟨x5, hx5, -⟩ := onG_some ho
                    obtain ⟨q, hq, q1, q17, hstep⟩ := stepY_bz hbs.by'.sv.kt hbs.by'.bz hc (i := j) (x := x5) (by rw [hle]; exact ho) (by rw [hle]; exact hx5)
                    have HST := Lib.hid hstep
                    have HON := Lib.hid (And.intro ho (And.intro hx5 (And.intro hq q17)))
                    have HBN : Hid (busyN l (c + 1) = busyN l c + 1) := Lib.hid (busy_yes ho)
                    have j2 : (0 : Int) < (q : Int) := by omega
                    clear hbs HC hle ho hx5 hstep q1 q17 hq
                    go_upto_region 47 with (go_at_call 8; refine HST.out.mono ?_; rintro e5 w12 ⟨rfl, s12, hg12, hb12, hl12⟩; have hst : (stR 42 (.pointer (some ⟨w12.heap.size, 0, none⟩)) (.agg #[.int .i64 0, .int .u32 0])).run Tryz.prog (w12.alloc (.cells #[.int .i64 0, .int .u32 0] 42)) = .ok () (w12.alloc (.cells #[.int .i64 0, .int .u32 0] 42)) := st0_new w12 rfl (by kernel_rfl) (by simp [Value.oneCell']); have HB12 := Lib.hid (HBS.out.kg hg12 hb12 hl12); clear hg12 hb12 hl12)
                    have HB13 := Lib.hid (HB12.out.keep (Go.Joins.below_alloc1 w12 (.cells #[.int .i64 0, .int .u32 0] 42)))
                    clear hst HST HB12
                    generalize w12.alloc (.cells #[.int .i64 0, .int .u32 0] 42) = w13 at *
                    have hlk := HB13.out.sm.look (T := 39) (e := 4) Tryz.underlying39 (zeroT w13) (k := (q : Int)) (wf_any (by have := HON.out.2.2.2; omega))
                    rw [← HON.out.2.2.1, seen_new HL2.out.1.toPre HON.out.1 HON.out.2.1, HON.out.2.2.1] at hlk
                    have hlk : (Instr.lookup 39 (.map (some sb)) (.int .i64 (q : Int)) false).run Tryz.prog w13 = .ok (.bool false) w13 := hlk
                    obtain ⟨w14, hput, hb14⟩ := HB13.out.put (T := 39) Tryz.underlying39 HON.out.1 HON.out.2.1 HON.out.2.2.1 HON.out.2.2.2 (by have := HNC.out; omega) HNE.out
                    have HB14 := Lib.hid hb14
                    clear hb14 HB13
                    go_wp2_with fail
                    go_roundw
                    case rel => exact ⟨c + 1, by omega, by go_num, by rw [HBN.out]; go_num, Lib.hid ⟨s12, n5, ns5 + 1, HB14.out⟩⟩
                    case measure => simp [intOf]; omega
                · obtain rfl : c = nc := by omega
                  obtain ⟨s5, n5, ns5, hbs⟩ := HC.out
                  have HN5 : Hid (∃ (s : KSt) (n top : Nat) (U : Nat → Option Nat) (sp : Nat → Nat), By w1 wr k ub c now' (i + 1) top U sp U s n) := Lib.hid ⟨s5, n5, top, U, sp, hbs.by'⟩
                  have hbu := HL2.out.2
                  clear hbs HC hbl
                  rcases Nat.lt_or_ge c a with h2 | h2
                  · have hbu : busyN l c = c := by omega
                    rw [hbu]
                    have j1 : (c : Int) < a := by omega
                    have j3 : (c : Int) ≤ a := by omega
                    clear hbu
                    go_wp2_with fail
                    go_roundw
                    case rel => exact ⟨i + 1, now', by omega, by omega, by go_num, rfl, HN5⟩
                    case measure => simp [intOf]; omega
                  · have hbu : busyN l c = a := by omega
                    rw [hbu]
                    have j1 : ¬ (c : Int) < a := by omega
                    have j3 : (a : Int) ≤ c := by omega
                    clear hbu
                    go_wp2_with fail
                    go_roundw
                    case rel => exact ⟨i + 1, now', by omega, by omega, by go_num, rfl, HN5⟩
                    case measure => simp [intOf]; omega
            · intro kx x w10 cnt10 hlk hfx hrg hlt hg hs hen
              obtain ⟨q, e, rfl, rfl, hU⟩ := uF_some hfx
              have h17 := HB.out.i17 hU
              have hone := awk_one (now := now') hlk hU h17
              have HR10 := Lib.hid hrg
              have HLT : Hid (cnt10 < cnt ∧ wr.rangeLeft ub rb = cnt) := Lib.hid ⟨hlt, HR.out.left⟩
              have HB10 := Lib.hid (HB.out.own (Upd.grown hg rfl) HRT.out.2.1 HRT.out.1 HRT.out.2.2)
              clear hlk hfx hrg hlt hg hs hU h17 HR HB
              by_cases he : e ≤ now'
              · have j0 : (e : Int) ≤ (now' : Int) := by omega
                rw [if_pos he] at hone
                have HM10 : Hid (a + 1 + awk U now' (fun j => lf j && !decide (j = (q : Int))) = A) := Lib.hid (by have := HM2.out; omega)
                clear hone HM2 he
                go_wp2_with fail
                go_roundw
                case rel => exact ⟨a + 1, _, cnt10, by go_num, HR10, HM10, HB10⟩
                case measure => rw [HR10.out.left, HLT.out.2]; exact HLT.out.1
              · have j0 : ¬ (e : Int) ≤ (now' : Int) := by omega
                rw [if_neg he] at hone
                have HM10 : Hid (a + awk U now' (fun j => lf j && !decide (j = (q : Int))) = A) := Lib.hid (by have := HM2.out; omega)
                clear hone HM2 he
                go_wp2_with fail
                go_roundw
                case rel => exact ⟨a, _, cnt10, rfl, HR10, HM10, HB10⟩
                case measure => rw [HR10.out.left, HLT.out.2]; exact HLT.out.1
      · obtain rfl : i = m := by omega
        obtain ⟨s, n, top, U, sp, hby⟩ := HR.out
        have HB := Lib.hid hby.sv.hb
        clear hby HR
        go_wp2_with fail
        go_ret
        exact ⟨rfl, HB.out⟩
end Go.Proofs.YtafflkemnniegaaGreatDoor
