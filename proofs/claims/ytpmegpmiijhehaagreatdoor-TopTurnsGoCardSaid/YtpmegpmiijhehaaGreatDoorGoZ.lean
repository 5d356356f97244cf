/- The kernel while processes go round: steps and ticks. No walk here. The walk of kernel.Regs. The walk of ringtop.TopTurnsGo. -/
import Derived.Test.YtpmegpmiijhehaaGreatDoorTpI
import Derived.Test.YtpmegpmiijhehaaGreatDoorKerSt
import Derived.Test.YtpmegpmiijhehaaGreatDoorKerSu
namespace Go.Proofs.YtpmegpmiijhehaaGreatDoor
open Go.RowKit
set_option linter.unusedVariables false
set_option linter.unusedSimpArgs false
theorem Mp.held {m : MS} {N : Nat} (h : Mp m N) (h' : Nat → Bool) : Mp { m with h := h' } N := by
  obtain ⟨b, hb, ho, hn⟩ := h.one
  refine ⟨fun p p1 p2 => ?_, h.S0, h.nS, h.len, ⟨b, hb, ⟨ho.lone, ho.pg, ho.nF, word_keep ho.w0 rfl (fun g hg => ⟨hg, rfl⟩), word_keep ho.w1 rfl (fun g hg => ⟨hg, rfl⟩)⟩, hn⟩⟩
  obtain ⟨b, q1, q2, q3⟩ := h.S p p1 p2
  exact ⟨b, q1, word_keep q2 rfl (fun g hg => ⟨hg, rfl⟩), word_keep q3 rfl (fun g hg => ⟨hg, rfl⟩)⟩
/-- the kernel behind r rounds -/
structure Rn (s : KSt) (nc n r : Nat) (mm : Nat → Nat) : Prop where
  cp : s.nc = nc
  c0 : s.c 0 = .int .i64 nc
  c9 : s.c 654 = .int .u32 r
  wv : s.wv = .slice none 0 0
  wl : s.wl = []
  wn0 : 0 ≤ s.wn
  wn1 : s.wn ≤ r
  t0 : 0 ≤ s.tk
  t1 : s.tk ≤ r * 4
  l : s.l = ticked nc n r
  fr : s.fr = 48
  ps : ∀ p, 1 ≤ p → p ≤ n + 1 → Go1 s p (mm p)
  mp : Mp s.m (n + 1)
theorem Ks.rn {s : KSt} {nc n : Nat} (h : Ks s nc (n + 1)) (hm : Mp s.m (n + 1)) : Rn s nc n 0 (had nc n 0) :=
  ⟨h.cp, h.c0, h.c9, h.wv, h.wl, by rw [h.wn]; decide, by rw [h.wn]; decide, by rw [h.tk]; decide, by rw [h.tk]; decide, h.l, h.fr, h.ps, hm⟩
section
variable {w : World} {k : KC} {s : KSt} {nc n r : Nat} {mm : Nat → Nat}
theorem Rn.turned (h : Rn s nc n r mm) {p : Nat} (p1 : 1 ≤ p) (p2 : p ≤ n + 1) (h15 : n < 15) (h' : Nat → Bool) (tag' : Nat → Nat) : Rn { s with c := putRg s.c (8 + p * 38 + 1) (gOf (mm p + 1)), m := { s.m with h := h' }, tag := tag' } nc n r (fun q : Nat => if (q : Int) = (p : Int) then mm q + 1 else mm q) := by
  have hout : ∀ j, (j < 8 + p * 38 + 1 ∨ 8 + p * 38 + 11 ≤ j) → putRg s.c (8 + p * 38 + 1) (gOf (mm p + 1)) j = s.c j := fun j hj => by unfold putRg; rw [if_neg (by omega)]
  refine ⟨h.cp, (hout 0 (by omega)).trans h.c0, (hout 654 (by omega)).trans h.c9, h.wv, h.wl, h.wn0, h.wn1, h.t0, h.t1, h.l, h.fr, fun q q1 q2 => ?_, h.mp.held h'⟩
  have g := h.ps q q1 q2
  refine ⟨⟨q1, g.aw.p16, g.aw.lv, (hout _ (by omega)).trans g.aw.sl, fun j hj => (hout _ (by omega)).trans (g.aw.sg j hj)⟩, fun j hj => ?_, (hout _ (by omega)).trans g.sp⟩
  by_cases e : q = p
  · subst e
    show putRg s.c (8 + q * 38 + 1) (gOf (mm q + 1)) (8 + q * 38 + 1 + j) = _
    unfold putRg
    rw [if_pos (by omega), if_pos rfl, show 8 + q * 38 + 1 + j - (8 + q * 38 + 1) = j by omega]
  · rw [if_neg (by omega)]
    exact (hout _ (by omega)).trans (g.rg j hj)
/-- a processor's step -/
theorem step_is (h : KT w k s) (hr : Rn s nc n r mm) (n1 : 1 ≤ nc) (n4 : nc ≤ 4) (hn : n < 6) (hr2 : r < 4 * (n + 1)) {c : Nat} (hc : c < nc) :
    Calls Tryz.prog 7 #[.pointer (some ⟨k.K, 0, none⟩), .int .i64 c] w fun e w' => (∃ pv tv : Int, (tv = 0 ∨ (tv = 5 ∧ pv = 0)) ∧ e = .returned (.tuple #[.int .i64 pv, .agg #[.int .i64 tv, .int .u32 0]])) ∧ ∃ s', KG s k w w' s' ∧ Rn s' nc n r (stepN (ticked nc n r) mm c) := by
  have hc' : c < s.nc := by rw [hr.cp]; exact hc
  cases ho : onG s.l c with
  | none =>
    refine (kstep_no h hc' ho).mono ?_
    rintro e w' ⟨rfl, hb⟩
    refine ⟨⟨0, 5, .inr ⟨rfl, rfl⟩, rfl⟩, s, h.start.keep hb, ?_⟩
    rw [hr.l] at ho
    unfold stepN
    rw [ho]
    exact hr
  | some i =>
    obtain ⟨x, hx, -⟩ := onG_some ho
    obtain ⟨p, hp, p1, p2⟩ := on_ok n1 n4 hn hr2 hc (by rw [← hr.l]; exact ho) (by rw [← hr.l]; exact hx)
    have g := hr.ps p p1 p2
    obtain ⟨b, hb, w0, w1⟩ := hr.mp.S p p1 p2
    have hlen : (s.m.pl.length : Int) ≤ s.fr := by rw [hr.fr]; have := hr.mp.len; omega
    have hst : stepN (ticked nc n r) mm c = fun q : Nat => if (q : Int) = (p : Int) then mm q + 1 else mm q := by
      rw [hr.l] at ho hx
      unfold stepN
      rw [ho]
      simp only [hx]
      rw [hp]
    rw [hst]
    by_cases hm : mm p % 2 = 0
    · have hpc : (gOf (mm p)).pc = 0 := if_pos hm
      refine (kstep_yes h hc' ho hx hp (g := gOf (mm p)) (s1 := p) (b := b) (y := y0) (op := 14) (A := 1) (B := 1) (C := 1) ⟨g.aw, g.rg, g.sp, wf_small (by omega), hb, hlen, by rw [hpc]; exact w0, dec_y0, by decide, by decide, .inl rfl⟩).mono ?_
      rintro e w' ⟨rfl, h', tag', hg⟩
      rw [gOf_even hm] at hg
      exact ⟨⟨p, 0, .inl rfl, rfl⟩, _, hg, hr.turned p1 p2 (by omega) h' tag'⟩
    · have hpc : (gOf (mm p)).pc = 4 := if_neg hm
      refine (kstep_yes h hc' ho hx hp (g := gOf (mm p)) (s1 := p) (b := b) (y := y1) (op := 19) (A := 0) (B := 0) (C := -4) ⟨g.aw, g.rg, g.sp, wf_small (by omega), hb, hlen, by rw [hpc]; exact w1, dec_y1, by decide, by decide, .inr rfl⟩).mono ?_
      rintro e w' ⟨rfl, h', tag', hg⟩
      rw [gOf_odd hm] at hg
      exact ⟨⟨p, 0, .inl rfl, rfl⟩, _, hg, hr.turned p1 p2 (by omega) h' tag'⟩
/-- the clock's tick -/
theorem tick_is (h : KT w k s) (hr : Rn s nc n r mm) (n1 : 1 ≤ nc) (n4 : nc ≤ 4) (hn : n < 6) (hr2 : r < 4 * (n + 1)) :
    Calls Tryz.prog 8 #[.pointer (some ⟨k.K, 0, none⟩)] w fun e w' => e = .returned (.tuple #[]) ∧ ∃ s', KG s k w w' s' ∧ Rn s' nc n (r + 1) mm := by
  refine (ktick_is h (nw := r) (b := (r : Int) * 419428) ⟨by rw [hr.cp]; exact hr.c0, hr.c9, hr.wv, hr.wl, hr.wn0, hr.wn1, by omega, hr.t0, by have := hr.t1; omega, by rw [hr.l]; exact ticked_ok n1 n4 hn r, by omega⟩).mono ?_
  rintro e w' ⟨rfl, tag', hg⟩
  have hout : ∀ j, j ≠ 654 → upV s.c 654 (.int .u32 ((r : Int) + 1)) j = s.c j := fun j hj => if_neg hj
  refine ⟨rfl, _, hg, ⟨hr.cp, (hout 0 (by decide)).trans hr.c0, ?_, hr.wv, hr.wl, by show 0 ≤ (r : Int) + 1; omega, by show (r : Int) + 1 ≤ ((r + 1 : Nat) : Int); omega, by show 0 ≤ s.tk + s.nc; have := hr.t0; omega, ?_, ?_, hr.fr, fun q q1 q2 => ?_, hr.mp⟩⟩
  · show upV s.c 654 (.int .u32 ((r : Int) + 1)) 654 = .int .u32 ((r + 1 : Nat) : Int)
    unfold upV
    rw [if_pos rfl]
    rfl
  · show s.tk + s.nc ≤ ((r + 1 : Nat) : Int) * 4
    have := hr.t1
    rw [hr.cp]
    push_cast
    omega
  · show tickAll s.l s.nc s.nc = _
    rw [hr.l, hr.cp]
    rfl
  · have g := hr.ps q q1 q2
    exact ⟨⟨q1, g.aw.p16, g.aw.lv, (hout _ (by omega)).trans g.aw.sl, fun j hj => (hout _ (by omega)).trans (g.aw.sg j hj)⟩, fun j hj => (hout _ (by omega)).trans (g.rg j hj), (hout _ (by omega)).trans g.sp⟩
end
end Go.Proofs.YtpmegpmiijhehaaGreatDoor
namespace Go.Proofs.YtpmegpmiijhehaaGreatDoor
open Go.RowKit
set_option linter.unusedVariables false
set_option linter.unusedSimpArgs false
section
variable {w : World} {k : KC} {s : KSt} {p : Nat}
attribute [local go_sem ↓] ld_rg st_rg
set_option maxRecDepth 100000 in
set_option maxHeartbeats 1000000 in
theorem regs_is (h : KT w k s) (h1 : 1 ≤ p) (h16 : p ≤ 16) (hl : (s.t p).st = 1) {g : CpuLaw.G} (hr : RegsAt s.c (8 + p * 38 + 1) g) : Calls Tryz.prog 9 #[.pointer (some ⟨k.K, 0, none⟩), .int .i64 p] w fun e w' => e = .returned (.tuple #[.agg (CpuLaw.cellsA g), .int .i64 0]) ∧ Below w.heap.size w w' := by
  have hal := Go.Joins.below_alloc1 w (.cells rgZ 35)
  have hk := h.keep hal
  have l1 := hk.ldreg h16 hr
  have HLV := Lib.hid (livingP_is hk h1 h16 hl)
  have rn := row_new w 35 rgZ
  have s1 := rn.st0 (cs := CpuLaw.cellsA g) rfl (by kernel_rfl) (CpuLaw.cellsA_one g)
  have HR := Lib.hid ((rn.setRow (CpuLaw.cellsA g)).ldV Tryz.underlying35 rfl (by kernel_rfl))
  have HB : Hid (Below w.heap.size w ((w.alloc (.cells rgZ 35)).setRow w.heap.size (CpuLaw.cellsA g))) := Lib.hid (hal.trans ((Upd.setRow (S := fun j => j = w.heap.size) _ _ rfl).toBelow hal.size (fun j hj e => by omega)))
  have p17 : (p : Int) < 17 := by omega
  have HG : Hid (RgA (CpuLaw.cellsA g)) := Lib.hid ⟨rfl, CpuLaw.cellsA_one g⟩
  clear h hk hal rn h1 h16 hl hr
  unfold rgZ at *
  generalize CpuLaw.cellsA g = G at *
  go_enter Tryz.func9, Tryz.ntmps9
  go_wp2_with (go_at_call 23; refine HLV.out.mono ?_; rintro e1 w1 ⟨rfl, rfl⟩)
  exact bodyPost_ret (v := .tuple #[.agg G, .int .i64 0]) (by rw [results_cell_tmp rfl]; simp [asAddr, Result.andThen, HR.out]) rfl ⟨rfl, HB.out⟩
end
end Go.Proofs.YtpmegpmiijhehaaGreatDoor
namespace Go.Proofs.YtpmegpmiijhehaaGreatDoor
open Go.RowKit
set_option linter.unusedVariables false
set_option linter.unusedSimpArgs false
theorem Sv.base {w0 w1 w : World} {k : KC} {s : KSt} (h : Sv w1 w k s) (hb : Below w0.heap.size w0 w1) : Sv w0 w k s := ⟨h.kt, fun j hj => Nat.le_trans hb.size (h.lo j hj), hb.trans (h.hb.mono hb.size)⟩
theorem r1_at {nc n p : Nat} (n1 : 1 ≤ nc) (n4 : nc ≤ 4) (n6 : n < 6) (p1 : 1 ≤ p) (p2 : p ≤ n + 1) : ∃ x : Nat, 1 ≤ x ∧ (CpuLaw.cellsA (gOf (had nc n (4 * (n + 1)) p)))[1]? = some (.int .u32 x) := by
  obtain ⟨h1, h2⟩ := law_go nc n1 n4 n n6 p p1 p2
  refine ⟨_, ?_, rfl⟩
  show 1 ≤ (if (1 : Nat) = 1 then ((had nc n (4 * (n + 1)) p + 1) / 2) % 4294967296 else 0)
  rw [if_pos rfl]
  omega
theorem below_new {w w1 : World} (h : Below w.heap.size w w1) (o : Obj) : Below w.heap.size w (w1.alloc o) := h.trans ((Go.Joins.below_alloc1 w1 o).mono h.size)
attribute [local go_sem ↓] ld_rg st_rg st_tr
set_option maxRecDepth 100000 in
set_option maxHeartbeats 2000000 in
theorem go_any (w : World) (a0 a1 : Int) : Calls Tryz.prog 3 #[.int .i64 a0, .int .i64 a1] w fun e w' => e = .returned (.bool true) ∧ Below w.heap.size w w' := by
  go_enter Tryz.func3, Tryz.ntmps3
  go_upto_region 2 with (go_at_call 4; refine (rest_is _ _ (by decide) (by decide)).mono ?_; first | (rintro e1 w1 ⟨cc, (hcc : (cc : Int) < 4), rfl, rfl⟩) | (rintro e2 w2 ⟨n, (hn : (n : Int) < 6), rfl, rfl⟩))
  obtain ⟨nc, hnc⟩ : ∃ nc : Nat, (1 : Int) + cc = nc := ⟨1 + cc, by omega⟩
  rw [hnc]
  have n1 : 1 ≤ nc := by omega
  have n4 : nc ≤ 4 := by omega
  have n6 : n < 6 := by omega
  have HNC : Hid (1 ≤ nc ∧ nc ≤ 4 ∧ n < 6) := Lib.hid ⟨n1, n4, n6⟩
  clear hcc hnc
  have HLS := Lib.hid (loops_is w2 (n := n) (by omega))
  go_upto_region 5 with (first | (go_at_call 6; refine HLS.out.mono ?_; rintro e3 w3 ⟨v, xs, rfl, hv3, hb3⟩; have HRK := Lib.hid (rvk_is HNC.out.1 HNC.out.2.1 HNC.out.2.2 hv3); have HB3 := Lib.hid hb3; clear hv3 hb3) | (go_at_call 5; refine HRK.out.mono ?_; rintro e4 w4 ⟨k, s4, rfl, hs4, hk4, hm4⟩; have HS4 := Lib.hid hs4; have HR4 := Lib.hid (hk4.rn hm4); clear hs4 hk4 hm4))
  have HS5 := Lib.hid (HS4.out.base HB3.out)
  clear HS4 HB3 HLS HRK
  obtain ⟨m, hm⟩ : ∃ m, m = 4 * (n + 1) := ⟨_, rfl⟩
  have HM := Lib.hid hm
  go_upto_region 6 with fail
  rw [show (4 : Int) * ((n : Int) + 1) = (m : Int) by omega]
  clear hm
  have m24 : (m : Int) ≤ 24 := by have := HM.out; omega
  have HR0 : Hid (∃ s, Sv w2 w4 k s ∧ Rn s nc n 0 (had nc n 0)) := Lib.hid ⟨s4, HS5.out, HR4.out⟩
  clear HS5 HR4
  go_wp2_with fail
  go_loopw [30] (fun kv wr => ∃ r : Nat, r ≤ m ∧ kv = .int .i64 r ∧ Hid (∃ s, Sv w2 wr k s ∧ Rn s nc n r (had nc n r))) (fun kv _ => m - (intOf kv).toNat)
  case atStart => exact ⟨0, Nat.zero_le _, rfl, HR0⟩
  case round =>
    obtain ⟨r, hr0, rfl, HR⟩ := hrel
    by_cases hr : r < m
    · have i1 : (r : Int) < m := by omega
      have HR2 : Hid (∃ s, Sv w2 wr k s ∧ Rn s nc n r (stepsN (ticked nc n r) (had nc n r) 0)) := HR
      clear HR
      go_wp2_with fail
      go_loopw [33] (fun kv wr => ∃ c : Nat, c ≤ nc ∧ kv = .int .i64 c ∧ Hid (∃ s, Sv w2 wr k s ∧ Rn s nc n r (stepsN (ticked nc n r) (had nc n r) c))) (fun kv _ => nc - (intOf kv).toNat)
      case atStart => exact ⟨0, Nat.zero_le _, rfl, HR2⟩
      case round =>
        clear HR2
        obtain ⟨c, hc0, rfl, HC⟩ := hrel
        by_cases hc : c < nc
        · have i2 : (c : Int) < nc := by omega
          obtain ⟨s, hsv, hrn⟩ := HC.out
          have HST := Lib.hid (step_is hsv.kt hrn HNC.out.1 HNC.out.2.1 HNC.out.2.2 (by have := HM.out; omega) hc)
          have HSV := Lib.hid hsv
          clear hsv hrn HC
          go_upto_region 11 with (go_at_call 7; refine HST.out.mono ?_; rintro e5 w5 ⟨⟨pv, tv, htv, rfl⟩, s5, hg5, hr5⟩; have hst : (stR 30 (.pointer (some ⟨w5.heap.size, 0, none⟩)) (.agg #[.int .i64 tv, .int .u32 0])).run Tryz.prog (w5.alloc (.cells #[.int .i64 0, .int .u32 0] 30)) = .ok () (w5.alloc (.cells #[.int .i64 tv, .int .u32 0] 30)) := st0_new w5 rfl (by kernel_rfl) (by simp [Value.oneCell']); have HS5 := Lib.hid (HSV.out.kg hg5); have HR5 := Lib.hid hr5; clear hg5 hr5)
          have hrn := row_new w5 30 #[.int .i64 tv, .int .u32 0]
          have q0 := hrn.cell 0
          rw [show (#[.int .i64 tv, .int .u32 0] : Array Value)[0]? = some (.int .i64 tv) from rfl] at q0
          have HR6 : Hid (∃ s, Sv w2 (w5.alloc (.cells #[.int .i64 tv, .int .u32 0] 30)) k s ∧ Rn s nc n r (stepsN (ticked nc n r) (had nc n r) (c + 1))) := Lib.hid ⟨s5, HS5.out.keep (Go.Joins.below_alloc1 w5 _), HR5.out⟩
          clear hst hrn HS5 HR5 HSV HST
          generalize w5.alloc (.cells #[.int .i64 tv, .int .u32 0] 30) = w6 at *
          generalize w5.heap.size = g5 at *
          rcases htv with rfl | ⟨rfl, rfl⟩
          · go_wp2_with fail
            go_roundw
            case rel => exact ⟨c + 1, by omega, by go_num, HR6⟩
            case measure => simp [intOf]; omega
          · go_wp2_with fail
            go_roundw
            case rel => exact ⟨c + 1, by omega, by go_num, HR6⟩
            case measure => simp [intOf]; omega
        · obtain rfl : c = nc := by omega
          obtain ⟨s, hsv, hrn⟩ := HC.out
          have HTK := Lib.hid (tick_is hsv.kt hrn HNC.out.1 HNC.out.2.1 HNC.out.2.2 (by have := HM.out; omega))
          have HSV := Lib.hid hsv
          clear hsv hrn HC
          go_wp2_with (go_at_call 8; refine HTK.out.mono ?_; rintro e5 w5 ⟨rfl, s5, hg5, hr5⟩; have HR5 : Hid (∃ s, Sv w2 w5 k s ∧ Rn s c n (r + 1) (had c n (r + 1))) := Lib.hid ⟨s5, HSV.out.kg hg5, hr5⟩; clear hg5 hr5)
          go_roundw
          case rel => exact ⟨r + 1, by omega, by go_num, HR5⟩
          case measure => simp [intOf]; omega
    · obtain rfl : r = m := by omega
      obtain ⟨s, hsv, hrn⟩ := HR.out
      have HP : Hid (∀ p, 1 ≤ p → p ≤ n + 1 → ∃ G : Array Value, RgA G ∧ (∀ wx, Sv w2 wx k s → Calls Tryz.prog 9 #[.pointer (some ⟨k.K, 0, none⟩), .int .i64 p] wx fun e w' => e = .returned (.tuple #[.agg G, .int .i64 0]) ∧ Below wx.heap.size wx w') ∧ ∃ x : Nat, 1 ≤ x ∧ G[1]? = some (.int .u32 x)) := Lib.hid fun p p1 p2 => by
        have g := hrn.ps p p1 p2
        refine ⟨_, ⟨rfl, CpuLaw.cellsA_one _⟩, fun wx hx => regs_is hx.kt p1 g.aw.p16 g.aw.lv g.rg, ?_⟩
        rw [HM.out]
        exact r1_at HNC.out.1 HNC.out.2.1 HNC.out.2.2 p1 p2
      have HS := Lib.hid hsv
      clear hsv hrn HR
      go_wp2_with fail
      go_loopw [10] (fun kv wr' => ∃ p : Nat, 1 ≤ p ∧ p ≤ n + 2 ∧ kv = .int .i64 p ∧ Hid (Sv w2 wr' k s)) (fun kv _ => n + 2 - (intOf kv).toNat)
      case atStart => exact ⟨1, by omega, by omega, rfl, HS⟩
      case round =>
        obtain ⟨p, p1, p2, rfl, HS2⟩ := hrel
        by_cases hp : p ≤ n + 1
        · have i1 : (p : Int) ≤ (n : Int) + 1 := by omega
          obtain ⟨G, hG, hC, x, hx, hGx⟩ := HP.out p p1 hp
          have x1 : ¬ (x : Int) < 1 := by omega
          have HC := Lib.hid (hC _ HS2.out)
          have HGG := Lib.hid (And.intro hG hGx)
          clear hG hC hGx
          go_upto_region 20 with (go_at_call 9; refine HC.out.mono ?_; rintro e5 w5 ⟨rfl, hb5⟩; have hst : (stR 35 (.pointer (some ⟨w5.heap.size, 0, none⟩)) (.agg G)).run Tryz.prog (w5.alloc (.cells #[.int .u32 0, .int .u32 0, .int .u32 0, .int .u32 0, .int .u32 0, .int .u32 0, .int .u32 0, .int .u32 0, .int .u32 0, .int .i64 0] 35)) = .ok () (w5.alloc (.cells G 35)) := st0_new w5 HGG.out.1.1 (by rw [HGG.out.1.1]; kernel_rfl) HGG.out.1.2; have HS5 := Lib.hid (HS2.out.keep hb5); clear hb5)
          have hrn := row_new w5 35 G
          have q1 := hrn.cell 1
          rw [HGG.out.2] at q1
          have HS6 := Lib.hid (HS5.out.keep (Go.Joins.below_alloc1 w5 (.cells G 35)))
          clear hst hrn HS5 HC
          generalize w5.alloc (.cells G 35) = w6 at *
          generalize w5.heap.size = g5 at *
          go_wp2_with fail
          go_roundw
          case rel => exact ⟨p + 1, by omega, by omega, by go_num, HS6⟩
          case measure => simp [intOf]; omega
        · have i1 : ¬ (p : Int) ≤ (n : Int) + 1 := by omega
          go_wp2_with fail
          go_ret
          exact ⟨rfl, HS2.out.hb⟩
end Go.Proofs.YtpmegpmiijhehaaGreatDoor
