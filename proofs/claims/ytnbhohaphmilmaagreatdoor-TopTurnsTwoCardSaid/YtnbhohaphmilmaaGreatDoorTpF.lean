/- The walk of space.Reclaim: pages leave their frames. The walk of kernel.Step: a process has its turn, which may turn the memory. The walk of kernel.Regs. -/
import Derived.Test.YtnbhohaphmilmaaGreatDoorAlE
import Derived.Test.YtnbhohaphmilmaaGreatDoorKerSu
namespace Go.Proofs.YtnbhohaphmilmaaGreatDoor
open Go.RowKit Go.Maps
set_option linter.unusedVariables false
set_option linter.unusedSimpArgs false
theorem MS.off (m : MS) (g : Nat) (x : Bool) : { m with d := fup m.d g (m.d g), u := fup m.u g (m.u g), h := fup m.h g x } = { m with h := fup m.h g x } := by
  rw [fup_id m.d g _ rfl, fup_id m.u g _ rfl]
section
variable {w w' : World} {M so : Nat} {fr sl : Int} {m : MS}
set_option maxRecDepth 100000 in
set_option maxHeartbeats 1000000 in
theorem reclaim_is (hQ : CpuLaw.MemQ M so fr sl m w) {n : Int} (h0 : 0 ≤ n) (h1 : n ≤ 1000) : Calls Tryz.prog 19 #[.pointer (some ⟨M, 0, none⟩), .int .i64 n] w fun e w' => (∃ v, e = .returned (.int .i64 v)) ∧ CpuLaw.MemQ M so fr sl m w' ∧ Upd (CpuLaw.memS M m) w w' := by
  have HQ := Lib.hid hQ
  clear hQ
  go_enter Tryz.func19, Tryz.ntmps19
  go_wp2_with fail
  go_loopw [5] (fun kv wr => ∃ k : Nat, (k : Int) ≤ n ∧ kv = .int .i64 k ∧ Hid (CpuLaw.MemQ M so fr sl m wr) ∧ Hid (Upd (CpuLaw.memS M m) w wr)) (fun kv _ => (n - intOf kv).toNat)
  case atStart => exact ⟨0, by omega, rfl, HQ, Lib.hid (Upd.refl _ _)⟩
  case round =>
    obtain ⟨k, hk0, rfl, HR, HU⟩ := hrel
    obtain ⟨h', hm⟩ := HR.out
    obtain ⟨p, cap, hpv, hlc, hcm, hcell⟩ := hm.cells
    have m1 := hm.m1
    have hlc : m.pl.length ≤ cap := hlc
    have m3 : wr.cell? ⟨M, 3, none⟩ = some (.slice p m.pl.length cap) := hm.m3.trans (congrArg some hpv)
    have hcl : m.pl.countP h' ≤ m.pl.length := List.countP_le_length
    have HMR := Lib.hid hm
    have HHE : Hid (∀ nq, Calls Tryz.prog 51 #[.pointer (some ⟨M, 0, none⟩)] (wr.drewN nq) fun e w' => e = .returned (.int .i64 (m.pl.countP h' : Nat)) ∧ w' = wr.drewN nq) := Lib.hid (fun nq => (hereG_is (hm.keep (below_drewN (Below.refl _ _) nq))).mono (fun e w' ⟨h1, h2⟩ => ⟨h1, h2.symm⟩))
    have HDR : Hid (∀ nq, Hid (CpuLaw.MemQ M so fr sl m (wr.drewN nq)) ∧ Hid (Upd (CpuLaw.memS M m) w (wr.drewN nq))) := Lib.hid fun nq => ⟨Lib.hid ⟨h', hm.keep (below_drewN (Below.refl _ _) nq)⟩, Lib.hid (HU.out.trans (Upd.drewN _ _))⟩
    have HOL : Hid (0 < m.pl.countP h' → ∀ w1, Below wr.heap.size wr w1 → Calls Tryz.prog 52 #[.pointer (some ⟨M, 0, none⟩)] w1 fun e w' => ∃ g, e = .returned (.pointer (some ⟨g, 0, none⟩)) ∧ (∃ v, w'.cell? ⟨g, 17, none⟩ = some v) ∧ w'.frozen? ⟨g, 17, none⟩ = false ∧ Hid (CpuLaw.MemQ M so fr sl m (w'.setCell ⟨g, 17, none⟩ (.bool false))) ∧ Hid (Upd (CpuLaw.memS M m) w (w'.setCell ⟨g, 17, none⟩ (.bool false)))) := Lib.hid fun hc w1 hb1 => (oldest_is (hm.keep hb1) hc).mono fun e w' ⟨g, e1, hg, hh, hb⟩ => by
      have hg : g ∈ m.pl := hg
      have h2 := (hm.keep hb1).keep hb
      have hp := h2.pg g hg
      refine ⟨g, e1, ⟨_, hp.hr⟩, hp.fz 17, Lib.hid ⟨fup h' g false, ?_⟩, Lib.hid (((HU.out.trans (Upd.below hb1)).trans (Upd.below hb)).trans (Upd.set _ _ (.inr hg)))⟩
      have h3 := h2.page (w' := w'.setCell ⟨g, 17, none⟩ (.bool false)) hg (Upd.set _ _ rfl) (hp.here false)
      rwa [MS.off] at h3
    clear hm hcell HR
    obtain ⟨c, hc⟩ : ∃ c, c = m.pl.countP h' := ⟨_, rfl⟩
    obtain ⟨L, hL⟩ : ∃ L, L = m.pl.length := ⟨_, rfl⟩
    rw [← hc] at HHE HOL hcl
    rw [← hL] at m3 hcl hlc
    have y1 : IntKind.i64.wrap ((L : Int) - c) = L - c := IntWalk.i64_in _ (by unfold maxLen at hcm; omega)
    have y2 : IntKind.i64.wrap ((k : Int) + 1) = k + 1 := IntWalk.i64_in _ (by omega)
    clear hpv hlc hcm hc hL hcl
    by_cases hk : (k : Int) < n
    · have d1 : decide ((k : Int) < n) = true := decide_eq_true hk
      by_cases hc0 : 0 < c
      · have d2 : decide ((0 : Int) < (c : Int)) = true := decide_eq_true (by omega)
        have d2' : (0 : Int) < (c : Int) := by omega
        have HO2 := Lib.hid (HOL.out hc0)
        by_cases hs : (L : Int) - c < sl
        · have d3 : decide ((L : Int) - c < sl) = true := decide_eq_true hs
          go_wp2_with fail
          go_quiet (first | (go_at_call 51; refine Calls.quiet_of_same (HHE.out _)))
          go_wp2_with (go_at_call 52; refine (HO2.out _ (below_drewN (Below.refl _ _) _)).mono ?_; rintro e4 w4 ⟨g, rfl, ⟨v4, c4⟩, f4, HQ4, HU4⟩)
          go_roundw
          case rel => exact ⟨k + 1, by push_cast; omega, by go_num, HQ4, HU4⟩
          case measure => simp [intOf]; omega
        · have d3 : decide ((L : Int) - c < sl) = false := decide_eq_false hs
          go_wp2_with fail
          go_quiet (first | (go_at_call 51; refine Calls.quiet_of_same (HHE.out _)))
          go_wp2_with fail
          go_ret
          exact ⟨⟨_, rfl⟩, (HDR.out _).1.out, (HDR.out _).2.out⟩
      · have d2 : decide ((0 : Int) < (c : Int)) = false := decide_eq_false (by omega)
        go_wp2_with fail
        go_quiet (first | (go_at_call 51; refine Calls.quiet_of_same (HHE.out _)))
        go_wp2_with fail
        go_ret
        exact ⟨⟨_, rfl⟩, (HDR.out _).1.out, (HDR.out _).2.out⟩
    · have d1 : decide ((k : Int) < n) = false := decide_eq_false hk
      go_wp2_with fail
      go_quiet (first | (go_at_call 51; refine Calls.quiet_of_same (HHE.out _)))
      go_wp2_with fail
      go_ret
      exact ⟨⟨_, rfl⟩, (HDR.out _).1.out, (HDR.out _).2.out⟩
end
end Go.Proofs.YtnbhohaphmilmaaGreatDoor
namespace Go.Proofs.YtnbhohaphmilmaaGreatDoor
open Go.RowKit
set_option linter.unusedVariables false
set_option linter.unusedSimpArgs false
/-- a memory of the same blocks -/
structure SameB (m m' : MS) : Prop where
  pl : m'.pl = m.pl
  S : m'.S = m.S
  pv : m'.pv = m.pv
theorem SameB.blk {M so : Nat} {m m' : MS} (h : SameB m m') {h' : Nat → Bool} {j : Nat} (e : mB M so { m' with h := h' } j) : mB M so m j := by
  have e : mB M so m' j := e
  unfold mB at e ⊢
  rw [h.pl, h.S, h.pv] at e
  exact e
theorem CpuLaw.calmX {M so : Nat} {fr sl : Int} {m m' : MS} {w : World} (h : CpuLaw.MemQ M so fr sl m w) (he : SameB m m') : CpuLaw.CalmQ (CpuLaw.MemQ M so fr sl m') (CpuLaw.memS M m) w.heap.size := by
  obtain ⟨h0, hm⟩ := h
  refine ⟨fun w1 w2 ⟨h', q⟩ hb => ⟨h', q.keep hb⟩, fun w1 w2 dd ⟨h', q⟩ hd ho => ⟨h', q.upd ho.toUpd fun k hk e => ?_⟩, fun k hk => ?_⟩
  · have h1 : mB M so m k := he.blk hk
    have := hm.lt (k := k) h1
    have e : k = dd := e
    omega
  · rcases hk with q | q
    · exact hm.lt (.inl q)
    · exact hm.lt (.inr (.inr (.inr (.inr q))))
/-- a process that may have its turn -/
structure TurnA (s : KSt) (p : Nat) (g : CpuLaw.G) (s1 : Int) : Prop where
  aw : Awake s p
  rg : RegsAt s.c (8 + p * 38 + 1) g
  sp : s.c (8 + p * 38) = .int .i64 s1
section
variable {w w0 : World} {k : KC} {s : KSt} {p : Nat}
attribute [local go_sem ↓] ld_rg st_rg st_tr
set_option maxRecDepth 100000 in
set_option maxHeartbeats 2000000 in
theorem kstep_any (h : KT w k s) {c i : Nat} {x : Tk} (hc : c < s.nc) (ho : onG s.l c = some i) (hx : s.l[i]? = some x) (hxp : x.t = p) {g g' : CpuLaw.G} {s1 : Int} {m' : MS} (ht : TurnA s p g s1) (hme : SameB s.m m') (hcs : ∀ wx, CpuLaw.MemQ k.M k.so s.fr s.sl s.m wx → Calls Tryz.prog 45 #[.agg (CpuLaw.cellsA g), CpuLaw.kbus k.M s1] wx fun e w' => e = .returned (.tuple #[.agg (CpuLaw.cellsA g'), .agg #[.int .i64 0, .int .u32 0]]) ∧ Upd (CpuLaw.memS k.M s.m) wx w' ∧ CpuLaw.MemQ k.M k.so s.fr s.sl m' w') :
    Calls Tryz.prog 16 #[.pointer (some ⟨k.K, 0, none⟩), .int .i64 c] w fun e w' => e = .returned (.tuple #[.int .i64 p, .agg #[.int .i64 0, .int .u32 0]]) ∧ ∃ h' tag', KG s k w w' { s with c := putRg s.c (8 + p * 38 + 1) g', m := { m' with h := h' }, tag := tag' } := by
  have hal := Go.Joins.below_alloc1 w (.cells #[.int .i64 0, .int .u32 0] 64)
  have hk := h.keep hal
  have q4 : (w.alloc (.cells #[.int .i64 0, .int .u32 0] 64)).cell? ⟨k.K, 4, none⟩ = some (.pointer (some ⟨k.R, 0, none⟩)) := by rw [hk.kr.cell (by decide), hk.c4]
  have HP := Lib.hid (pick_yes hk.ru hc ho hx)
  rw [hxp] at HP
  have HH := Lib.hid (handledP_is hk ht.aw)
  have HS := Lib.hid (row_new w 64 #[.int .i64 0, .int .u32 0])
  have HB := Lib.hid hal
  have HK := Lib.hid hk
  have HT := Lib.hid ht
  have HCS := Lib.hid hcs
  have HME := Lib.hid hme
  have HZ : Hid (∀ j, w.heap.size ≤ j → s.tag j = 0) := Lib.hid h.tz
  have HK0 := Lib.hid h
  have p17 : (p : Int) < 17 := by have := ht.aw.p16; omega
  clear h hk hal ho hc hx hxp ht hcs hme
  go_enter Tryz.func16, Tryz.ntmps16
  go_upto_region 1 with fail
  obtain ⟨n, hn⟩ : ∃ n, n = w.heap.size := ⟨_, rfl⟩
  rw [← hn] at HS ⊢
  have HN : Hid (w.heap.size ≤ n) := Lib.hid (by omega)
  clear hn
  generalize w.alloc (.cells #[.int .i64 0, .int .u32 0] 64) = W0 at *
  go_upto_region 7 with (first | (go_at_call 43; refine HP.out.mono ?_; rintro e1 w1 ⟨rfl, rfl⟩) | (go_at_call 44; refine HH.out.mono ?_; rintro e2 w2 ⟨rfl, hb2⟩))
  have HK2 := Lib.hid (HK.out.keep hb2)
  have HS2 := Lib.hid (HS.out.keep hb2)
  have HB2 := Lib.hid (HB.out.trans (hb2.mono HB.out.size))
  clear HK HS HB hb2 HP HH q4
  have HQ2 : Hid (CpuLaw.MemQ k.M k.so s.fr s.sl s.m w2) := Lib.hid ⟨s.m.h, HK2.out.me⟩
  have HL : Hid (∀ wx, Upd (CpuLaw.memS k.M s.m) w2 wx → wx.cell? ⟨k.K, 1, none⟩ = some (.pointer (some ⟨k.M, 0, none⟩)) ∧ wx.cell? ⟨k.K, 8 + p * 38, none⟩ = some (.int .i64 s1) ∧ (ldR 36 (.pointer (some ⟨k.K, 8 + p * 38 + 1, none⟩))).run Tryz.prog wx = .ok (.agg (CpuLaw.cellsA g)) wx) := Lib.hid fun wx hu => by
    have hkr : KR wx k.K s.c := HK2.out.kr.upd hu (fun e => by
      rcases e with e | e
      · have a := HK2.out.tK; rw [e, HK2.out.tM k.M (.inl rfl)] at a; cases a
      · have a := HK2.out.tK; rw [HK2.out.tM k.K (.inr (.inr (.inr (.inr e))))] at a; cases a)
    have p16 := HT.out.aw.p16
    refine ⟨by rw [hkr.cell (by decide), HK2.out.c1], by rw [hkr.cell (by omega), HT.out.sp], ?_⟩
    rw [Row.ld hkr (o := 8 + p * 38 + 1) (n := 10) (by rw [kerA_size]; omega) Tryz.underlying36 rfl (by kernel_rfl), regs_ext (by omega) HT.out.rg]
  have HST : Hid (∀ wx, CpuLaw.MemQ k.M k.so s.fr s.sl s.m wx → Calls Tryz.prog 45 #[.agg (CpuLaw.cellsA g), CpuLaw.kbus k.M s1] wx fun e w' => e = .returned (.tuple #[.agg (CpuLaw.cellsA g'), .agg #[.int .i64 0, .int .u32 0]]) ∧ Upd (CpuLaw.memS k.M s.m) wx w' ∧ CpuLaw.MemQ k.M k.so s.fr s.sl m' w') := Lib.hid HCS.out
  have HCX := Lib.hid (CpuLaw.calmX HQ2.out HME.out)
  have HG3 : Hid (RgA (CpuLaw.cellsA g')) := Lib.hid ⟨rfl, CpuLaw.cellsA_one _⟩
  have HPR : Hid (∀ o, putRg s.c o g' = fun j => if o ≤ j ∧ j < o + 10 then ((CpuLaw.cellsA g')[j - o]?).getD undef else s.c j) := Lib.hid fun o => rfl
  generalize CpuLaw.cellsA g' = G3 at *
  obtain ⟨Q, hQd⟩ : ∃ Q, Q = CpuLaw.MemQ k.M k.so s.fr s.sl s.m := ⟨_, rfl⟩
  obtain ⟨Q', hQd'⟩ : ∃ Q', Q' = CpuLaw.MemQ k.M k.so s.fr s.sl m' := ⟨_, rfl⟩
  obtain ⟨S0, hSd⟩ : ∃ S0, S0 = CpuLaw.memS k.M s.m := ⟨_, rfl⟩
  have HQK : Hid (∀ w w', Q w → Below w.heap.size w w' → Q w') := Lib.hid (by rw [hQd]; exact (CpuLaw.calmK HQ2.out).keep)
  have HQO : Hid (∀ w w' d, Q w → w2.heap.size ≤ d → CpuLaw.Off d w w' → Q w') := Lib.hid (by rw [hQd]; exact (CpuLaw.calmK HQ2.out).own)
  have HQK' : Hid (∀ w w', Q' w → Below w.heap.size w w' → Q' w') := Lib.hid (by rw [hQd']; exact HCX.out.keep)
  have HQO' : Hid (∀ w w' d, Q' w → w2.heap.size ≤ d → CpuLaw.Off d w w' → Q' w') := Lib.hid (by rw [hQd']; exact HCX.out.own)
  have HS0L : Hid (∀ k, S0 k → k < w2.heap.size) := Lib.hid (by rw [hSd]; exact (CpuLaw.calmK HQ2.out).low)
  rw [← hQd] at HQ2 HST
  rw [← hQd'] at HST
  clear HCX HCS
  rw [← hSd] at HL HST
  have HQD := Lib.hid hQd'
  have HSD := Lib.hid hSd
  clear hQd hQd' hSd
  have HSA : Hid (∀ wx, Upd S0 w2 wx → (Upd S0 w2 wx ∧ wx.cell? ⟨k.K, 1, none⟩ = some (.pointer (some ⟨k.M, 0, none⟩)) ∧ wx.cell? ⟨k.K, 8 + p * 38, none⟩ = some (.int .i64 s1) ∧ (ldR 36 (.pointer (some ⟨k.K, 8 + p * 38 + 1, none⟩))).run Tryz.prog wx = .ok (.agg (CpuLaw.cellsA g)) wx)) := Lib.hid fun wx hu => ⟨hu, HL.out wx hu⟩
  have HDr : Hid (∀ wx n, (Upd S0 w2 wx ∧ wx.cell? ⟨k.K, 1, none⟩ = some (.pointer (some ⟨k.M, 0, none⟩)) ∧ wx.cell? ⟨k.K, 8 + p * 38, none⟩ = some (.int .i64 s1) ∧ (ldR 36 (.pointer (some ⟨k.K, 8 + p * 38 + 1, none⟩))).run Tryz.prog wx = .ok (.agg (CpuLaw.cellsA g)) wx) → _) := Lib.hid fun wx n h => HSA.out (wx.drewN n) (h.1.trans (Upd.drewN _ _))
  have HAl : Hid (∀ wx o, (Upd S0 w2 wx ∧ wx.cell? ⟨k.K, 1, none⟩ = some (.pointer (some ⟨k.M, 0, none⟩)) ∧ wx.cell? ⟨k.K, 8 + p * 38, none⟩ = some (.int .i64 s1) ∧ (ldR 36 (.pointer (some ⟨k.K, 8 + p * 38 + 1, none⟩))).run Tryz.prog wx = .ok (.agg (CpuLaw.cellsA g)) wx) → _) := Lib.hid fun wx o h => HSA.out (wx.alloc o) (h.1.trans (Upd.alloc _ _))
  have HN0 : Hid (∀ j, w2.heap.size ≤ j → ¬ S0 j) := Lib.hid fun j hj e => by have := HS0L.out j e; omega
  have HU5 : Hid (∀ w9, Upd S0 ((w2.alloc (.cells rgZ 36)).alloc (.cells trZ 64)).drew w9 → Duo w9 w2.heap.size (w2.heap.size + 1)) := Lib.hid fun w9 hu => (Duo.two1 w2).far (W' := w9) (S := S0) ((Upd.drew _).trans hu) (HN0.out _ (Nat.le_refl _)) (HN0.out _ (Nat.le_succ _))
  have HU6 : Hid (∀ w9, Upd S0 ((w2.alloc (.cells trZ 64)).alloc (.cells rgZ 36)).drew w9 → Duo w9 (w2.heap.size + 1) w2.heap.size) := Lib.hid fun w9 hu => (Duo.two2 w2).far (W' := w9) (S := S0) ((Upd.drew _).trans hu) (HN0.out _ (Nat.le_succ _)) (HN0.out _ (Nat.le_refl _))
  have HU3 : Hid (∀ w9, Upd S0 (w2.alloc (.cells rgZ 36)).drew w9 → Duo (w9.alloc (.cells trZ 64)) w2.heap.size w9.heap.size) := Lib.hid fun w9 hu => ⟨((row_new w2 _ _).drew.upd hu (HN0.out _ (Nat.le_refl _))).alloc _, row_new _ _ _, by have := hu.size; have e : ∀ o, (w2.alloc o).drew.heap.size = w2.heap.size + 1 := fun o => size_alloc1 w2 o; rw [e] at this; omega⟩
  have HU4 : Hid (∀ w9, Upd S0 (w2.alloc (.cells trZ 64)).drew w9 → Duo (w9.alloc (.cells rgZ 36)) w9.heap.size w2.heap.size) := Lib.hid fun w9 hu => ⟨row_new _ _ _, ((row_new w2 _ _).drew.upd hu (HN0.out _ (Nat.le_refl _))).alloc _, by have := hu.size; have e : ∀ o, (w2.alloc o).drew.heap.size = w2.heap.size + 1 := fun o => size_alloc1 w2 o; rw [e] at this; omega⟩
  have HD5 : Hid (∀ w9, Upd S0 ((w2.alloc (.cells rgZ 36)).alloc (.cells trZ 64)).drew w9 → _) := Lib.hid fun w9 hu => (HU5.out w9 hu).eqs HG3.out
  have HD6 : Hid (∀ w9, Upd S0 ((w2.alloc (.cells trZ 64)).alloc (.cells rgZ 36)).drew w9 → _) := Lib.hid fun w9 hu => (HU6.out w9 hu).eqs HG3.out
  have HD3 : Hid (∀ w9, Upd S0 (w2.alloc (.cells rgZ 36)).drew w9 → _) := Lib.hid fun w9 hu => (HU3.out w9 hu).eqs HG3.out
  have HD4 : Hid (∀ w9, Upd S0 (w2.alloc (.cells trZ 64)).drew w9 → _) := Lib.hid fun w9 hu => (HU4.out w9 hu).eqs HG3.out
  have D1 := fun wx => ((Duo.two1 wx).eqs HG3.out).1
  have D2 := fun wx => ((Duo.two1 wx).eqs HG3.out).2.1
  have D3 := fun wx => ((Duo.two1 wx).eqs HG3.out).2.2.1
  have D4 := fun wx => ((Duo.two1 wx).eqs HG3.out).2.2.2
  have D5 := fun wx => ((Duo.two2 wx).eqs HG3.out).1
  have D6 := fun wx => ((Duo.two2 wx).eqs HG3.out).2.1
  have D7 := fun wx => ((Duo.two2 wx).eqs HG3.out).2.2.1
  have D8 := fun wx => ((Duo.two2 wx).eqs HG3.out).2.2.2
  simp only [rgZ, trZ] at D1 D2 D3 D4 D5 D6 D7 D8 HD3 HD4 HD5 HD6 HU3 HU4 HU5 HU6
  have HRw : Hid (∀ wx b C, (w2.heap.size ≤ b) → (Upd S0 w2 wx ∧ wx.cell? ⟨k.K, 1, none⟩ = some (.pointer (some ⟨k.M, 0, none⟩)) ∧ wx.cell? ⟨k.K, 8 + p * 38, none⟩ = some (.int .i64 s1) ∧ (ldR 36 (.pointer (some ⟨k.K, 8 + p * 38 + 1, none⟩))).run Tryz.prog wx = .ok (.agg (CpuLaw.cellsA g)) wx) → _) := Lib.hid fun wx b C hb h => HSA.out (wx.setRow b C) (CpuLaw.Off.upd h.1 (CpuLaw.Off.setRow wx b C) hb)
  have HD0 := Lib.hid (HSA.out w2.drew (Upd.drew _))
  have HDA := Lib.hid (fun o => HSA.out (w2.alloc o).drew ((Upd.alloc _ _).trans (Upd.drew _)))
  have HDB := Lib.hid (fun o o' => HSA.out ((w2.alloc o).alloc o').drew (((Upd.alloc _ _).trans (Upd.alloc _ _)).trans (Upd.drew _)))
  have HP0 : Hid (Q w2.drew) := Lib.hid (HQK.out _ _ HQ2.out (Below.refl _ _).drew)
  have HPA : Hid (∀ o, Q (w2.alloc o).drew) := Lib.hid (fun o => HQK.out _ _ (HQK.out _ _ HQ2.out (Go.Joins.below_alloc1 _ _)) (Below.refl _ _).drew)
  have HPB : Hid (∀ o o', Q ((w2.alloc o).alloc o').drew) := Lib.hid (fun o o' => HQK.out _ _ (HQK.out _ _ (HQK.out _ _ HQ2.out (Go.Joins.below_alloc1 _ _)) (Go.Joins.below_alloc1 _ _)) (Below.refl _ _).drew)
  have HZA : Hid (∀ wx o, Q' wx → Q' (wx.alloc o)) := Lib.hid fun wx o h => HQK'.out _ _ h (Go.Joins.below_alloc1 _ _)
  have HZD : Hid (∀ wx n, Q' wx → Q' (wx.drewN n)) := Lib.hid fun wx n h => HQK'.out _ _ h (below_drewN (Below.refl _ _) n)
  have HZE : Hid (∀ wx, Q' wx → Q' wx.drew) := Lib.hid fun wx h => HQK'.out _ _ h (Below.refl _ _).drew
  have HZR : Hid (∀ wx b C, w2.heap.size ≤ b → Q' wx → Q' (wx.setRow b C)) := Lib.hid fun wx b C hb h => HQO'.out _ _ b h hb (CpuLaw.Off.setRow wx b C)
  go_cut [9, 10] (fun a9 a10 wx => ∃ b9 b10, a9 = .pointer (some ⟨b9, 0, none⟩) ∧ a10 = .pointer (some ⟨b10, 0, none⟩) ∧ w2.heap.size ≤ b9 ∧ w2.heap.size ≤ b10 ∧ b9 ≠ b10 ∧ Row wx b9 36 G3 ∧ Row wx b10 64 #[.int .i64 0, .int .u32 0] ∧ Upd S0 w2 wx ∧ Q' wx)
  case first =>
    go_region_held3 (fun wx => Upd S0 w2 wx ∧ wx.cell? ⟨k.K, 1, none⟩ = some (.pointer (some ⟨k.M, 0, none⟩)) ∧ wx.cell? ⟨k.K, 8 + p * 38, none⟩ = some (.int .i64 s1) ∧ (ldR 36 (.pointer (some ⟨k.K, 8 + p * 38 + 1, none⟩))).run Tryz.prog wx = .ok (.agg (CpuLaw.cellsA g)) wx)
      (first | assumption | (with_reducible exact HD0.out) | (with_reducible exact HDA.out _) | (with_reducible exact HDB.out _ _) | (with_reducible exact HDr.out _ _ ‹_›) | (with_reducible exact HAl.out _ _ ‹_›) | (with_reducible refine HRw.out _ _ _ ?_ ‹_›; first | exact Nat.le_refl _ | exact Nat.le_succ _ | assumption | (exact Nat.le_succ_of_le ‹_›)) | go_keep)
      (first | (go_at_call 45; refine (HST.out _ (by first | exact HP0.out | exact HPA.out _ | exact HPB.out _ _)).mono ?_; rintro e9 w9 ⟨rfl, hu9, hq9⟩; have hS := HSA.out w9 ((‹Upd S0 w2 _ ∧ _ ∧ _›).1.trans hu9); have hz9 : w2.heap.size ≤ w9.heap.size := hS.1.size; first | (have hD := HU5.out w9 hu9; have f1 := (HD5.out w9 hu9).1; have f2 := (HD5.out w9 hu9).2.1; have f3 := (HD5.out w9 hu9).2.2.1; have f4 := (HD5.out w9 hu9).2.2.2) | (have hD := HU6.out w9 hu9; have f1 := (HD6.out w9 hu9).1; have f2 := (HD6.out w9 hu9).2.1; have f3 := (HD6.out w9 hu9).2.2.1; have f4 := (HD6.out w9 hu9).2.2.2) | (have hD := HU3.out w9 hu9; have f1 := (HD3.out w9 hu9).1; have f2 := (HD3.out w9 hu9).2.1; have f3 := (HD3.out w9 hu9).2.2.1; have f4 := (HD3.out w9 hu9).2.2.2) | (have hD := HU4.out w9 hu9; have f1 := (HD4.out w9 hu9).1; have f2 := (HD4.out w9 hu9).2.1; have f3 := (HD4.out w9 hu9).2.2.1; have f4 := (HD4.out w9 hu9).2.2.2) | skip))
    all_goals go_wp2
    all_goals go_meet
    all_goals have hF := (‹Upd S0 w2 _ ∧ _ ∧ _›)
    all_goals first
      | exact ⟨_, _, rfl, rfl, hz9, Nat.le_succ_of_le hz9, by omega, (Duo.two1 w9).fin _ _ |>.1, (Duo.two1 w9).fin _ _ |>.2, hF.1, by repeat (first | exact hq9 | exact hz9 | exact Nat.le_refl _ | exact Nat.le_succ _ | exact Nat.le_succ_of_le hz9 | (with_reducible refine HZR.out _ _ _ ?_ ?_) | (with_reducible refine HZA.out _ _ ?_) | (with_reducible refine HZD.out _ _ ?_) | (with_reducible refine HZE.out _ ?_))⟩
      | exact ⟨_, _, rfl, rfl, Nat.le_succ_of_le hz9, hz9, by omega, (Duo.two2 w9).fin _ _ |>.1, (Duo.two2 w9).fin _ _ |>.2, hF.1, by repeat (first | exact hq9 | exact hz9 | exact Nat.le_refl _ | exact Nat.le_succ _ | exact Nat.le_succ_of_le hz9 | (with_reducible refine HZR.out _ _ _ ?_ ?_) | (with_reducible refine HZA.out _ _ ?_) | (with_reducible refine HZD.out _ _ ?_) | (with_reducible refine HZE.out _ ?_))⟩
      | exact ⟨_, _, rfl, rfl, Nat.le_refl _, hz9, hD.ne, (hD.fin _ _).1, (hD.fin _ _).2, hF.1, by repeat (first | exact hq9 | exact hz9 | exact Nat.le_refl _ | exact Nat.le_succ _ | exact Nat.le_succ_of_le hz9 | (with_reducible refine HZR.out _ _ _ ?_ ?_) | (with_reducible refine HZA.out _ _ ?_) | (with_reducible refine HZD.out _ _ ?_) | (with_reducible refine HZE.out _ ?_))⟩
      | exact ⟨_, _, rfl, rfl, hz9, Nat.le_refl _, hD.ne, (hD.fin _ _).1, (hD.fin _ _).2, hF.1, by repeat (first | exact hq9 | exact hz9 | exact Nat.le_refl _ | exact Nat.le_succ _ | exact Nat.le_succ_of_le hz9 | (with_reducible refine HZR.out _ _ _ ?_ ?_) | (with_reducible refine HZA.out _ _ ?_) | (with_reducible refine HZD.out _ _ ?_) | (with_reducible refine HZE.out _ ?_))⟩
      | exact ⟨_, _, rfl, rfl, Nat.le_refl _, Nat.le_succ _, hD.ne, (hD.fin _ _).1, (hD.fin _ _).2, hF.1, by repeat (first | exact hq9 | exact hz9 | exact Nat.le_refl _ | exact Nat.le_succ _ | exact Nat.le_succ_of_le hz9 | (with_reducible refine HZR.out _ _ _ ?_ ?_) | (with_reducible refine HZA.out _ _ ?_) | (with_reducible refine HZD.out _ _ ?_) | (with_reducible refine HZE.out _ ?_))⟩
      | exact ⟨_, _, rfl, rfl, Nat.le_succ _, Nat.le_refl _, hD.ne, (hD.fin _ _).1, (hD.fin _ _).2, hF.1, by repeat (first | exact hq9 | exact hz9 | exact Nat.le_refl _ | exact Nat.le_succ _ | exact Nat.le_succ_of_le hz9 | (with_reducible refine HZR.out _ _ _ ?_ ?_) | (with_reducible refine HZA.out _ _ ?_) | (with_reducible refine HZD.out _ _ ?_) | (with_reducible refine HZE.out _ ?_))⟩
  case rest =>
    obtain ⟨b9, b10, rfl, rfl, hb9, hb10, hbn, hr9, hr10, hu, hq⟩ := hcut
    have hS0n : ∀ j, S0 j → s.tag j = 6 := fun j e => by
      rw [HSD.out] at e
      rcases e with e | e
      · rw [e]; exact HK2.out.tM _ (.inl rfl)
      · exact HK2.out.tM _ (.inr (.inr (.inr (.inr e))))
    have hnS : ∀ j, s.tag j ≠ 6 → ¬ S0 j := fun j hj e => hj (hS0n j e)
    have hkr : KR wc k.K s.c := HK2.out.kr.upd hu (hnS _ (by rw [HK2.out.tK]; decide))
    have hsl := HS2.out.upd hu (hnS _ (by rw [HZ.out n HN.out]; decide))
    have l9 := hr9.ld0 Tryz.underlying36 rfl (by rw [HG3.out.1]; kernel_rfl)
    have d0 : wc.cell? ⟨b10, 0, none⟩ = some (.int .i64 0) := hr10.cell 0
    have st9 := Row.st hkr (o := 8 + p * 38 + 1) (U := 36) (cs := G3) (by rw [kerA_size, HG3.out.1]; have := HT.out.aw.p16; omega) (by rw [HG3.out.1]; kernel_rfl) HG3.out.2
    have hkr2 := hkr.putN (o := 8 + p * 38 + 1) (n := 10) (by have := HT.out.aw.p16; omega) HG3.out.1
    have hKb : k.K ≠ b10 := fun e => by have := HK2.out.kr.lt; omega
    have hKn : k.K ≠ n := fun e => by have := HK0.out.kr.lt; have := HN.out; omega
    have hr10b := hr10.setRowO hKb (putA (kerA s.c) (8 + p * 38 + 1) G3.toList)
    have hslb := hsl.setRowO hKn (putA (kerA s.c) (8 + p * 38 + 1) G3.toList)
    have HUK : Hid (Upd (fun j => j = k.K) wc (wc.setRow k.K (putA (kerA s.c) (8 + p * 38 + 1) G3.toList))) := Lib.hid (Upd.setRow _ _ rfl)
    have HKR2 := Lib.hid hkr2
    have HUC := Lib.hid hu
    have HQC := Lib.hid hq
    have HSL := Lib.hid hslb
    have HR10 := Lib.hid hr10b
    have HSN := Lib.hid hnS
    have HS6 := Lib.hid hS0n
    clear hr9 hr10 hu hq hS0n hnS hkr hsl hkr2 hKb hr10b hslb hb9 hb10 hbn D1 D2 D3 D4 D5 D6 D7 D8
    go_upto_region 19 with fail
    generalize wc.setRow k.K (putA (kerA s.c) (8 + p * 38 + 1) G3.toList) = W5 at *
    clear l9 st9 d0
    have d0 := HR10.out.drew.cell 0
    have d1 := HR10.out.drew.cell 1
    have stn := HSL.out.drew.st0 (cs := #[.int .i64 0, .int .u32 0]) rfl (by kernel_rfl) (by kernel_rfl)
    go_region
    go_wp2_with fail
    have hrn := HSL.out.drew.setRow #[.int .i64 0, .int .u32 0]
    have e0 := hrn.cell 0
    have e1 := hrn.cell 1
    have q0 := HQC.out
    rw [HQD.out] at q0
    obtain ⟨h', hm⟩ := q0
    have hum : Upd (mB k.M k.so s.m) w2 wc := HUC.out.mono fun j _ e => by
      rw [HSD.out] at e
      rcases e with e | e
      · exact .inl e
      · exact .inr (.inr (.inr (.inr e)))
    have k2 := (HK0.out.start).keep HB2.out
    have k3 := k2.step (HK2.out.mem hm hum (fun j e => .inl (HME.out.blk e))) hum (fun j e => by rw [HK2.out.tM j e]; decide) (fun j e => by
      rcases Nat.lt_or_ge j w2.heap.size with q | q
      · have e : tg s.tag w2.heap.size (mB k.M k.so { m' with h := h' }) 6 j ≠ 0 := e
        rw [tg_old q] at e; exact .inl e
      · exact .inr q)
    have hcells := k3.kt.cells (c' := putRg s.c (8 + p * 38 + 1) g') (cw' := s.cw) (tag' := tg s.tag w2.heap.size (mB k.M k.so { m' with h := h' }) 6) (by rw [HPR.out]; exact HKR2.out) HUK.out (fun j hj => by unfold putRg; rw [if_neg (by omega)]) (fun _ _ => rfl) (fun j hj => k3.kt.tz j (Nat.le_trans HUK.out.size hj)) (fun p' b' hb' => by
      obtain ⟨⟨cp, h1⟩, h2, h3, h4⟩ := k3.kt.cw p' b' hb'
      have hbK : b' ≠ k.K := fun e => by rw [e, k3.kt.tK] at h4; exact absurd h4 (by decide)
      exact ⟨⟨cp, by unfold putRg; rw [if_neg (by omega)]; exact h1⟩, (HUK.out.cell h3 hbK).trans h2, Nat.lt_of_lt_of_le h3 HUK.out.size, h4⟩)
    have k4 := k3.step hcells HUK.out (fun j e => by rw [e, k3.kt.tK]; decide) (fun j e => .inl e)
    have k5 := k4.keep (Below.refl _ _).drew
    have hnlt : n < w2.heap.size := by
      have := HS2.out.lt
      exact this
    have k6 := k5.own (n := n) (w2 := W5.drew.setRow n #[.int .i64 0, .int .u32 0]) (Upd.setRow _ _ rfl) HN.out (by show tg s.tag w2.heap.size _ 6 n = 0; rw [tg_old hnlt]; exact HZ.out n HN.out)
    generalize W5.drew.setRow n #[.int .i64 0, .int .u32 0] = WF at *
    exact bodyPost_ret (v := .tuple #[.int .i64 p, .agg #[.int .i64 0, .int .u32 0]]) (by simp [results, Tryz.results16, go_sem, e0, e1]) rfl ⟨rfl, _, _, k6⟩
end
end Go.Proofs.YtnbhohaphmilmaaGreatDoor
namespace Go.Proofs.YtnbhohaphmilmaaGreatDoor
open Go.RowKit
set_option linter.unusedVariables false
set_option linter.unusedSimpArgs false
section
variable {w : World} {k : KC} {s : KSt} {p : Nat}
attribute [local go_sem ↓] ld_rg st_rg
set_option maxRecDepth 100000 in
set_option maxHeartbeats 1000000 in
theorem regs_is (h : KT w k s) (h1 : 1 ≤ p) (h16 : p ≤ 16) (hl : (s.t p).st = 1) {g : CpuLaw.G} (hr : RegsAt s.c (8 + p * 38 + 1) g) : Calls Tryz.prog 9 #[.pointer (some ⟨k.K, 0, none⟩), .int .i64 p] w fun e w' => e = .returned (.tuple #[.agg (CpuLaw.cellsA g), .int .i64 0]) ∧ Below w.heap.size w w' := by
  have hal := Go.Joins.below_alloc1 w (.cells rgZ 36)
  have hk := h.keep hal
  have l1 := hk.ldreg h16 hr
  have HLV := Lib.hid (livingP_is hk h1 h16 hl)
  have rn := row_new w 36 rgZ
  have s1 := rn.st0 (cs := CpuLaw.cellsA g) rfl (by kernel_rfl) (CpuLaw.cellsA_one g)
  have HR := Lib.hid ((rn.setRow (CpuLaw.cellsA g)).ldV Tryz.underlying36 rfl (by kernel_rfl))
  have HB : Hid (Below w.heap.size w ((w.alloc (.cells rgZ 36)).setRow w.heap.size (CpuLaw.cellsA g))) := Lib.hid (hal.trans ((Upd.setRow (S := fun j => j = w.heap.size) _ _ rfl).toBelow hal.size (fun j hj e => by omega)))
  have p17 : (p : Int) < 17 := by omega
  have HG : Hid (RgA (CpuLaw.cellsA g)) := Lib.hid ⟨rfl, CpuLaw.cellsA_one g⟩
  clear h hk hal rn h1 h16 hl hr
  unfold rgZ at *
  generalize CpuLaw.cellsA g = G at *
  go_enter Tryz.func9, Tryz.ntmps9
  go_wp2_with (go_at_call 20; refine HLV.out.mono ?_; rintro e1 w1 ⟨rfl, rfl⟩)
  exact bodyPost_ret (v := .tuple #[.agg G, .int .i64 0]) (by rw [results_cell_tmp rfl]; simp [asAddr, Result.andThen, HR.out]) rfl ⟨rfl, HB.out⟩
end
end Go.Proofs.YtnbhohaphmilmaaGreatDoor
