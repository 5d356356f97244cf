/- The kernel while processes come, end and sleep: exit, sleep, the clock's tick, a processor's step. No walk here. The kernel of TopBusy at first. No walk here. Maps with int keys, by a code of their elements: as functions. The maps of package fs. -/
import Derived.Test.YtafflkemnniegaaGreatDoorBuL
import Derived.Test.YtafflkemnniegaaGreatDoorSpaceMap
import Derived.Test.YtafflkemnniegaaGreatDoorBegin
namespace Go.Proofs.YtafflkemnniegaaGreatDoor
open Go.RowKit
set_option linter.unusedVariables false
set_option linter.unusedSimpArgs false
section
variable {w : World} {k : KC} {s : KSt} {nc now r top p n : Nat} {U : Nat → Option Nat} {sp : Nat → Nat}
theorem bits0 : bits .and .i64 0 255 = 0 := by decide +kernel
/-- a process ends -/
theorem exit_bz (h : KT w k s) (hb : Bz s nc now r top U sp) (hp : U p = some n) (hn : n ≤ now) (hp1 : p ≠ 1) (hp6 : p ≤ 6) :
    Calls Tryz.prog 6 #[.pointer (some ⟨k.K, 0, none⟩), .int .i64 p, .agg (callT 1)] w fun e w' => e = .returned (.agg (ansV 0 0 0 (.slice none 0 0))) ∧ ∃ s', KG s k w w' s' ∧ Bz s' nc now (r + 1) top (fup U p none) sp := by
  have P := hb.ps p n hp
  obtain ⟨p1, ptop, -⟩ := hb.ur p n hp
  have hp17 : p < 17 := by have := P.p16; omega
  obtain ⟨b, hSb⟩ := hb.mz.S p n hp
  obtain ⟨F0, f1, f2, f3⟩ := hb.mz.F0
  obtain ⟨q, m, e1, e2, e3⟩ := P.pr hp1
  obtain ⟨n1, hn1⟩ := hb.u1
  have Q := hb.ps q m e2
  have hcnt : 2 ≤ cntU U := cntU_two hp hn1 hp1 hp17 (by decide)
  have hcnt17 : cntU U ≤ 17 := cntB_le _ 17
  obtain ⟨i, x, hi, hx, ht, hr⟩ := hb.at hp hn
  have hpar : (ProcLaw.ended s.t p (bits .and .i64 0 255) p).par = (q : Int) := by
    unfold ProcLaw.ended
    rw [ProcLaw.updE_same]
    show (ProcLaw.lost s.t p 17 p).par = q
    unfold ProcLaw.lost
    rw [if_pos hp17]
    unfold ProcLaw.orphan
    rw [if_neg (by rw [e1]; omega)]
    exact e1
  have hst : ∀ j, j ≠ p → (ProcLaw.ended s.t p (bits .and .i64 0 255) j).st = (s.t j).st := fun j hj => by
    unfold ProcLaw.ended
    rw [ProcLaw.updE_other _ _ hj]
    exact ProcLaw.lost_st _ _ _ _
  refine (ask_any h (P.aw hn) (.inl rfl) (P := fun s' e a b => e = 0 ∧ a = 0 ∧ b = 0 ∧ Bz s' nc now (r + 1) top (fup U p none) sp) (fun ok => proc_exit (a := 0) (by omega) (by omega) ok rfl rfl rfl (kexitS_is (p := p) (q := q) (i := i) (b := b) (s1 := (sp p : Nat)) (code := 0) h ⟨p1, P.p16, P.lv⟩ hp1 P.sc hSb (wf_any (by have := P.s16; omega)) (by rw [f3 _ b P.s1 hSb]; exact f1) (fun k g r' e => ?_) ?_ (fun k t hk => hb.wl.awake hp hn hk) (fun j _ => hb.fd _) hi hpar e3 Q.p1 Q.p16 (by rw [hst q e3]; exact Q.lv) Q.sg ?_))).mono ?_
  · rw [f3 _ b P.s1 hSb] at e
    obtain ⟨g1, g2⟩ := f2 k g r' e
    exact ⟨g1, by rw [g2]; omega, by rw [g2]; omega⟩
  · have h1 : s.wl.length ≤ 1000 := by
      rcases Nat.lt_or_ge 1000 s.wl.length with q' | q'
      · exfalso
        have hs := hb.wl.srt
        have hk := cnt_keys (P := fun _ => true) (key := fun t : Int × Int => t.2) (n := 17) s.wl (fun i j x y hi hj _ _ e => by
          rcases Nat.lt_trichotomy i j with c | c | c
          · have hi' := List.getElem?_eq_some_iff.1 hi
            have hj' := List.getElem?_eq_some_iff.1 hj
            have := List.pairwise_iff_getElem.1 hs i j hi'.1 hj'.1 c
            rw [hi'.2, hj'.2] at this
            exact absurd e this.2
          · exact c
          · have hi' := List.getElem?_eq_some_iff.1 hi
            have hj' := List.getElem?_eq_some_iff.1 hj
            have := List.pairwise_iff_getElem.1 hs j i hj'.1 hi'.1 c
            rw [hi'.2, hj'.2] at this
            exact absurd e.symm this.2) (fun x hx _ => by
          obtain ⟨a, c, rfl, h3, -⟩ := (hb.wl.mem x).1 hx
          have := hb.ur a c h3
          have := hb.top17
          exact ⟨by show (0 : Int) ≤ a; omega, by show (a : Int) < (17 : Nat); omega⟩)
        have := cntB_le (fun k => s.wl.any fun x => true && decide (x.2 = (k : Int))) 17
        rw [hk, List.countP_true] at this
        omega
      · exact q'
    exact h1
  · intro u' c' tag' ad' cap' hu1 hu2 hco
    refine ⟨rfl, rfl, rfl, ⟨hb.cp, (hco 0 (by omega)).trans hb.c0, (hco 654 (by omega)).trans hb.c9, hb.wn0, hb.wn1, hb.tk0, hb.tk1, hb.fr, ?_, ?_, hb.vok.leave _ _, ?_, hb.wl.other (fun j e => by rw [hp] at e; injection e with e; omega) (fun j e => by cases e), by have := hb.wll; show s.wl.length ≤ r + 1; omega, ⟨n1, by rw [fup_off _ _ (Ne.symm hp1)]; exact hn1⟩, fun q' j hq => ?_, fun q' a1 a2 a3 => ?_, hb.top17, fun q' a1 a2 => ?_, fun q' a1 => ?_, fun q' j hq => ?_, fun q' hq => ?_, hb.fd, hb.fs, (hb.mz.dropped hp hp17 hSb hu1).more⟩⟩
    · show Full nc (leaveL s.l i s.nc)
      rw [hb.cp]
      exact (leave_full hb.full.toPre hb.lm hi).1
    · show LM (leaveL s.l i s.nc) _
      rw [hb.cp, rdy_del]
      exact (leave_full hb.full.toPre hb.lm hi).2
    · show (leaveL s.l i s.nc).length ≤ r + 1 + 1
      unfold leaveL
      rw [fillG_len, List.length_eraseIdx]
      have := hb.ll
      split <;> omega
    · by_cases e : q' = p
      · subst e; rw [fup_same] at hq; cases hq
      · rw [fup_off _ _ e] at hq; exact hb.ur q' j hq
    · by_cases e : q' = p
      · subst e; omega
      · rw [fup_off _ _ e] at a3; exact hb.dead q' a1 a2 a3
    · show (ProcLaw.ended s.t p (bits .and .i64 0 255) q').st ≠ 0
      by_cases e : q' = p
      · subst e
        unfold ProcLaw.ended
        rw [ProcLaw.updE_same]
        exact (by decide : (2 : Int) ≠ 0)
      · rw [hst q' e]; exact hb.t1 q' a1 a2
    · show (ProcLaw.ended s.t p (bits .and .i64 0 255) q').st = 0
      rw [hst q' (by omega)]
      exact hb.t0 q' a1
    · have e : q' ≠ p := fun e => by rw [e, fup_same] at hq; cases hq
      rw [fup_off _ _ e] at hq
      have Q' := hb.ps q' j hq
      refine Q'.move (fun a ha => hco _ (by omega)) ((hco _ (by omega)).trans Q'.sl) (if_neg e) (by show (ProcLaw.ended s.t p (bits .and .i64 0 255) q').st = 1; rw [hst q' e]; exact Q'.lv) (fun q1 => ?_)
      obtain ⟨a, m', a1, a2, a3⟩ := Q'.pr q1
      have hpr : (ProcLaw.ended s.t p (bits .and .i64 0 255) q').par = (ProcLaw.orphan p (s.t q')).par := by
        unfold ProcLaw.ended
        rw [ProcLaw.updE_other _ _ e]
        unfold ProcLaw.lost
        rw [if_pos (by have := Q'.p16; omega)]
      by_cases ea : a = p
      · refine ⟨1, n1, ?_, by rw [fup_off _ _ (Ne.symm hp1)]; exact hn1, fun e4 => q1 e4.symm⟩
        show (ProcLaw.ended s.t p (bits .and .i64 0 255) q').par = 1
        rw [hpr]
        unfold ProcLaw.orphan
        rw [if_pos ⟨by rw [Q'.lv]; decide, by rw [a1, ea]⟩]
      · refine ⟨a, m', ?_, by rw [fup_off _ _ ea]; exact a2, a3⟩
        show (ProcLaw.ended s.t p (bits .and .i64 0 255) q').par = a
        rw [hpr]
        unfold ProcLaw.orphan
        rw [if_neg (fun q4 => by rw [a1] at q4; omega)]
        exact a1
    · show (if q' = p then none else s.cw q') = none
      by_cases e : q' = p
      · rw [if_pos e]
      · rw [if_neg e]
        rw [fup_off _ _ e] at hq
        exact hb.cwn q' hq
  · rintro e w' ⟨s', er, a, b', rfl, hg, rfl, rfl, rfl, hB⟩
    exact ⟨rfl, s', hg, hB⟩
/-- a process sleeps -/
theorem sleep_bz (h : KT w k s) (hb : Bz s nc now r top U sp) (hp : U p = some n) (hn : n ≤ now) (hr : r < 90) (hnow : now ≤ 90) {d : Nat} (d1 : 1 ≤ d) (d5 : d ≤ 5) :
    Calls Tryz.prog 6 #[.pointer (some ⟨k.K, 0, none⟩), .int .i64 p, .agg (callU 34 d)] w fun e w' => e = .returned (.agg (ansV 0 0 0 (.slice none 0 0))) ∧ ∃ s', KG s k w w' s' ∧ Bz s' nc now (r + 1) top (fup U p (some (now + d))) sp := by
  have P := hb.ps p n hp
  obtain ⟨p1, ptop, -⟩ := hb.ur p n hp
  obtain ⟨i, x, hi, hx, ht, hrd⟩ := hb.at hp hn
  refine (ask_sleepA h (P.aw hn) (n := d) (nw := now) (by omega) (by omega) hb.c9 hb.wn0 hb.wn1 (by omega) (by have := hb.wll; omega) (fun k t hk => hb.wl.awake hp hn hk) (fun k t hk => ?_) hi hx hrd).mono ?_
  · obtain ⟨a, c, rfl, h3, -⟩ := hb.wl.at hk
    have := hb.ur a c h3
    exact ⟨by show (0 : Int) ≤ c; omega, by show (c : Int) < 1000000000; omega⟩
  rintro e w' ⟨rfl, v', tag', hg⟩
  have hco : ∀ j, j ≠ 8 + p * 38 + 37 → upV s.c (8 + p * 38 + 37) (.bool true) j = s.c j := fun j hj => if_neg hj
  refine ⟨rfl, _, hg, ⟨hb.cp, (hco 0 (by omega)).trans hb.c0, (hco 654 (by omega)).trans hb.c9, hb.wn0, hb.wn1, hb.tk0, hb.tk1, hb.fr, ?_, ?_, ?_, ?_, ?_, ?_, ?_, fun q j hq => ?_, fun q a1 a2 a3 => ?_, hb.top17, hb.t1, hb.t0, fun q j hq => ?_, fun q hq => ?_, hb.fd, hb.fs, (hb.mz.same hp).more⟩⟩
  · show Full nc (fillG (s.l.set i { x with rd := false, cpu := -1 }) s.nc)
    rw [hb.cp]
    exact (block_full hb.full.toPre hb.lm hi hx).1
  · show LM (fillG (s.l.set i { x with rd := false, cpu := -1 }) s.nc) _
    rw [hb.cp, rdy_put, decide_eq_false (by omega)]
    exact (block_full hb.full.toPre hb.lm hi hx).2
  · show VOk _ (fillG (s.l.set i { x with rd := false, cpu := -1 }) s.nc)
    exact (hb.vok.put hx (y := { x with rd := false, cpu := -1 }) (hb.vok i x hx).1 (hb.vok i x hx).2).same (fillG_same _ _)
  · show (fillG (s.l.set i { x with rd := false, cpu := -1 }) s.nc).length ≤ r + 1 + 1
    rw [fillG_len, List.length_set]
    have := hb.ll
    omega
  · show WL (insT s.wl (((now : Int) + d, (p : Int)))) _ _
    have := hb.wl.sleep hp hn (m := now + d) (by omega)
    rw [show ((now + d : Nat) : Int) = (now : Int) + d by omega] at this
    exact this
  · show (insT s.wl (((now : Int) + d, (p : Int)))).length ≤ r + 1
    rw [insT_len]
    have := hb.wll
    omega
  · by_cases e : 1 = p
    · exact ⟨now + d, by rw [← e, fup_same]⟩
    · obtain ⟨n1, hn1⟩ := hb.u1
      exact ⟨n1, by rw [fup_off _ _ e]; exact hn1⟩
  · by_cases e : q = p
    · subst e
      rw [fup_same] at hq
      injection hq with hq
      omega
    · rw [fup_off _ _ e] at hq; exact hb.ur q j hq
  · by_cases e : q = p
    · subst e; rw [fup_same] at a3; cases a3
    · rw [fup_off _ _ e] at a3; exact hb.dead q a1 a2 a3
  · have hpr : ∀ a m, U a = some m → ∃ m', fup U p (some (now + d)) a = some m' := fun a m ha => by
      by_cases e : a = p
      · exact ⟨_, by rw [e, fup_same]⟩
      · exact ⟨m, by rw [fup_off _ _ e]; exact ha⟩
    by_cases e : q = p
    · subst e
      rw [fup_same] at hq
      injection hq with hq
      subst hq
      refine P.move (fun a ha => hco _ (by omega)) ?_ rfl P.lv (fun q1 => ?_)
      · show upV s.c (8 + q * 38 + 37) (.bool true) (8 + q * 38 + 37) = _
        unfold upV
        rw [if_pos rfl, decide_eq_true (by omega)]
      · obtain ⟨a, m', a1, a2, a3⟩ := P.pr q1
        obtain ⟨m2, hm2⟩ := hpr a m' a2
        exact ⟨a, m2, a1, hm2, a3⟩
    · rw [fup_off _ _ e] at hq
      have Q := hb.ps q j hq
      refine Q.move (fun a ha => hco _ (by omega)) ((hco _ (by omega)).trans Q.sl) rfl Q.lv (fun q1 => ?_)
      obtain ⟨a, m', a1, a2, a3⟩ := Q.pr q1
      obtain ⟨m2, hm2⟩ := hpr a m' a2
      exact ⟨a, m2, a1, hm2, a3⟩
  · have e : q ≠ p := fun e => by rw [e, fup_same] at hq; cases hq
    rw [fup_off _ _ e] at hq
    exact hb.cwn q hq
/-- the clock's tick -/
theorem tick_bz (h : KT w k s) (hb : Bz s nc now r top U sp) (hr : r < 90) (hnow : now ≤ 90) :
    Calls Tryz.prog 7 #[.pointer (some ⟨k.K, 0, none⟩)] w fun e w' => e = .returned (.tuple #[]) ∧ ∃ s', KG s k w w' s' ∧ Bz s' nc (now + 1) (r + 1) top U sp := by
  obtain ⟨ids, hids, hpw, hmem⟩ := hb.wl.due
  have hcn := h.cn
  obtain ⟨l1, c1, hwk, f1, m1, v1, len1, hc1, hd1⟩ := wakes_of (nc := nc) (b := (now : Int) * 419428) ids s.l (rdy U now) (upV s.c 654 (.int .u32 ((now : Int) + 1))) hb.full hb.lm hb.vok hpw (fun p hp => by
    have hU := (hmem p).1 hp
    exact ⟨(hb.ps p _ hU).p16, by unfold rdy; rw [hU]; simp⟩)
  rw [rdy_tick hmem] at m1
  rw [← hids, ← hb.cp] at hwk
  have hm : MayTickT s now ((now : Int) * 419428) l1 c1 := ⟨by rw [hb.cp]; exact hb.c0, hb.c9, by have := hb.wll; omega, fun k t hk => by
    obtain ⟨a, c, rfl, h3, -⟩ := hb.wl.at hk
    have := hb.ur a c h3
    exact ⟨by show (0 : Int) ≤ c; omega, by show (c : Int) < 1000000000; omega⟩, hb.wn0, hb.wn1, by omega, hb.tk0, by have := hb.tk1; omega, hwk, v1, by omega⟩
  have hfin : ∀ (s' : KSt), s'.c = c1 → s'.wn = (now : Int) + 1 → s'.wl = s.wl.drop (dueN ((now : Int) + 1) s.wl) → s'.l = tickAll l1 s.nc s.nc → s'.tk = s.tk + s.nc → s'.t = s.t → s'.fs = s.fs → s'.fd = s.fd → s'.m = s.m → s'.cw = s.cw → s'.nc = s.nc → s'.fr = s.fr → Bz s' nc (now + 1) (r + 1) top U sp := by
    intro s' a1 a2 a3 a4 a5 a6 a7 a8 a9 a10 a11 a12
    have hcz : ∀ j, j < 8 → c1 j = s.c j := fun j hj => by
      rw [hc1 j (fun p hp => by omega)]
      exact if_neg (by omega)
    refine ⟨by rw [a11]; exact hb.cp, by rw [a1, hcz 0 (by decide)]; exact hb.c0, ?_, by rw [a2]; omega, by rw [a2]; omega, by rw [a5]; have := hb.tk0; omega, ?_, by rw [a12]; exact hb.fr, ?_, ?_, ?_, ?_, by rw [a3]; exact hb.wl.tick, ?_, hb.u1, fun p n hp => by have := hb.ur p n hp; omega, hb.dead, hb.top17, by rw [a6]; exact hb.t1, by rw [a6]; exact hb.t0, fun p n hp => ?_, by rw [a10]; exact hb.cwn, by rw [a8]; exact hb.fd, by rw [a7]; exact hb.fs, by rw [a9]; exact hb.mz.more⟩
    · rw [a1, hc1 654 (fun p hp => by have := (hb.ps p _ ((hmem p).1 hp)).p16; omega)]
      unfold upV
      rw [if_pos rfl]
      rfl
    · rw [a5]
      have := hb.tk1
      omega
    · rw [a4, hb.cp]
      exact (tickAll_full f1 m1 nc).1
    · rw [a4, hb.cp]
      exact (tickAll_full f1 m1 nc).2
    · rw [a4]
      refine (v1.all s.nc s.nc).mono ?_
      omega
    · rw [a4]
      have : (tickAll l1 s.nc s.nc).length = l1.length := by
        have key : ∀ c, (tickAll l1 s.nc c).length = l1.length := fun c => by
          induction c with
          | zero => rfl
          | succ c ih => rw [tickAll, tickL_len, ih]
        exact key _
      rw [this, len1]
      have := hb.ll
      omega
    · rw [a3, List.length_drop]
      have := hb.wll
      omega
    · have P := hb.ps p n hp
      refine P.move (fun j hj => ?_) ?_ (by rw [a10]) (by rw [a6]; exact P.lv) (fun q1 => by rw [a6]; exact P.pr q1)
      · rw [a1, hc1 _ (fun q hq => by omega)]
        exact if_neg (by have := P.p16; omega)
      · rw [a1]
        by_cases e : p ∈ ids
        · rw [hd1 p e]
          have := (hmem p).1 e
          rw [hp] at this
          injection this with this
          rw [decide_eq_false (by omega)]
        · rw [hc1 _ (fun q hq e2 => e (by have : p = q := by omega
                                          rw [this]; exact hq))]
          have hne : n ≠ now + 1 := fun e2 => e ((hmem p).2 (by rw [hp, e2]))
          show upV s.c 654 _ (8 + p * 38 + 37) = _
          unfold upV
          rw [if_neg (by have := P.p16; omega), P.sl]
          congr 1
          by_cases q : now < n
          · simp [q]; omega
          · simp [q]; omega
  rcases h.wh.two with ⟨hv, hl⟩ | ⟨g, cap, hv⟩
  · have hl1 : l1 = s.l ∧ c1 = upV s.c 654 (.int .u32 ((now : Int) + 1)) := by
      rw [hl] at hwk
      exact hwk.inv0
    refine (ktick_is h (nw := now) (b := (now : Int) * 419428) ⟨by rw [hb.cp]; exact hb.c0, hb.c9, hv, hl, hb.wn0, hb.wn1, by omega, hb.tk0, by have := hb.tk1; omega, hb.vok, by omega⟩).mono ?_
    rintro e w' ⟨rfl, tag', hg⟩
    exact ⟨rfl, _, hg, hfin _ hl1.2.symm rfl (by show s.wl = _; rw [hl]; rfl) (by show tickAll s.l s.nc s.nc = _; rw [hl1.1]) rfl rfl rfl rfl rfl rfl rfl rfl⟩
  · refine (ktickT_is h hm hv).mono ?_
    rintro e w' ⟨rfl, v', tag', hg⟩
    exact ⟨rfl, _, hg, hfin _ rfl rfl rfl rfl rfl rfl rfl rfl rfl rfl rfl rfl⟩
/-- a processor's step where nobody runs -/
theorem stepN_bz (h : KT w k s) (hb : Bz s nc now r top U sp) {c : Nat} (hc : c < nc) (ho : onG s.l c = none) :
    Calls Tryz.prog 8 #[.pointer (some ⟨k.K, 0, none⟩), .int .i64 c] w fun e w' => e = .returned (.tuple #[.int .i64 0, .agg #[.int .i64 5, .int .u32 0]]) ∧ Below w.heap.size w w' := kstep_no h (by rw [hb.cp]; exact hc) ho
/-- a processor's step where somebody runs: nothing else turns -/
theorem stepY_bz (h : KT w k s) (hb : Bz s nc now r top U sp) {c i : Nat} (hc : c < nc) {x : Tk} (ho : onG s.l c = some i) (hx : s.l[i]? = some x) :
    ∃ p : Nat, x.t = (p : Int) ∧ 1 ≤ p ∧ p < 17 ∧ Calls Tryz.prog 8 #[.pointer (some ⟨k.K, 0, none⟩), .int .i64 c] w fun e w' => e = .returned (.tuple #[.int .i64 p, .agg #[.int .i64 0, .int .u32 0]]) ∧ ∃ s', KG s k w w' s' ∧ Bz s' nc now r top U sp ∧ s'.l = s.l := by
  obtain ⟨p, hp, hM⟩ := hb.lm.of i x hx
  obtain ⟨y, hy, hyc⟩ := onG_some ho
  rw [hx] at hy
  injection hy with hy
  subst hy
  have hrd : x.rd = true := hb.full.rd i x hx (by rw [hyc]; omega)
  rw [hrd] at hM
  obtain ⟨n, hU, hn⟩ : ∃ n, U p = some n ∧ n ≤ now := by
    unfold rdy at hM
    cases e : U p with
    | none => rw [e] at hM; cases hM
    | some n =>
      rw [e] at hM
      exact ⟨n, rfl, by simpa using hM⟩
  have P := hb.ps p n hU
  obtain ⟨b, hSb⟩ := hb.mz.S p n hU
  obtain ⟨w0, w1⟩ := hb.mz.wd _ b P.s1 hSb
  obtain ⟨g, hg, hpc⟩ := P.rg
  have hlen : (s.m.pl.length : Int) ≤ s.fr := by rw [hb.fr]; have := hb.mz.len; omega
  have hfin : ∀ (g2 : CpuLaw.G) h' tag', (g2.pc = 0 ∨ g2.pc = 4) → Bz { s with c := putRg s.c (8 + p * 38 + 1) g2, m := { s.m with h := h' }, tag := tag' } nc now r top U sp := fun g2 h' tag' hpc2 => by
    have p16 := P.p16
    have hout : ∀ j, (j < 8 + p * 38 + 1 ∨ 8 + p * 38 + 11 ≤ j) → putRg s.c (8 + p * 38 + 1) g2 j = s.c j := fun j hj => by unfold putRg; rw [if_neg (by omega)]
    refine ⟨hb.cp, (hout 0 (by omega)).trans hb.c0, (hout 654 (by omega)).trans hb.c9, hb.wn0, hb.wn1, hb.tk0, hb.tk1, hb.fr, hb.full, hb.lm, hb.vok, hb.ll, hb.wl, hb.wll, hb.u1, hb.ur, hb.dead, hb.top17, hb.t1, hb.t0, fun q j hq => ?_, hb.cwn, hb.fd, hb.fs, hb.mz.held h'⟩
    have Q := hb.ps q j hq
    by_cases e : q = p
    · subst e
      refine Q.turn (fun j hj hj2 => hout _ (by omega)) ⟨g2, fun j hj => ?_, hpc2⟩ ((hout _ (by omega)).trans Q.sl) rfl Q.lv Q.pr
      show putRg s.c (8 + q * 38 + 1) g2 (8 + q * 38 + 1 + j) = _
      unfold putRg
      rw [if_pos (by omega), show 8 + q * 38 + 1 + j - (8 + q * 38 + 1) = j by omega]
    · exact Q.move (fun j hj => hout _ (by omega)) ((hout _ (by omega)).trans Q.sl) rfl Q.lv Q.pr
  refine ⟨p, hp, P.p1, by have := P.p16; omega, ?_⟩
  rcases hpc with hpc | hpc
  · refine (kstep_yes h (by rw [hb.cp]; exact hc) ho hx hp (g := g) (s1 := (sp p : Nat)) (b := b) (y := y0) (op := 14) (A := 1) (B := 1) (C := 1) ⟨P.aw hn, hg, P.sc, wf_any (by have := P.s16; omega), hSb, hlen, by rw [hpc]; exact w0, dec_y0, by decide, by decide, .inl rfl⟩).mono ?_
    rintro e w' ⟨rfl, h', tag', hg'⟩
    refine ⟨rfl, _, hg', hfin _ h' tag' (.inr ?_), rfl⟩
    show (CpuLaw.exG g 14 1 1 1).pc = 4
    unfold CpuLaw.exG
    rw [if_pos rfl]
    show CpuLaw.up g.pc 4 = 4
    rw [hpc]
    decide
  · refine (kstep_yes h (by rw [hb.cp]; exact hc) ho hx hp (g := g) (s1 := (sp p : Nat)) (b := b) (y := y1) (op := 19) (A := 0) (B := 0) (C := -4) ⟨P.aw hn, hg, P.sc, wf_any (by have := P.s16; omega), hSb, hlen, by rw [hpc]; exact w1, dec_y1, by decide, by decide, .inr rfl⟩).mono ?_
    rintro e w' ⟨rfl, h', tag', hg'⟩
    refine ⟨rfl, _, hg', hfin _ h' tag' (.inl ?_), rfl⟩
    show (CpuLaw.exG g 19 0 0 (-4)).pc = 0
    unfold CpuLaw.exG
    rw [if_neg (by decide)]
    show CpuLaw.up g.pc (CpuLaw.u32z (-4)) = 0
    rw [hpc]
    decide +kernel
end
end Go.Proofs.YtafflkemnniegaaGreatDoor
namespace Go.Proofs.YtafflkemnniegaaGreatDoor
open Go.RowKit
set_option linter.unusedVariables false
set_option linter.unusedSimpArgs false
/-- the first process alone -/
def U1 : Nat → Option Nat := fup (fun _ => none) 1 (some 0)
theorem U1_at {p n : Nat} (h : U1 p = some n) : p = 1 ∧ n = 0 := by
  unfold U1 at h
  by_cases e : p = 1
  · subst e
    rw [fup_same] at h
    injection h with h
    exact ⟨rfl, h.symm⟩
  · rw [fup_off _ _ e] at h; cases h
theorem U1_no {p : Nat} (h : p ≠ 1) : U1 p = none := fup_off _ _ h
theorem cntU1 : cntU U1 = 1 := by
  unfold U1
  rw [cntU_put (U := fun _ => none) rfl (by decide)]
  have : cntU (fun _ => none) = 0 := cntB_none (fun _ _ => rfl)
  rw [this]
theorem full1 {nc : Nat} (h : 1 ≤ nc) : Full nc [⟨1, 0, true, 0⟩] := by
  have key : ∀ (i : Nat) (x : Tk), ([⟨1, 0, true, 0⟩] : List Tk)[i]? = some x → i = 0 ∧ x = ⟨1, 0, true, 0⟩ := fun i x hx => by
    match i, hx with
    | 0, hx => injection hx with hx; exact ⟨rfl, hx.symm⟩
    | i + 1, hx => simp at hx
  refine ⟨⟨fun i j x y hx hy _ => ?_, fun i x hx => ?_, fun i x hx _ => ?_, fun i j x y hx hy _ _ => ?_⟩, fun c hc ho i x hx => ?_⟩
  · rw [(key i x hx).1, (key j y hy).1]
  · rw [(key i x hx).2]; show (0 : Int) < nc; omega
  · rw [(key i x hx).2]
  · rw [(key i x hx).1, (key j y hy).1]
  · rw [(key i x hx).2]; rfl
theorem lm1 : LM [⟨1, 0, true, 0⟩] (rdy U1 0) := by
  refine ⟨fun i x hx => ?_, fun p r hp => ?_⟩
  · match i, hx with
    | 0, hx =>
      injection hx with hx
      subst hx
      exact ⟨1, rfl, by unfold rdy U1; rw [fup_same]; rfl⟩
    | i + 1, hx => simp at hx
  · unfold rdy at hp
    cases e : U1 p with
    | none => rw [e] at hp; cases hp
    | some n =>
      obtain ⟨rfl, rfl⟩ := U1_at e
      rw [e] at hp
      injection hp with hp
      exact ⟨0, _, rfl, rfl, by rw [← hp]; rfl⟩
theorem Ks.bz {s : KSt} {nc : Nat} (h : Ks s nc 1) (hm : Mp s.m 1) (n1 : 1 ≤ nc) : Bz s nc 0 0 2 U1 (fun p => p) := by
  have g := h.ps 1 (by decide) (by decide)
  obtain ⟨wb, hcw⟩ := h.cw
  have hl : s.l = [⟨1, 0, true, 0⟩] := h.l
  obtain ⟨b, hb, ho, hn⟩ := hm.one
  have hS : ∀ (x : Nat) b', 1 ≤ x → s.m.S x = some b' → x = 1 ∧ b' = b := fun x b' x1 e => by
    rcases Nat.lt_or_ge 1 x with q | q
    · rw [hm.S0 x q] at e; cases e
    · obtain rfl : x = 1 := by omega
      have hb' : s.m.S ((1 : Nat) : Int) = some b := hb
      rw [hb'] at e
      injection e with e
      exact ⟨rfl, e.symm⟩
  refine ⟨h.cp, h.c0, h.c9, by rw [h.wn]; decide, by rw [h.wn]; decide, by rw [h.tk]; decide, by rw [h.tk]; decide, h.fr, by rw [hl]; exact full1 n1, by rw [hl]; exact lm1, ?_, by rw [hl]; exact Nat.le_refl _, ?_, by rw [h.wl]; exact Nat.le_refl _, ⟨0, fup_same _ _ _⟩, fun p n hp => ?_, fun p p1 p2 hp => ?_, by decide, fun p p1 p2 => ?_, fun p hp => h.t0 p (by omega), fun p n hp => ?_, fun p hp => ?_, h.fd, h.fs, ?_⟩
  · rw [hl]
    intro i x hx
    match i, hx with
    | 0, hx => injection hx with hx; subst hx; decide
    | i + 1, hx => simp at hx
  · rw [h.wl]
    refine ⟨List.Pairwise.nil, fun a => ⟨fun q => (by cases q), ?_⟩⟩
    rintro ⟨p, n, -, h1, h2⟩
    have := (U1_at h1).2
    omega
  · obtain ⟨rfl, rfl⟩ := U1_at hp
    exact ⟨by decide, by decide, by decide⟩
  · obtain rfl : p = 1 := by omega
    unfold U1 at hp
    rw [fup_same] at hp
    cases hp
  · obtain rfl : p = 1 := by omega
    rw [g.aw.lv]; decide
  · obtain ⟨rfl, rfl⟩ := U1_at hp
    exact ⟨by decide, by decide, g.aw.lv, fun q => absurd rfl q, g.aw.sg, g.aw.sl, ⟨gOf 0, g.rg, .inl rfl⟩, g.sp, by decide, by decide, h.one, .inl h.n13, h.n18, ⟨wb, by rw [hcw]; rfl⟩⟩
  · have : p ≠ 1 := fun e => by rw [e] at hp; unfold U1 at hp; rw [fup_same] at hp; cases hp
    rw [hcw]
    exact if_neg this
  · refine ⟨fun p n hp => ?_, fun x b' x1 hx => ?_, fun p n hp => ?_, fun p q n m hp hq _ => ?_, ⟨s.m.F b, ho.lone, fun k g r e => ?_, fun x b' x1 hx => ?_⟩, fun x b' x1 hx => ?_, fun x b' x1 hx => ?_, ?_, by have := hm.nS; omega⟩
    · obtain ⟨rfl, rfl⟩ := U1_at hp
      exact ⟨b, hb⟩
    · obtain ⟨rfl, -⟩ := hS x b' x1 hx
      exact ⟨1, 0, fup_same _ _ _, by decide, rfl⟩
    · obtain ⟨rfl, rfl⟩ := U1_at hp
      decide
    · rw [(U1_at hp).1, (U1_at hq).1]
    · obtain ⟨-, -, q1, q2⟩ := ho.pg k g r e
      exact ⟨q1, by rw [q2, cntU1]; rfl⟩
    · rw [(hS x b' x1 hx).2]
    · rw [(hS x b' x1 hx).2]; exact ho.nF
    · rw [(hS x b' x1 hx).2]; exact ⟨ho.w0, ho.w1⟩
    · have := hm.len; omega
end Go.Proofs.YtafflkemnniegaaGreatDoor
namespace Go.Proofs.YtafflkemnniegaaGreatDoor
open Go.RowKit Go.Maps
set_option linter.unusedVariables false
set_option linter.unusedSimpArgs false
/-- a code of a map's elements -/
structure MCode (ι : Type) where
  enc : Option ι → Value
  dat : Option ι → DataW Unit
  d0 : dat none = .nil
  ei : ∀ x y, enc x = enc y → x = y
  di : ∀ x y, dat x = dat y → x = y
section
variable {ι : Type} (c : MCode ι)
open Classical in
noncomputable def MCode.red (v : Value) : Option (DataW Unit × List MemPlace) := if h : ∃ x, v = c.enc x then some (c.dat h.choose, []) else none
theorem MCode.red_enc (x : Option ι) : c.red (c.enc x) = some (c.dat x, []) := by
  unfold MCode.red
  have h : ∃ y, c.enc x = c.enc y := ⟨x, rfl⟩
  rw [dif_pos h, ← c.ei _ _ h.choose_spec]
theorem MCode.red_inv {v : Value} {x : Option ι} {ps : List MemPlace} (h : c.red v = some (c.dat x, ps)) : v = c.enc x := by
  unfold MCode.red at h
  split at h
  · rename_i h'
    simp only [Option.some.injEq, Prod.mk.injEq] at h
    rw [← c.di _ _ h.1]; exact h'.choose_spec
  · cases h
theorem MCode.red_some {v : Value} {y : DataW Unit × List MemPlace} (h : c.red v = some y) : ∃ x, v = c.enc x := by
  unfold MCode.red at h
  split at h
  · assumption
  · cases h
/-- block b is a map: f says what lies at each key; n: how many stores were made at most -/
def CMap (w : World) (b n : Nat) (f : Int → Option ι) : Prop :=
  ∃ D : DataW Unit, w.ownsMap Tryz.prog 3 c.red b n D ∧ IsMap D ∧ ∀ k, D.atKey (.int .i64 k) .nil = c.dat (f k) ∧ Maps.has D (.int .i64 k) = (f k).isSome
end
section
variable {ι : Type} {c : MCode ι} {w w' : World} {b n : Nat} {f : Int → Option ι} {T e : TypeId}
theorem CMap.lt (h : CMap c w b n f) : b < w.heap.size := by
  obtain ⟨D, hD, _⟩ := h
  exact hD.lt
theorem CMap.made (w : World) : CMap c (w.alloc (.map #[] 0)) w.heap.size 0 (fun _ => none) :=
  ⟨_, World.ownsMap_made w _ _ _, isMap_empty, fun k => ⟨c.d0.symm, rfl⟩⟩
theorem CMap.kept {row : Option Nat} (h : CMap c w b n f) (hg : w.grownBy w' row) (hne : some b ≠ row) : CMap c w' b n f := by
  obtain ⟨D, hD, hm, hf⟩ := h
  exact ⟨D, hD.kept hg hne, hm, hf⟩
theorem CMap.upd {S : Nat → Prop} (h : CMap c w b n f) (hu : Upd S w w') (hn : ¬ S b) : CMap c w' b n f := by
  obtain ⟨D, hD, hm, hf⟩ := h
  obtain ⟨es, ck, hb, hrest⟩ := hD
  exact ⟨D, ⟨es, ck, (hu.block b (Array.getElem?_eq_some_iff.1 hb).1 hn).trans hb, hrest⟩, hm, hf⟩
theorem CMap.keep (h : CMap c w b n f) (hb : Below w.heap.size w w') : CMap c w' b n f := h.upd (S := fun _ => False) (Upd.below hb) (fun e => e)
theorem CMap.mono {n' : Nat} (h : CMap c w b n f) (hn : n ≤ n') : CMap c w b n' f := by
  obtain ⟨D, hD, hm, hf⟩ := h
  exact ⟨D, hD.mono hn, hm, hf⟩
theorem CMap.look_ok (h : CMap c w b n f) (ht : Tryz.prog.underlying T = some (.map 3 e)) (hz : (zeroValue e).run Tryz.prog w = .ok (c.enc none) w) {k : Int} (hk : (Lit.int .i64 k).wf = true) : (Instr.lookup T (.map (some b)) (.int .i64 k) true).run Tryz.prog w = .ok (.tuple #[c.enc (f k), .bool (f k).isSome]) w := by
  obtain ⟨D, hD, hm, hf⟩ := h
  obtain ⟨v, ps, hr, hv⟩ := hD.look_ok keyed3 ht hz (c.red_enc none) (keyOf_int_mk Tryz.underlying3 hk)
  rw [c.d0, (hf k).1] at hv
  rw [hr, c.red_inv hv, (hf k).2]
theorem CMap.look (h : CMap c w b n f) (ht : Tryz.prog.underlying T = some (.map 3 e)) (hz : (zeroValue e).run Tryz.prog w = .ok (c.enc none) w) {k : Int} (hk : (Lit.int .i64 k).wf = true) : (Instr.lookup T (.map (some b)) (.int .i64 k) false).run Tryz.prog w = .ok (c.enc (f k)) w := by
  obtain ⟨D, hD, hm, hf⟩ := h
  obtain ⟨v, ps, hr, hv⟩ := hD.lookup keyed3 ht hz (c.red_enc none) (keyOf_int_mk Tryz.underlying3 hk)
  rw [c.d0, (hf k).1] at hv
  rw [hr, c.red_inv hv]
theorem CMap.put (h : CMap c w b n f) (ht : Tryz.prog.underlying T = some (.map 3 e)) {k : Int} (hk : (Lit.int .i64 k).wf = true) (hn : n < maxLen) (x : ι) : ∃ w', (Instr.mapUpdate T (.map (some b)) (.int .i64 k) (c.enc (some x))).run Tryz.prog w = .ok () w' ∧ CMap c w' b (n + 1) (fun j => if j = k then some x else f j) ∧ w.grownBy w' (some b) := by
  obtain ⟨D, hD, hm, hf⟩ := h
  obtain ⟨w', hr, ho, hg⟩ := hD.update keyed3 ht hn (keyOf_int_mk Tryz.underlying3 hk) (c.red_enc (some x))
  refine ⟨w', hr, ⟨_, ho, hm.put _ _, fun j => ?_⟩, hg⟩
  by_cases hj : j = k
  · subst hj
    exact ⟨(atKey_put_same hm (ikey _) _ _).trans (by simp), (has_put_same hm (ikey _) _).trans (by simp)⟩
  · dsimp only
    rw [if_neg hj]
    exact ⟨(atKey_put_other (lit_ne hj) _ _).trans (hf j).1, (has_put_other (lit_ne hj) _).trans (hf j).2⟩
theorem CMap.del (h : CMap c w b n f) (ht : Tryz.prog.underlying T = some (.map 3 e)) {k : Int} (hk : (Lit.int .i64 k).wf = true) (ty : TypeId) : ∃ w', (Builtin.delete_ #[T, 3] ty #[.map (some b), .int .i64 k]).run Tryz.prog w = .ok (.tuple #[]) w' ∧ CMap c w' b n (fun j => if j = k then none else f j) ∧ w.grownBy w' (some b) := by
  obtain ⟨D, hD, hm, hf⟩ := h
  obtain ⟨w', hr, ho, hg⟩ := hD.drop keyed3 ht (keyOf_int_mk Tryz.underlying3 hk) ty
  refine ⟨w', hr, ⟨_, ho, hm.del _, fun j => ?_⟩, hg.grown⟩
  by_cases e : j = k
  · subst e
    rw [atKey_del_same, has_del_same]
    simp [c.d0]
  · rw [atKey_del_other (lit_ne e), has_del_other (lit_ne e)]
    dsimp only
    rw [if_neg e]
    exact hf j
theorem CMap.len (h : CMap c w b n f) (ht : Tryz.prog.underlying T = some (.map 3 e)) (ty : TypeId) : ∃ k : Nat, k ≤ n ∧ (Builtin.len_ #[T] ty #[.map (some b)]).run Tryz.prog w = .ok (.int .i64 k) w := by
  obtain ⟨D, hD, hm, hf⟩ := h
  exact ⟨_, hD.size_le, hD.len ht ty⟩
end
/-- a slice of bytes, by its numbers -/
abbrev SL := Nat × Nat × Nat × Nat
def encS : Option SL → Value
  | none => .slice none 0 0
  | some (b, o, n, c) => .slice (some ⟨b, o, none⟩) n c
def datS : Option SL → DataW Unit
  | none => .nil
  | some (b, o, n, c) => .agg [.lit (.int .i64 b), .lit (.int .i64 o), .lit (.int .i64 n), .lit (.int .i64 c)]
def cS : MCode SL where
  enc := encS
  dat := datS
  d0 := rfl
  ei := fun x y h => by
    cases x with
    | none => cases y with
      | none => rfl
      | some y => obtain ⟨a, b, c, d⟩ := y; simp [encS] at h
    | some x => obtain ⟨a, b, c, d⟩ := x; cases y with
      | none => simp [encS] at h
      | some y => obtain ⟨a', b', c', d'⟩ := y; simp [encS] at h; obtain ⟨⟨h1, h2⟩, h3, h4⟩ := h; rw [h1, h2, h3, h4]
  di := fun x y h => by
    cases x with
    | none => cases y with
      | none => rfl
      | some y => obtain ⟨a, b, c, d⟩ := y; simp [datS] at h
    | some x => obtain ⟨a, b, c, d⟩ := x; cases y with
      | none => simp [datS] at h
      | some y => obtain ⟨a', b', c', d'⟩ := y; simp [datS] at h; obtain ⟨h1, h2, h3, h4⟩ := h; congr <;> omega
/-- a truth that is there -/
def encT : Option Unit → Value
  | none => .bool false
  | some _ => .bool true
def datT : Option Unit → DataW Unit
  | none => .nil
  | some _ => .agg []
def cT : MCode Unit where
  enc := encT
  dat := datT
  d0 := rfl
  ei := fun x y h => by cases x <;> cases y <;> simp [encT] at h ⊢
  di := fun x y h => by cases x <;> cases y <;> simp [datT] at h ⊢
theorem zeroS (w : World) : (zeroValue 30).run Tryz.prog w = .ok (encS none) w := by kernel_rfl
theorem zeroT (w : World) : (zeroValue 4).run Tryz.prog w = .ok (encT none) w := by kernel_rfl
end Go.Proofs.YtafflkemnniegaaGreatDoor
