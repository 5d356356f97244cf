/- The walk of ringtop.rvProgs. The walk of ringtop.rvKernel at any programs (printed by gen_all.py). The kernel's bus with a page of data. No walk here. The walks of space.oldest and space.Reclaim: pages leave their frames. -/
import Derived.Test.YtnbhohaphmilmaaGreatDoorAlI
import Derived.Test.YtnbhohaphmilmaaGreatDoorSpJ
import Derived.Test.YtnbhohaphmilmaaGreatDoorAlG
namespace Go.Proofs.YtnbhohaphmilmaaGreatDoor
open Go.RowKit Go.Deep
set_option linter.unusedVariables false
set_option linter.unusedSimpArgs false
/-- a slice of slices of integers -/
def At2 (w : World) (v : Value) (xss : List (List Int)) : Prop := ∃ p cap, v = .slice p xss.length cap ∧ xss.length ≤ cap ∧ cap ≤ maxLen ∧ (xss = [] ∨ ∃ b off, p = some ⟨b, off, none⟩ ∧ b < w.heap.size ∧ ∀ i, i < xss.length → ∃ u, w.cell? ⟨b, off + i, none⟩ = some u ∧ At (Value.int .i64) 0 w u (xss.getD i []))
theorem at_keep {w w' : World} {v : Value} {xs : List Int} (h : At (Value.int .i64) 0 w v xs) (hb : Below w.heap.size w w') : At (Value.int .i64) 0 w' v xs := by
  obtain ⟨p, cap, e, h1, h2, hc⟩ := h
  refine ⟨p, cap, e, h1, h2, ?_⟩
  rcases hc with q | ⟨b, off, q, hlt, hc⟩
  · exact .inl q
  · exact .inr ⟨b, off, q, Nat.lt_of_lt_of_le hlt hb.size, fun i hi => (hb.cell (p := ⟨b, off + i, none⟩) hlt).trans (hc i hi)⟩
/-- so many programs -/
structure PgL (B : Nat) (w : World) (v : Value) (ls : List (List CodeLaw.Ins)) (xs : List Value) : Prop where
  own : w.ownsRow B 44 1 v ls.length xs
  len : xs.length = ls.length
  one : ∀ (i : Nat) x, xs[i]? = some x → ∃ l b cap, ls[i]? = some l ∧ x = .slice (some ⟨b, 0, none⟩) l.length cap ∧ b < w.heap.size ∧ InsL w x l ∧ v.ownBlock ≠ some b
theorem infoIL2 : (Tryz.prog.info? 44).map (fun i => (i.zero, i.size, i.bytes)) = some (some (.slice none 0 0), 1, 24) := by kernel_rfl
def apIP := Builtin.append_ #[24, 24] 24
theorem apIP_eq : Builtin.append_ #[24, 24] 24 = apIP := rfl
theorem PgL.nil (B : Nat) (w : World) : PgL B w (.slice none 0 0) [] [] := ⟨World.ownsRow_nil _ _ _ _, rfl, fun i x hx => by cases hx⟩
theorem PgL.push {B : Nat} {w w1 : World} {v : Value} {ls : List (List CodeLaw.Ins)} {xs : List Value} (h : PgL B w v ls xs) (hn : ls.length < 100) {b cap : Nat} {l : List CodeLaw.Ins} (h0 : w.heap.size ≤ b) (h1 : b < w1.heap.size) (hi : InsL w1 (.slice (some ⟨b, 0, none⟩) l.length cap) l) (hb : Below w.heap.size w w1) (hB : B ≤ w.heap.size) :
    ∃ p c w', (apIP #[v, .slice (some ⟨w1.heap.size, 0, none⟩) 1 1]).run Tryz.prog (w1.alloc (.cells #[.slice (some ⟨b, 0, none⟩) l.length cap] 44)) = .ok (.slice p (ls.length + 1) c) w' ∧ PgL B w' (.slice p (ls.length + 1) c) (ls ++ [l]) (xs ++ [.slice (some ⟨b, 0, none⟩) l.length cap]) ∧ Below B w w' := by
  have hal := Go.Joins.below_alloc1 w1 (.cells #[.slice (some ⟨b, 0, none⟩) l.length cap] 44)
  have hb2 := hb.trans (hal.mono hb.size)
  have z := hb2.size
  have za := hal.size
  obtain ⟨i0, i1, hz0, hz1, hz2⟩ := info_parts infoIL2
  obtain ⟨v', w', hr, ho, hg, hd⟩ := run_append_fresh (P := Tryz.prog) (w1.alloc (.cells #[.slice (some ⟨b, 0, none⟩) l.length cap] 44)) B 24 24 44 i0 (.slice none 0 0) 1 24 Tryz.underlying24 i1 hz0 hz1 hz2 rfl (by decide) v ls.length xs (owns_keep h.own hb2) ⟨w1.heap.size, 0, none⟩ 1 1 [.slice (some ⟨b, 0, none⟩) l.length cap] rfl (cells1_new w1 (.slice (some ⟨b, 0, none⟩) l.length cap) 44) (by simp [Value.oneCell']) (by unfold maxLen; omega) (by omega) (by omega)
  have zg := hg.size
  have hBw := (Below.refl B _).grown hg (by omega) (fun g hgg => (h.own.lt g hgg).1)
  have hfin : PgL B w' v' (ls ++ [l]) (xs ++ [.slice (some ⟨b, 0, none⟩) l.length cap]) := by
    refine ⟨by rw [List.length_append]; exact ho, by simp [h.len], fun i x hx => ?_⟩
    rcases Nat.lt_or_ge i xs.length with hi2 | hi2
    · rw [List.getElem?_append_left hi2] at hx
      obtain ⟨l', b', cap', hl', rfl, hb', hi', hv'⟩ := h.one i x hx
      refine ⟨l', b', cap', by rw [List.getElem?_append_left (by rw [← h.len]; exact hi2)]; exact hl', rfl, by omega, (hi'.keep hb2).upd (Upd.grown0 (S := fun j => v.ownBlock = some j) hg (fun j e _ => e)) hv', ?_⟩
      rcases hd with e | ⟨g, hg1, e⟩
      · rw [e]; exact hv'
      · rw [e]; intro q; injection q with q; omega
    · rw [List.getElem?_append_right hi2] at hx
      have e0 : i - xs.length = 0 := by
        rcases Nat.eq_zero_or_pos (i - xs.length) with e | e
        · exact e
        · rw [List.getElem?_eq_none (by simp; omega)] at hx; cases hx
      rw [e0] at hx
      injection hx with hx
      subst hx
      have hvb : v.ownBlock ≠ some b := fun e => by have := (h.own.lt b e).2; omega
      refine ⟨l, b, cap, by rw [List.getElem?_append_right (by rw [← h.len]; exact hi2), ← h.len, e0]; rfl, rfl, by omega, (hi.keep hal).upd (Upd.grown0 (S := fun j => v.ownBlock = some j) hg (fun j e _ => e)) hvb, ?_⟩
      rcases hd with e | ⟨g, hg1, e⟩
      · rw [e]; exact hvb
      · rw [e]; intro q; injection q with q; have := hal.size; omega
  obtain ⟨p, c, hv⟩ := own_form ho
  subst hv
  exact ⟨p, c, w', hr, hfin, ((Upd.below hb2).toBelow hB (S := fun _ => False) (fun _ _ e => e)).trans hBw⟩
attribute [local go_sem ↓] apIP_eq
set_option maxRecDepth 100000 in
set_option maxHeartbeats 2000000 in
theorem rvprogs_is (w : World) {pv : Value} {pss : List (List Int)} (hpl : At2 w pv pss) : Calls Tryz.prog 4 #[pv] w fun e w' => ∃ v ls xs, e = .returned v ∧ ls.length ≤ 4 ∧ (∀ l ∈ ls, PrgOk l) ∧ PgL w.heap.size w' v ls xs ∧ Below w.heap.size w w' := by
  obtain ⟨sp0, cp, rfl, hlc, hcm, hcell⟩ := hpl
  have hcp63 : (cp : Int) ≤ 9223372036854775807 := by have := hcm; unfold maxLen at this; omega
  have HCELL := Lib.hid hcell
  obtain ⟨L, hL⟩ : ∃ L, L = pss.length := ⟨_, rfl⟩
  rw [← hL]
  have HLL := Lib.hid hL
  have hLc : L ≤ cp := by omega
  clear hcell hcm hlc hL
  go_enter Tryz.func4, Tryz.ntmps4
  go_upto_region 2 with fail
  obtain ⟨m, hm⟩ : ∃ m, m = min L 4 := ⟨_, rfl⟩
  go_cut [10, 11, 12] from 6 to 12 (fun s41 s42 s43 wx => s41 = .slice sp0 m cp ∧ s42 = .int .i64 m ∧ s43 = .int .i64 0 ∧ wx = w)
  case first =>
    rcases Nat.lt_or_ge 4 L with h2 | h2
    · have i1 : (4 : Int) < L := by omega
      have i2 : (4 : Int) ≤ cp := by omega
      go_wp2_with fail
      all_goals (go_meet; case rel => exact ⟨by congr 1; omega, by congr 1; omega, rfl, rfl⟩)
    · have i1 : ¬ (4 : Int) < L := by omega
      have i2 : (L : Int) ≤ cp := by omega
      go_wp2_with fail
      all_goals (go_meet; case rel => exact ⟨by congr 1; omega, by congr 1; omega, rfl, rfl⟩)
  case rest =>
    obtain ⟨rfl, rfl, rfl, hwc⟩ := hcut
    subst hwc
    obtain ⟨w1, rfl⟩ : ∃ x : World, x = wc := ⟨_, rfl⟩
    have HM : Hid (m ≤ 4 ∧ m ≤ pss.length) := Lib.hid ⟨by omega, by have := HLL.out; omega⟩
    have hm15 : (m : Int) ≤ 4 := by omega
    clear hm
    go_wp2_with fail
    go_loopw [3, 12] (fun ov kv wr => ∃ (i : Nat) (p : Option Addr) (c : Nat), i ≤ m ∧ kv = .int .i64 i ∧ ov = .slice p i c ∧ Hid (∃ ls xs, ls.length = i ∧ PgL w1.heap.size wr (.slice p i c) ls xs ∧ ∀ l ∈ ls, PrgOk l) ∧ Hid (Below w1.heap.size w1 wr)) (fun _ kv _ => m - (intOf kv).toNat)
    case atStart => exact ⟨0, none, 0, Nat.zero_le _, rfl, rfl, Lib.hid ⟨[], [], rfl, PgL.nil _ _, fun x hx => nomatch hx⟩, Lib.hid (Below.refl _ _)⟩
    case round =>
      obtain ⟨i, p, c, hi0, rfl, rfl, HR, HB⟩ := hrel
      by_cases hi : i < m
      · have i1 : (i : Int) < m := by omega
        have HI : Hid (i < m) := Lib.hid hi
        obtain ⟨pb, po, rfl, hc2⟩ : ∃ b off, sp0 = some ⟨b, off, none⟩ ∧ ∃ u, wr.cell? ⟨b, off + i, none⟩ = some u ∧ At (Value.int .i64) 0 wr u (pss.getD i []) := by
          rcases HCELL.out with e | ⟨b, off, e, hlt, hc⟩
          · exfalso
            have := HM.out.2
            rw [e] at this
            have : m ≤ 0 := this
            omega
          · obtain ⟨u, hu, ha⟩ := hc i (by have := HM.out; omega)
            exact ⟨b, off, e, u, (HB.out.cell (p := ⟨b, off + i, none⟩) hlt).trans hu, at_keep ha HB.out⟩
        obtain ⟨u, hx, hat⟩ := hc2
        have HPR := Lib.hid (rvprog_is wr hat)
        clear hi hi0 hat
        go_upto_region 5 with fail
        clear hx
        go_upto_region 6 with (go_at_call 10; refine HPR.out.mono ?_; rintro e1 w6 ⟨b, cap, l, rfl, hpo, hil, hb1, hb2, hb3⟩; obtain ⟨ls, xs, hll, hpg, hok⟩ := HR.out; obtain ⟨p2, c2, w8, hap, hpg2, hb8⟩ := hpg.push (by have := HI.out; omega) hb1 hb2 hil hb3 HB.out.size; rw [hll] at hap hpg2; have HR8 : Hid (∃ ls xs, ls.length = i + 1 ∧ PgL w1.heap.size w8 (.slice p2 (i + 1) c2) ls xs ∧ ∀ l ∈ ls, PrgOk l) := Lib.hid ⟨_, _, by rw [List.length_append, hll]; rfl, hpg2, fun y hy => (List.mem_append.1 hy).elim (hok y) (fun q => by rw [List.mem_singleton.1 q]; exact hpo)⟩; have HB8 := Lib.hid (HB.out.trans hb8); clear hpo hil hb1 hb2 hb3 hll hpg hok hpg2 hb8 HR)
        go_wp2_with fail
        go_roundw
        case rel => exact ⟨i + 1, p2, c2, HI.out, by go_num, rfl, HR8, HB8⟩
        case measure => have := HI.out; simp [intOf]; omega
      · obtain rfl : i = m := by omega
        go_wp2_with fail
        go_ret
        obtain ⟨ls, xs, h1, h2, h3⟩ := HR.out
        exact ⟨_, ls, xs, rfl, by have := HM.out; omega, h3, h2, HB.out⟩
end Go.Proofs.YtnbhohaphmilmaaGreatDoor
namespace Go.Proofs.YtnbhohaphmilmaaGreatDoor
open Go.RowKit
set_option linter.unusedVariables false
set_option linter.unusedSimpArgs false
section
variable {w : World} {k : KC} {s : KSt} {nc N : Nat} {Pg : Nat → List CodeLaw.Ins}
/-- one more process -/
theorem ask_moreA (h : KT w k s) (hs : Ks s nc N) (hm : MpA s.m N Pg noD) (h1 : 1 ≤ N) (h6 : N < 6) (n1 : 1 ≤ nc) (n4 : nc ≤ 4) :
    Spec w (KOut w.heap.size k s.tag (fun s' e a b => e = 0 ∧ a = (N + 1 : Nat) ∧ b = 0 ∧ Ks s' nc (N + 1) ∧ ∃ b nb, MfA s'.m N Pg b nb s.m)) 173 #[.pointer (some ⟨k.K, 0, none⟩), .int .i64 1] := by
  obtain ⟨b, hmf⟩ := hm.fork h1 (by omega)
  obtain ⟨wb, hcw⟩ := hs.cw
  have g1 := hs.ps 1 (by decide) h1
  refine kfork_is (p := 1) (c := N + 1) (s1 := 1) (b := b) (s2 := N + 1) h ⟨by decide, by decide, g1.aw.lv⟩ hs.one g1.sp hmf (by omega) (by omega) (hs.t0 (N + 1) (by omega)) (fun j a1 a2 => by rw [(hs.ps j a1 (by omega)).aw.lv]; decide) hs.n13 (bw := wb) (by rw [hcw]; rfl) hs.n18 g1.aw.sg (by rw [hcw]; exact if_neg (by omega)) (by rw [hs.l]; have := (entered_ok n1 n4 (show N - 1 < 6 by omega)).2.2; rw [show N - 1 + 2 = N + 1 by omega] at this; exact this) (by rw [hs.l, (entered_ok n1 n4 (show N - 1 < 6 by omega)).1]; omega) (by omega) (fun i _ => hs.fd _) hs.fs ?_
  intro m' nb c' tag' ad' cap' hnb hf hco h0 hsg hsl hrg hr0 hon
  have hlt : ∀ p : Int, s.m.S p ≠ some nb := fun p e => by
    have := h.me.lt (k := nb) (.inr (.inr (.inr (.inl ⟨p, e⟩))))
    omega
  refine ⟨rfl, rfl, rfl, ⟨hs.cp, (hco 0 (by omega)).trans hs.c0, (hco 654 (by omega)).trans hs.c9, hs.wv, hs.wl, hs.wn, hs.tk, ?_, hs.fr, hs.sl, fun p p1 p2 => ?_, fun p hp => ?_, fun i => ?_, ?_, fun j hj => by show (c' _).oneCell' = true; rw [hco _ (by omega)]; exact hs.one j hj, (hco _ (by omega)).trans hs.n13, (hco _ (by omega)).trans hs.n18, hs.cw, fun p a1 a2 => by
    show (ProcLaw.forked s.t (N + 1) 1 p).par = 1
    unfold ProcLaw.forked
    by_cases e : p = N + 1
    · subst e; rw [ProcLaw.updE_same]; rfl
    · rw [ProcLaw.updE_other _ _ e]; exact hs.par p a1 (by omega)⟩, b, nb, ⟨hm, hmf.hs, hf, hlt⟩⟩
  · show enterL s.l ((N + 1 : Nat) : Int) s.nc = entered nc (N + 1 - 1)
    rw [hs.l, hs.cp]
    obtain ⟨n, rfl⟩ : ∃ n, N = n + 1 := ⟨N - 1, by omega⟩
    rfl
  · rcases Nat.lt_or_ge N p with q | q
    · obtain rfl : p = N + 1 := by omega
      refine ⟨⟨by omega, by omega, by show (ProcLaw.forked s.t (N + 1) 1 (N + 1)).st = 1; unfold ProcLaw.forked; rw [ProcLaw.updE_same], by show c' _ = _; rw [hsl]; exact g1.aw.sl, hsg⟩, fun j hj => ?_, h0⟩
      show c' (8 + (N + 1) * 38 + 1 + j) = _
      rw [Nat.add_assoc _ 1 j]
      rcases Nat.lt_or_ge j 3 with q3 | q3
      · rw [hr0 (1 + j) (by omega) (by omega)]
        have : j = 0 ∨ j = 1 ∨ j = 2 := by omega
        rcases this with rfl | rfl | rfl <;> rfl
      · rw [hrg (1 + j) (by omega) (by omega), ← Nat.add_assoc]
        exact g1.rg j hj
    · have g := hs.ps p p1 q
      have hout : ∀ j, j < 38 → c' (8 + p * 38 + j) = s.c (8 + p * 38 + j) := fun j hj => hco _ (by omega)
      refine ⟨⟨p1, by omega, by show (ProcLaw.forked s.t (N + 1) 1 p).st = 1; unfold ProcLaw.forked; rw [ProcLaw.updE_other _ _ (by omega)]; exact g.aw.lv, by show c' _ = _; rw [hout 37 (by decide)]; exact g.aw.sl, fun j hj => by show c' _ = _; rw [Nat.add_assoc, hout (19 + j) (by omega), ← Nat.add_assoc]; exact g.aw.sg j hj⟩, fun j hj => by show c' _ = _; rw [Nat.add_assoc, hout (1 + j) (by omega), ← Nat.add_assoc]; exact g.rg j hj, by show c' _ = _; have := hout 0 (by decide); rw [Nat.add_zero] at this; rw [this]; exact g.sp⟩
  · show (ProcLaw.forked s.t (N + 1) 1 p).st = 0
    unfold ProcLaw.forked
    rw [ProcLaw.updE_other _ _ (by omega)]
    exact hs.t0 p (by omega)
  · show OpenLaw.cpD s.fd 1 (N + 1) 8 i = 0
    rw [OpenLaw.cpD_at]
    split <;> exact hs.fd _
  · show ∀ k, k < 32 → 0 ≤ (OpenLaw.fkF s.fs (fun i => s.fd (1 * 8 + i)) 8 k).n ∧ (OpenLaw.fkF s.fs (fun i => s.fd (1 * 8 + i)) 8 k).n ≤ 200
    rw [fk0 _ _ _ (fun i => hs.fd _)]
    exact hs.fs
/-- the first process forks -/
theorem ask_forkA (h : KT w k s) (hs : Ks s nc N) (hm : MpA s.m N Pg noD) (h1 : 1 ≤ N) (h6 : N < 6) (n1 : 1 ≤ nc) (n4 : nc ≤ 4) :
    Calls Tryz.prog 15 #[.pointer (some ⟨k.K, 0, none⟩), .int .i64 1, .agg (callT 2)] w fun e w' => ∃ s' b nb, e = .returned (.agg (ansV 0 (N + 1 : Nat) 0 (.slice none 0 0))) ∧ KG s k w w' s' ∧ Ks s' nc (N + 1) ∧ MfA s'.m N Pg b nb s.m := by
  have ok := kout_ok (k := k) (w0 := w) (tag0 := s.tag) h.tz (fun s' e a b => e = 0 ∧ a = (N + 1 : Nat) ∧ b = 0 ∧ Ks s' nc (N + 1) ∧ ∃ b nb, MfA s'.m N Pg b nb s.m)
  refine (askP_is ok (Below.refl _ _) h (hs.ps 1 (by decide) h1).aw rfl (doP_is ok (.inr (.inl rfl)) rfl rfl (proc_fork (by decide) (by decide) ok rfl rfl (ask_moreA h hs hm h1 h6 n1 n4)))).mono ?_
  rintro e2 w' ⟨X, rfl, hX, hone, hu, s', e, a, b, hk, hf, rfl, ⟨rfl, rfl, rfl, hks, b, nb, hmf⟩, hU⟩
  exact ⟨s', b, nb, rfl, ⟨hk, hU, hf⟩, hks, hmf⟩
/-- the child's program is put -/
theorem put_moreA {b nb : Nat} {v : Value} {m0 : MS} (h : KT w k s) (hs : Ks s nc (N + 1)) (hm : MfA s.m N Pg b nb m0) (h1 : 1 ≤ N) (h6 : N < 6) (hl : PrgA (Pg (N + 1))) (hv : InsL w v (Pg (N + 1))) :
    Calls Tryz.prog 13 #[.pointer (some ⟨k.K, 0, none⟩), .int .i64 (N + 1 : Nat), v] w fun e w' => e = .returned (.bool true) ∧ ∃ s', KG s k w w' s' ∧ Ks s' nc (N + 1) ∧ MpA s'.m (N + 1) Pg noD := by
  have g := hs.ps (N + 1) (by omega) (Nat.le_refl _)
  obtain ⟨q1, q2, q3, q4, q5⟩ := hm.mayput h1
  refine (put_prog h (p := N + 1) (b := nb) (s1 := (N + 1 : Nat)) ⟨by omega, by omega, g.aw.lv, g.sp, wf_small (by omega), q1, q2, fun j g r a1 a2 e => ?_, ?_, by omega⟩ hv hl.encs hl.len.1 hl.len.2).mono ?_
  · obtain ⟨-, -, q1, q2⟩ := q3 j g r e
    exact ⟨q1, by rw [q2]; decide, by rw [q2]; decide⟩
  · rw [hs.fr]; omega
  · rintro e w' ⟨rfl, m1, m', tag', hu, hp, hg⟩
    exact ⟨rfl, _, hg, hs.mem m' tag', hm.put h1 hl hu hp hg.kt.me.nd (fun g hg => h.me.lt (.inr (.inr (.inr (.inr hg)))))⟩
/-- the first process's program is put -/
theorem put_firstA {nc : Nat} {c : Nat → Value} {tag : Nat → Nat} {T cc sp wb : Nat} {v : Value} (h : KT w k (sS0 nc c tag T cc sp wb)) (hs : Ks (sS0 nc c tag T cc sp wb) nc 1) (hl : PrgA (Pg 1)) (hv : InsL w v (Pg 1)) :
    Calls Tryz.prog 13 #[.pointer (some ⟨k.K, 0, none⟩), .int .i64 1, v] w fun e w' => e = .returned (.bool true) ∧ ∃ s', KG (sS0 nc c tag T cc sp wb) k w w' s' ∧ Ks s' nc 1 ∧ MpA s'.m 1 Pg noD := by
  have g := hs.ps 1 (by decide) (by decide)
  refine (put_prog h (p := 1) (b := sp) (s1 := 1) ⟨by decide, by decide, g.aw.lv, g.sp, by decide, rfl, (fun _ _ _ _ _ e => nomatch e), (fun j g r a1 a2 e => nomatch e), by show ((0 : Nat) : Int) + 5 ≤ 48; decide, by show 0 < 9000; decide⟩ hv hl.encs hl.len.1 hl.len.2).mono ?_
  rintro e w' ⟨rfl, m1, m', tag', hu, hp, hg⟩
  refine ⟨rfl, _, hg, hs.mem m' tag', mpA_one (b := sp) hl (fun p => ?_) (Nat.le_refl _) rfl (fun _ => rfl) rfl hu hp hg.kt.me.nd⟩
  show (if (p : Int) = 1 then some sp else none) = _
  by_cases e : p = 1
  · rw [if_pos e, if_pos (by omega)]
  · rw [if_neg e, if_neg (by omega)]
end
attribute [local go_sem ↓] ld_ans st_ans bd_callT
set_option maxRecDepth 100000 in
set_option maxHeartbeats 2000000 in
theorem rvkA_is {w : World} {nc n : Nat} (n1 : 1 ≤ nc) (n4 : nc ≤ 4) (hn : n < 6) {Pg : Nat → List CodeLaw.Ins} (hp1 : Pg 1 = loopL) (hpa : ∀ p, PrgA (Pg p)) {v : Value} {ls : List (List CodeLaw.Ins)} {xs : List Value} {B : Nat} (hls : ls.length = n) (hpl : ∀ i l, ls[i]? = some l → Pg (i + 2) = l) (hv : PgL B w v ls xs) : Calls Tryz.prog 7 #[.int .i64 nc, v] w fun e w' => ∃ k s, e = .returned (.tuple #[.pointer (some ⟨k.K, 0, none⟩), .bool true]) ∧ Sv w w' k s ∧ Ks s nc (n + 1) ∧ MpA s.m (n + 1) Pg noD := by
  have HV := Lib.hid hv
  have HNL := Lib.hid hls.symm
  have HPL := Lib.hid hpl
  have HPA := Lib.hid hpa
  have HP1 := Lib.hid hp1
  have hown := hv.own
  rw [hls] at hown
  obtain ⟨p0, cap, rfl⟩ := own_form hown
  have HM := Lib.hid (make_is w)
  have HN := Lib.hid (And.intro n1 n4)
  have hbd := fun w => bdcT_0 w 2
  have n6 : (n : Int) < 6 := by omega
  clear hv n1 n4 hpl hpa hp1 hown hls
  go_enter Tryz.func7, Tryz.ntmps7
  go_upto_region 2 with (go_at_call 11; refine HM.out.mono ?_; rintro e1 w1 ⟨D, sb, nb, rfl, hdk, -, -, -, hb1⟩)
  have HST := Lib.hid (start_is hdk fmt_is.1 HN.out.1 HN.out.2)
  have HB1 := Lib.hid hb1
  clear HM hdk hb1
  go_upto_region 5 with (go_at_call 12; refine HST.out.mono ?_; rintro e2 w2 ⟨K, P, Wh, Fi, Pr, R, M, so, sp, c, rfl, hks, hb2⟩)
  obtain ⟨tag, T, cc, wb, hkt, hlo⟩ := hks.toKT HN.out.1 HN.out.2
  have HS2 : Hid (Sv w w2 ⟨K, Wh, Fi, Pr, R, M, so⟩ (sS0 nc c tag T cc sp wb)) := Lib.hid ⟨hkt, fun j hj => Nat.le_trans HB1.out.size (hlo j hj), HB1.out.trans (hb2.mono HB1.out.size)⟩
  have HKS := Lib.hid (hks.ks tag T cc wb)
  have HLP := Lib.hid (loop_is w2)
  clear hks hb2 hkt hlo HST HB1
  obtain ⟨k, hk⟩ : ∃ k : KC, k = ⟨K, Wh, Fi, Pr, R, M, so⟩ := ⟨_, rfl⟩
  rw [← hk] at HS2
  obtain rfl : K = k.K := by rw [hk]
  clear hk
  go_upto_region 7 with (first | (go_at_call 14; refine HLP.out.mono ?_; rintro e3 w3 ⟨b3, h30, h31, rfl, hi3, hb3⟩; have HS3 := Lib.hid (HS2.out.keep hb3); have HPF := Lib.hid (put_firstA (Pg := Pg) HS3.out.kt HKS.out (HPA.out 1) (by rw [HP1.out]; exact hi3)); clear hb3 hi3) | (go_at_call 13; refine HPF.out.mono ?_; rintro e4 w4 ⟨rfl, s4, hg4, hk4, hm4⟩; have HS4 := Lib.hid (HS3.out.kg hg4); have HK4 := Lib.hid hk4; have HM4 := Lib.hid hm4; clear hg4 hk4 hm4))
  have HR0 : Hid (∃ s, Sv w w4 k s ∧ Ks s nc (0 + 1) ∧ MpA s.m (0 + 1) Pg noD) := Lib.hid ⟨s4, HS4.out, HK4.out, HM4.out⟩
  clear HS4 HK4 HM4 HPF HS3 HLP HKS HS2
  go_wp2_with fail
  go_loopw [38] (fun kv wr => ∃ i : Nat, i ≤ n ∧ kv = .int .i64 i ∧ Hid (∃ s, Sv w wr k s ∧ Ks s nc (i + 1) ∧ MpA s.m (i + 1) Pg noD)) (fun kv _ => n - (intOf kv).toNat)
  case atStart => exact ⟨0, Nat.zero_le _, rfl, HR0⟩
  case round =>
    obtain ⟨i, hi0, rfl, HR⟩ := hrel
    by_cases hi : i < n
    · have i1 : (i : Int) < n := by omega
      obtain ⟨s, hsv, hks, hmp⟩ := HR.out
      have hvr := owns_keep HV.out.own hsv.hb
      have hnl := HNL.out
      rw [← hnl] at hvr
      obtain ⟨b0, hb0, hcell⟩ : ∃ b0, p0 = some ⟨b0, 0, none⟩ ∧ ∀ j u, xs[j]? = some u → wr.cell? ((⟨b0, 0, none⟩ : Addr).add j) = some u := by
        rcases hvr.2 with ⟨e, _⟩ | ⟨g, c', cur, e, _⟩
        · have e : (.slice p0 n cap : Value) = .slice none 0 0 := e
          injection e with _ e _
          omega
        · have e : (.slice p0 n cap : Value) = .slice (some ⟨g, 0, none⟩) n c' := e
          injection e with e _ _
          subst e
          exact ⟨g, rfl, hvr.cells (g := g) rfl⟩
      subst hb0
      obtain ⟨x, hx⟩ : ∃ x, xs[i]? = some x := ⟨xs[i]'(by rw [HV.out.len, ← hnl]; exact hi), List.getElem?_eq_getElem _⟩
      obtain ⟨lx, bx, capx, hlx, rfl, hbx, hix, -⟩ := HV.out.one i x hx
      have hpi := HPL.out i lx hlx
      subst hpi
      have hcx := hcell i _ hx
      rw [Addr.add_lit, Nat.zero_add] at hcx
      have HIX := Lib.hid hix
      have HSV := Lib.hid hsv
      have HAF := Lib.hid (ask_forkA hsv.kt hks hmp (by omega) (by omega) HN.out.1 HN.out.2)
      rw [show ((i + 1 + 1 : Nat) : Int) = (i : Int) + 2 by omega] at HAF
      clear hsv hks hmp hvr hcell hx hbx hix hlx hnl
      go_upto_region 11 with (go_at_call 15; refine HAF.out.mono ?_; rintro e5 w5 ⟨s5, b5, nb5, rfl, hg5, hk5, hm5⟩; have hst := ans_newT w5 0 ((i : Int) + 2) 0; have HS5 := Lib.hid (HSV.out.kg hg5); have HK5 := Lib.hid hk5; have HM5 := Lib.hid hm5; clear hg5 hk5 hm5)
      have HA : Hid (Below w5.heap.size w5 (w5.alloc (.cells (ansV 0 ((i : Int) + 2) 0 (.slice none 0 0)) 59))) := Lib.hid (Go.Joins.below_alloc1 w5 _)
      have hrn := row_new w5 59 (ansV 0 ((i : Int) + 2) 0 (.slice none 0 0))
      have q0 := hrn.cell 0
      have q1 := hrn.cell 1
      rw [show (ansV 0 ((i : Int) + 2) 0 (.slice none 0 0))[0]? = some (.int .i64 0) from rfl] at q0
      rw [show (ansV 0 ((i : Int) + 2) 0 (.slice none 0 0))[1]? = some (.int .i64 ((i : Int) + 2)) from rfl] at q1
      have HS6 := Lib.hid (HS5.out.keep HA.out)
      clear hst hrn HA HAF HS5
      generalize w5.alloc (.cells (ansV 0 ((i : Int) + 2) 0 (.slice none 0 0)) 59) = w6 at *
      generalize w5.heap.size = g5 at *
      have HPM := Lib.hid (put_moreA HS6.out.kt HK5.out HM5.out (by omega) (by omega) (HPA.out _) (HIX.out.keep HS6.out.hb))
      rw [show ((i + 1 + 1 : Nat) : Int) = (i : Int) + 2 by omega] at HPM
      go_upto_region 13 with (go_at_call 13; refine HPM.out.mono ?_; rintro e7 w7 ⟨rfl, s7, hg7, hk7, hm7⟩; have HR7 : Hid (∃ s, Sv w w7 k s ∧ Ks s nc (i + 1 + 1) ∧ MpA s.m (i + 1 + 1) Pg noD) := Lib.hid ⟨s7, HS6.out.kg hg7, hk7, hm7⟩; clear hg7 hk7 hm7)
      go_wp2_with fail
      go_roundw
      case rel => exact ⟨i + 1, by omega, by go_num, HR7⟩
      case measure => simp [intOf]; omega
    · obtain rfl : i = n := by omega
      go_wp2_with fail
      go_ret2
      obtain ⟨s, h1, h2, h3⟩ := HR.out
      exact ⟨k, s, rfl, h1, h2, h3⟩
end Go.Proofs.YtnbhohaphmilmaaGreatDoor
namespace Go.Proofs.YtnbhohaphmilmaaGreatDoor.CpuLaw
open Go.RowKit
set_option linter.unusedVariables false
set_option linter.unusedSimpArgs false
/-- the memory, whatever pages are in frames, with a page of data -/
def DQ (M so : Nat) (fr sl : Int) (m : MS) (g4 : Nat) (d : Nat → Nat) (w : World) : Prop := MemQ M so fr sl (m.dat g4 (fun i => (d i : Int))) w
/-- a space that has a page of data of its own -/
structure Own4 (m : MS) (s : Int) (b g4 : Nat) (fr sl : Int) : Prop where
  ms : m.S s = some b
  wf : (Lit.int .i64 s).wf = true
  len : (m.pl.length : Int) ≤ fr
  f4 : m.F b 4 = some (g4, 3)
  gin : g4 ∈ m.pl
  u1 : m.u g4 = 1
  lone : Lone (m.F b)
  fr1 : 0 ≤ fr ∧ fr ≤ 1000
  sl1 : 0 ≤ sl ∧ sl ≤ 1000
theorem dat_dat (m : MS) (g : Nat) (f f' : Nat → Int) : (m.dat g f).dat g f' = m.dat g f' := by
  unfold MS.dat
  simp only [MS.mk.injEq, true_and, and_true]
  funext k
  unfold fup
  split <;> rfl
theorem word_dat {m : MS} {b g4 a x : Nat} {d : Nat → Int} (h : WordAt m b a x) (f4 : m.F b 4 = some (g4, 3)) (hl : Lone (m.F b)) : WordAt (m.dat g4 d) b a x := by
  obtain ⟨pg, r, g, o, x0, x1, x2, x3, h0, h1, h2, h3, h4, h5, h6, h7, h8, h9, h10, h11, h12⟩ := h.at'
  have hne : g ≠ g4 := fun e => by
    subst e
    have e4 : pg = 4 := hl pg 4 g r 3 h2 f4
    subst e4
    rw [f4] at h2
    injection h2 with h2
    injection h2 with _ h2
    subst h2
    exact absurd h4 (by decide)
  have hd : (m.dat g4 d).d g = m.d g := fup_off _ _ hne
  exact ⟨pg, r, g, o, x0, x1, x2, x3, h0, h1, h2, h3, h4, h5, h6, h7, by rw [hd]; exact h8, by rw [hd]; exact h9, by rw [hd]; exact h10, by rw [hd]; exact h11, h12⟩
section
variable {w : World} {M so b g4 : Nat} {fr sl s : Int} {m : MS} {d : Nat → Nat}
theorem calmD (h : DQ M so fr sl m g4 d w) (d' : Nat → Nat) : CalmQ (DQ M so fr sl m g4 d') (memS M m) w.heap.size := by
  obtain ⟨h0, hm⟩ := h
  refine ⟨fun w1 w2 ⟨h', q⟩ hb => ⟨h', q.keep hb⟩, fun w1 w2 dd ⟨h', q⟩ hd ho => ⟨h', q.upd ho.toUpd fun k hk e => ?_⟩, fun k hk => ?_⟩
  · have h1 : mB M so m k := hk
    have := hm.lt (k := k) h1
    have e : k = dd := e
    omega
  · rcases hk with q | q
    · exact hm.lt (.inl q)
    · exact hm.lt (.inr (.inr (.inr (.inr q))))
/-- one byte is stored -/
theorem st1D (hw : Own4 m s b g4 fr sl) {o x j a z : Nat} (h : DQ M so fr sl m g4 (putd d o x j) w) (ha : a = 64 + (o + j)) (h16 : o + j < 16) (hz : z = x / 2 ^ (8 * j) % 256) :
    Calls Tryz.prog 460 #[.agg #[.pointer (some ⟨M, 0, none⟩), .int .i64 s], .int .u32 a, .int .u8 z] w fun e w' => e = .returned (.int .i64 0) ∧ DQ M so fr sl m g4 (putd d o x (j + 1)) w' ∧ Upd (memS M m) w w' := by
  obtain ⟨h', hm⟩ := h
  have hl : (((m.dat g4 (fun i => (putd d o x j i : Int))).pl.length : Nat) : Int) ≤ fr := hw.len
  refine (bstore_is (k := o + j) (a := a) (pg := 4) (g := g4) hm hw.ms hw.wf (by decide) (by decide) hw.f4 hw.gin (here_or hw.gin hw.len) hw.u1 (by omega) h16 hw.fr1 hw.sl1 (by have := hw.sl1.1; have h2 := hw.len; show ((m.pl.length : Nat) : Int) ≤ fr + sl; omega) (by decide) (z : Int)).mono ?_
  rintro e w' ⟨rfl, hm', hu⟩
  refine ⟨rfl, ⟨fup h' g4 true, ?_⟩, hu.mono fun k _ e => by
    rcases e with e | e
    · exact .inl e
    · exact .inr (by rw [e]; exact hw.gin)⟩
  have e : ({ ({ m.dat g4 (fun i => (putd d o x j i : Int)) with h := h' } : MS) with h := fup h' g4 true } : MS).dat g4 (fun i => if i = o + j then (z : Int) else ({ m.dat g4 (fun i => (putd d o x j i : Int)) with h := h' } : MS).d g4 i) = ({ m.dat g4 (fun i => (putd d o x (j + 1) i : Int)) with h := fup h' g4 true } : MS) := by
    have e1 : (fun i => if i = o + j then (z : Int) else ({ m.dat g4 (fun i => (putd d o x j i : Int)) with h := h' } : MS).d g4 i) = (fun i => (putd d o x (j + 1) i : Int)) := by
      funext i
      rw [← putd_succ, ← hz]
      have e2 : ({ m.dat g4 (fun i => (putd d o x j i : Int)) with h := h' } : MS).d g4 = fun i => (putd d o x j i : Int) := fup_same _ _ _
      rw [e2]
      show _ = (((if i = o + j then z else putd d o x j i) : Nat) : Int)
      by_cases q : i = o + j
      · rw [if_pos q, if_pos q]
      · rw [if_neg q, if_neg q]
    rw [e1]
    have e3 := dat_dat ({ m with h := fup h' g4 true } : MS) g4 (fun i => (putd d o x j i : Int)) (fun i => (putd d o x (j + 1) i : Int))
    exact e3
  rw [e] at hm'
  exact hm'
/-- the kernel's bus -/
theorem kbus_is (hw : Own4 m s b g4 fr sl) : Bus (DQ M so fr sl m g4) (memS M m) (kbus M s) (fun a x => WordAt m b a x) where
  calm d d' w h := calmD h d'
  fetch d a x hx := by
    have hx : WordAt m b a x := hx
    exact fetchQ (m := m.dat g4 (fun i => (d i : Int))) hw.ms hw.wf hw.len (word_dat hx hw.f4 hw.lone)
  xlt a x hx := hx.lt
  load d o o13 o4 hd w1 hQ := by
    obtain ⟨h', hm⟩ := id hQ
    have e : ∀ i, ({ m.dat g4 (fun i => (d i : Int)) with h := h' } : MS).d g4 i = (d i : Int) := fun i => congrFun (fup_same m.d g4 _) i
    exact fetchK_is (m := { m.dat g4 (fun i => (d i : Int)) with h := h' }) (pg := 4) (g := g4) (r := 3) hm hw.ms hw.wf (by decide) (by decide) hw.f4 hw.gin hw.len (.inl rfl) (by decide) (o := o) (a := 64 + o) (by omega) o4 (by omega) (e _) (e _) (e _) (e _) (hd _) (hd _) (hd _) (hd _) (Nat.le_refl _) ⟨h', hm⟩
  store d o x o13 o4 hx w1 hQ := by
    have hK := calmD hQ
    have hn : ∀ k, memS M m k → k < w1.heap.size := (hK d).low
    have add : ∀ (j : Nat), j < 4 → ∀ w, (add33 (.int .u32 (64 + o : Nat)) (.int .u32 j)).run Tryz.prog w = .ok (.int .u32 (64 + (o + j) : Nat)) w := fun j hj w => add_u32 (by omega) w
    have step : ∀ (j a z : Nat), a = 64 + (o + j) → j < 4 → z = x / 2 ^ (8 * j) % 256 → ∀ w2, (Slot w1.heap.size 0 0 w2 ∧ DQ M so fr sl m g4 (putd d o x j) w2 ∧ Upd (memS M m) w1 w2) → Calls Tryz.prog 460 #[.agg #[.pointer (some ⟨M, 0, none⟩), .int .i64 s], .int .u32 a, .int .u8 z] w2 fun e w' => e = .returned (.int .i64 0) ∧ (Slot w1.heap.size 0 0 w' ∧ DQ M so fr sl m g4 (putd d o x (j + 1)) w' ∧ Upd (memS M m) w1 w') := fun j a z ha hj hz w2 h => (st1D hw h.2.1 ha (by omega) hz).mono fun e w' q => ⟨q.1, h.1.keepU q.2.2 (fun e => by have := hn _ e; omega), q.2.1, h.2.2.trans q.2.2⟩
    refine (put_walk (P := fun j w2 => Slot w1.heap.size 0 0 w2 ∧ DQ M so fr sl m g4 (putd d o x j) w2 ∧ Upd (memS M m) w1 w2) (by simp; omega) ⟨slot_new w1, by rw [putd_zero]; exact (hK d).keep _ _ hQ (Go.Joins.below_alloc1 _ _), Upd.alloc _ _⟩ (fun j w2 h => h.1)
      (add 0 (by decide)) (sh_ok 0 1 (x / 2 ^ (8 * 0)) (by decide) rfl rfl) (n_ok rfl) (step 0 _ _ rfl (by decide) rfl)
      (add 1 (by decide)) (sh_ok 8 256 (x / 2 ^ (8 * 1)) (by decide) rfl rfl) (n_ok rfl) (step 1 _ _ rfl (by decide) rfl)
      (add 2 (by decide)) (sh_ok 16 65536 (x / 2 ^ (8 * 2)) (by decide) rfl rfl) (n_ok rfl) (step 2 _ _ rfl (by decide) rfl)
      (add 3 (by decide)) (sh_ok 24 16777216 (x / 2 ^ (8 * 3)) (by decide) rfl rfl) (n_ok rfl) (step 3 _ _ rfl (by decide) rfl)).mono ?_
    rintro e w' ⟨rfl, w2, ⟨hs, hq, hu⟩, rfl⟩
    have ho : Off w1.heap.size w2 ((w2.setCell ⟨w1.heap.size, 0, none⟩ (.int .i64 0)).setCell ⟨w1.heap.size, 1, none⟩ (.int .u32 0)) := (Off.set _ _).trans (.set _ _)
    exact ⟨rfl, (hK _).own _ _ _ hq (Nat.le_refl _) ho, Off.upd hu ho (Nat.le_refl _)⟩
end
end Go.Proofs.YtnbhohaphmilmaaGreatDoor.CpuLaw
namespace Go.Proofs.YtnbhohaphmilmaaGreatDoor
open Go.RowKit Go.Maps
set_option linter.unusedVariables false
set_option linter.unusedSimpArgs false
section
variable {w w' : World} {M so g : Nat} {fr sl : Int} {m : MS}
set_option maxRecDepth 100000 in
set_option maxHeartbeats 1000000 in
theorem oldest_is (h : MemG w M so fr sl m) (hc : 0 < m.pl.countP m.h) : Calls Tryz.prog 52 #[.pointer (some ⟨M, 0, none⟩)] w fun e w' => ∃ g, e = .returned (.pointer (some ⟨g, 0, none⟩)) ∧ g ∈ m.pl ∧ m.h g = true ∧ Below w.heap.size w w' := by
  obtain ⟨p, cap, hpv, hlc, hcm, hcell⟩ := h.cells
  have HM := Lib.hid h
  have HC := Lib.hid hcell
  have hmx : (m.pl.length : Int) ≤ 9223372036854775807 := by unfold maxLen at hcm; omega
  have m3 := h.m3
  rw [hpv] at m3
  obtain ⟨n, hn⟩ : ∃ n, n = m.pl.length := ⟨_, rfl⟩
  rw [← hn] at m3 hmx
  have HN := Lib.hid hn
  have HCT := Lib.hid hc
  have H3 : Hid (m.pv = .slice p n cap) := Lib.hid (by rw [hn]; exact hpv)
  clear h hpv hlc hcm hcell hn hc
  go_enter Tryz.func52, Tryz.ntmps52
  go_wp2_with fail
  go_loopw [3, 11] (fun bv kv wr => ∃ k : Nat, k ≤ n ∧ kv = .int .i64 k ∧ ((bv = .pointer none ∧ (m.pl.take k).countP m.h = 0) ∨ ∃ g, bv = .pointer (some ⟨g, 0, none⟩) ∧ g ∈ m.pl ∧ m.h g = true) ∧ Hid (Below w.heap.size w wr)) (fun _ kv _ => n - (intOf kv).toNat)
  case atStart => exact ⟨0, Nat.zero_le _, rfl, .inl ⟨rfl, by simp⟩, Lib.hid (Below.refl _ _)⟩
  case round =>
    obtain ⟨k, hk0, rfl, hbest, HB⟩ := hrel
    by_cases hk : k < n
    · have i1 : (k : Int) < n := by omega
      obtain ⟨g, hg⟩ : ∃ g, m.pl[k]? = some g := ⟨m.pl[k]'(by have := HN.out; omega), List.getElem?_eq_getElem _⟩
      obtain ⟨b, rfl, e0⟩ := HC.out k g hg
      have e0 := (HB.out.cell (World.block_lt_of_cell? w _ e0)).trans e0
      have hmr := HM.out.keep HB.out
      have hp := hmr.pg g (List.mem_of_getElem? hg)
      have e17 := hp.hr
      obtain ⟨ak, e18⟩ := hp.ak
      have HT := Lib.hid (countP_take m.pl m.h hg)
      have HG := Lib.hid (List.mem_of_getElem? hg)
      have HF : Hid (∀ nq, Below w.heap.size w (wr.drewN nq)) := Lib.hid fun nq => below_drewN HB.out nq
      cases hh : m.h g
      · rw [hh] at e17 HT
        rcases hbest with ⟨rfl, q2⟩ | ⟨g2, rfl, hg2, hh2⟩
        · have HQ2 := Lib.hid q2
          clear hmr hp hg q2
          go_wp2_with fail
          go_quiet (fail)
          go_wp2_with fail
          go_roundw
          case rel => exact ⟨k + 1, by omega, by go_num, .inl ⟨rfl, by rw [HT.out, HQ2.out]; simp⟩, Lib.hid (HF.out _)⟩
          case measure => simp [intOf]; omega
        · have HG2 := Lib.hid (And.intro hg2 hh2)
          clear hmr hp hg hg2 hh2
          go_wp2_with fail
          go_quiet (fail)
          go_wp2_with fail
          go_roundw
          case rel => exact ⟨k + 1, by omega, by go_num, .inr ⟨g2, rfl, HG2.out.1, HG2.out.2⟩, Lib.hid (HF.out _)⟩
          case measure => simp [intOf]; omega
      · rw [hh] at e17 HT
        have HH := Lib.hid hh
        rcases hbest with ⟨rfl, -⟩ | ⟨g2, rfl, hg2, hh2⟩
        · clear hmr hp hg
          go_wp2_with fail
          go_quiet (fail)
          go_wp2_with fail
          go_roundw
          case rel => exact ⟨k + 1, by omega, by go_num, .inr ⟨g, rfl, HG.out, HH.out⟩, Lib.hid (HF.out _)⟩
          case measure => simp [intOf]; omega
        · have hp2 := hmr.pg g2 hg2
          obtain ⟨ak2, f18⟩ := hp2.ak
          have HG2 := Lib.hid (And.intro hg2 hh2)
          clear hmr hp hg hp2 hg2 hh2
          by_cases hd : ak < ak2
          · have hd1 : decide (ak < ak2) = true := decide_eq_true hd
            go_wp2_with fail
            go_quiet (fail)
            go_wp2_with fail
            go_roundw
            case rel => exact ⟨k + 1, by omega, by go_num, .inr ⟨g, rfl, HG.out, HH.out⟩, Lib.hid (HF.out _)⟩
            case measure => simp [intOf]; omega
          · have hd1 : decide (ak < ak2) = false := decide_eq_false hd
            go_wp2_with fail
            go_quiet (fail)
            go_wp2_with fail
            go_roundw
            case rel => exact ⟨k + 1, by omega, by go_num, .inr ⟨g2, rfl, HG2.out.1, HG2.out.2⟩, Lib.hid (HF.out _)⟩
            case measure => simp [intOf]; omega
    · obtain rfl : k = n := by omega
      rcases hbest with ⟨rfl, hz⟩ | ⟨g2, rfl, hg2, hh2⟩
      · exfalso
        have := HCT.out
        have e : m.pl.take k = m.pl := List.take_of_length_le (by rw [← HN.out]; omega)
        rw [e] at hz
        omega
      · have HG2 := Lib.hid (And.intro hg2 hh2)
        clear hg2 hh2
        go_wp2_with fail
        go_ret
        exact ⟨g2, rfl, HG2.out.1, HG2.out.2, HB.out⟩
end
end Go.Proofs.YtnbhohaphmilmaaGreatDoor
