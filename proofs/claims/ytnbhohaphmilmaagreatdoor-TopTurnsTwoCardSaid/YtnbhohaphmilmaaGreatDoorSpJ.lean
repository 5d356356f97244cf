/- The kernel while processes are made. No walk here but the fork's ask. The walk of ringtop.rvKernel at programs that go round. The walks of space: Read; lay and Write in a page that nobody shares. -/
import Derived.Test.YtnbhohaphmilmaaGreatDoorKerTk
import Derived.Test.YtnbhohaphmilmaaGreatDoorMake
import Derived.Test.YtnbhohaphmilmaaGreatDoorSpP
namespace Go.Proofs.YtnbhohaphmilmaaGreatDoor
open Go.RowKit
set_option linter.unusedVariables false
set_option linter.unusedSimpArgs false
/-- the registers behind so many turns -/
def gOf (m : Nat) : CpuLaw.G := ⟨fun i => if i = 1 then ((m + 1) / 2) % 4294967296 else 0, if m % 2 = 0 then 0 else 4, 1⟩
theorem gOf_even {m : Nat} (h : m % 2 = 0) : CpuLaw.exG (gOf m) 14 1 1 1 = gOf (m + 1) := by
  have e : CpuLaw.u32z 1 = 1 := by decide
  unfold CpuLaw.exG
  rw [if_pos rfl, e]
  unfold gOf CpuLaw.setR CpuLaw.up
  simp only [CpuLaw.G.mk.injEq]
  refine ⟨?_, ?_, trivial⟩
  · funext i
    by_cases hi : i = 1
    · subst hi; simp only [if_true]; omega
    · simp only [if_neg hi]
  · rw [if_pos h, if_neg (by omega)]
theorem gOf_odd {m : Nat} (h : ¬ m % 2 = 0) : CpuLaw.exG (gOf m) 19 0 0 (-4) = gOf (m + 1) := by
  have e : CpuLaw.u32z (-4) = 4294967292 := by decide
  unfold CpuLaw.exG
  rw [if_neg (by decide), e]
  unfold gOf CpuLaw.up
  simp only [CpuLaw.G.mk.injEq]
  refine ⟨?_, ?_, trivial⟩
  · funext i
    by_cases hi : i = 1
    · subst hi; simp only [if_true]; omega
    · simp only [if_neg hi]
  · rw [if_neg h, if_pos (by omega)]
/-- a process that goes round -/
structure Go1 (s : KSt) (p m : Nat) : Prop where
  aw : Awake s p
  rg : RegsAt s.c (8 + p * 38 + 1) (gOf m)
  sp : s.c (8 + p * 38) = .int .i64 p
/-- the kernel with N processes, none of which has had a turn -/
structure Ks (s : KSt) (nc N : Nat) : Prop where
  cp : s.nc = nc
  c0 : s.c 0 = .int .i64 nc
  c9 : s.c 654 = .int .u32 0
  wv : s.wv = .slice none 0 0
  wl : s.wl = []
  wn : s.wn = 0
  tk : s.tk = 0
  l : s.l = entered nc (N - 1)
  fr : s.fr = 48
  sl : s.sl = 8
  ps : ∀ p, 1 ≤ p → p ≤ N → Go1 s p 0
  t0 : ∀ p, N < p → (s.t p).st = 0
  fd : ∀ i, s.fd i = 0
  fs : ∀ k, k < 32 → 0 ≤ (s.fs k).n ∧ (s.fs k).n ≤ 200
  one : ∀ j, j < 38 → (s.c (8 + 1 * 38 + j)).oneCell' = true
  n13 : s.c (8 + 1 * 38 + 13) = .slice none 0 0
  n18 : s.c (8 + 1 * 38 + 18) = .slice none 0 0
  cw : ∃ wb, s.cw = fun p => if p = 1 then some wb else none
  par : ∀ p, 2 ≤ p → p ≤ N → (s.t p).par = 1
theorem Ks.mem {s : KSt} {nc N : Nat} (h : Ks s nc N) (m : MS) (tag : Nat → Nat) : Ks { s with m := m, tag := tag } nc N :=
  ⟨h.cp, h.c0, h.c9, h.wv, h.wl, h.wn, h.tk, h.l, h.fr, h.sl, fun p a b => ⟨⟨(h.ps p a b).aw.p1, (h.ps p a b).aw.p16, (h.ps p a b).aw.lv, (h.ps p a b).aw.sl, (h.ps p a b).aw.sg⟩, (h.ps p a b).rg, (h.ps p a b).sp⟩, h.t0, h.fd, h.fs, h.one, h.n13, h.n18, h.cw, h.par⟩
theorem fk0 (fs : Nat → OpenLaw.F) (r : Nat → Nat) (n : Nat) (h : ∀ i, r i = 0) : OpenLaw.fkF fs r n = fs := by
  induction n with
  | zero => rfl
  | succ n ih =>
    rw [OpenLaw.fkF, if_pos (h n)]
    exact ih
theorem f0m : 0 ≤ OpenLaw.f0.n ∧ OpenLaw.f0.n ≤ 200 := by decide
theorem kz_sg0 : (List.range 18).map (fun j => kz (65 + j)) = List.replicate 18 (.int .i64 0) := by unfold kz; kernel_rfl
theorem kz_sg (j : Nat) (hj : j < 18) : kz (65 + j) = .int .i64 0 := by
  have h := congrArg (fun l => l[j]?) kz_sg0
  simp only [List.getElem?_map, List.getElem?_replicate, if_pos hj, List.getElem?_range hj, Option.map_some] at h
  injection h
theorem kz_rg0 : (List.range 9).map (fun j => kz (47 + j)) = (List.range 9).map (fun j => ((CpuLaw.cellsA (gOf 0))[j]?).getD undef) := by unfold kz; kernel_rfl
theorem kz_rg (j : Nat) (hj : j < 9) : kz (47 + j) = ((CpuLaw.cellsA (gOf 0))[j]?).getD undef := by
  have h := congrArg (fun l => l[j]?) kz_rg0
  simp only [List.getElem?_map, List.getElem?_range hj, Option.map_some] at h
  injection h
theorem kz_on (j : Nat) (h : j < 655) : (kz j).oneCell' = true := by
  have ha : Tryz.zeroCells87.all (·.oneCell') = true := by kernel_rfl
  have hz : Tryz.zeroCells87.size = 655 := by kernel_rfl
  rw [Array.all_eq_true] at ha
  unfold kz
  rw [Array.getElem?_eq_getElem (by rw [hz]; exact h)]
  exact ha j (by rw [hz]; exact h)
theorem KS.ks {w : World} {nc B K P Wh Fi Pr R M so sp : Nat} {c : Nat → Value} (h : KS w nc B K P Wh Fi Pr R M so sp c) (tag : Nat → Nat) (T cc wb : Nat) : Ks (sS0 nc c tag T cc sp wb) nc 1 := by
  obtain ⟨h0, h1, h2, h3, h4, h5, h6⟩ := h.tk
  obtain ⟨b, hb, -⟩ := h.wd
  refine ⟨rfl, h.c0, ?_, rfl, rfl, rfl, rfl, rfl, rfl, rfl, fun p p1 p2 => ?_, fun p hp => ?_, fun _ => rfl, fun _ _ => f0m, ?_, h3, ?_, ⟨wb, rfl⟩, fun p a b => by omega⟩
  · show c 654 = _
    rw [h.ck 654 (by decide) (by decide) (.inr (by decide))]
    unfold kz
    kernel_rfl
  · obtain rfl : p = 1 := by omega
    refine ⟨⟨by decide, by decide, by show (ProcLaw.start 1).st = 1; decide, h.sl, fun j hj => (h.sg j hj).trans (kz_sg j hj)⟩, fun j hj => ?_, h.t0⟩
    show c (47 + j) = _
    by_cases e : j = 9
    · subst e; rw [show 47 + 9 = 56 by rfl, h0]; rfl
    · rw [h.ck _ (by omega) (by omega) (by omega)]
      exact kz_rg j (by omega)
  · show (ProcLaw.start p).st = 0
    unfold ProcLaw.start
    rw [ProcLaw.updE_other _ _ (by omega)]
  · intro j hj
    show (c (8 + 1 * 38 + j)).oneCell' = true
    by_cases e : j = 0
    · subst e; rw [show 8 + 1 * 38 + 0 = 46 by rfl, h.t0]; rfl
    by_cases e1 : j = 17
    · subst e1; rw [show 8 + 1 * 38 + 17 = 63 by rfl, hb]; rfl
    by_cases e2 : 10 ≤ j ∧ j ≤ 16
    · have : j = 10 ∨ j = 11 ∨ j = 12 ∨ j = 13 ∨ j = 14 ∨ j = 15 ∨ j = 16 := by omega
      rcases this with rfl | rfl | rfl | rfl | rfl | rfl | rfl
      · rw [show 8 + 1 * 38 + 10 = 56 by rfl, h0]; rfl
      · rw [show 8 + 1 * 38 + 11 = 57 by rfl, h1]; rfl
      · rw [show 8 + 1 * 38 + 12 = 58 by rfl, h2]; rfl
      · rw [show 8 + 1 * 38 + 13 = 59 by rfl, h3]; rfl
      · rw [show 8 + 1 * 38 + 14 = 60 by rfl, h4]; rfl
      · rw [show 8 + 1 * 38 + 15 = 61 by rfl, h5]; rfl
      · rw [show 8 + 1 * 38 + 16 = 62 by rfl, h6]; rfl
    · rw [h.ck _ (by omega) (by omega) (by omega)]
      exact kz_on _ (by omega)
  · show c 64 = _
    rw [h.ck 64 (by decide) (by decide) (.inr (by decide))]
    unfold kz
    kernel_rfl
section
variable {w : World} {k : KC} {s : KSt} {nc N : Nat}
/-- one more process -/
theorem ask_more (h : KT w k s) (hs : Ks s nc N) (hm : Mp s.m N) (h1 : 1 ≤ N) (h6 : N < 6) (n1 : 1 ≤ nc) (n4 : nc ≤ 4) :
    Spec w (KOut w.heap.size k s.tag (fun s' e a b => e = 0 ∧ a = (N + 1 : Nat) ∧ b = 0 ∧ Ks s' nc (N + 1) ∧ ∃ b nb, Mf s'.m N b nb)) 173 #[.pointer (some ⟨k.K, 0, none⟩), .int .i64 1] := by
  obtain ⟨b, hmf⟩ := hm.fork h1 (by omega)
  obtain ⟨wb, hcw⟩ := hs.cw
  have g1 := hs.ps 1 (by decide) h1
  refine kfork_is (p := 1) (c := N + 1) (s1 := 1) (b := b) (s2 := N + 1) h ⟨by decide, by decide, g1.aw.lv⟩ hs.one g1.sp hmf (by omega) (by omega) (hs.t0 (N + 1) (by omega)) (fun j a1 a2 => by rw [(hs.ps j a1 (by omega)).aw.lv]; decide) hs.n13 (bw := wb) (by rw [hcw]; rfl) hs.n18 g1.aw.sg (by rw [hcw]; exact if_neg (by omega)) (by rw [hs.l]; have := (entered_ok n1 n4 (show N - 1 < 6 by omega)).2.2; rw [show N - 1 + 2 = N + 1 by omega] at this; exact this) (by rw [hs.l, (entered_ok n1 n4 (show N - 1 < 6 by omega)).1]; omega) (by omega) (fun i _ => hs.fd _) hs.fs ?_
  intro m' nb c' tag' ad' cap' hnb hf hco h0 hsg hsl hrg hr0 hon
  have hlt : ∀ p : Int, s.m.S p ≠ some nb := fun p e => by
    have := h.me.lt (k := nb) (.inr (.inr (.inr (.inl ⟨p, e⟩))))
    omega
  refine ⟨rfl, rfl, rfl, ⟨hs.cp, (hco 0 (by omega)).trans hs.c0, (hco 654 (by omega)).trans hs.c9, hs.wv, hs.wl, hs.wn, hs.tk, ?_, hs.fr, hs.sl, fun p p1 p2 => ?_, fun p hp => ?_, fun i => ?_, ?_, fun j hj => by show (c' _).oneCell' = true; rw [hco _ (by omega)]; exact hs.one j hj, (hco _ (by omega)).trans hs.n13, (hco _ (by omega)).trans hs.n18, hs.cw, fun p a1 a2 => by
    show (ProcLaw.forked s.t (N + 1) 1 p).par = 1
    unfold ProcLaw.forked
    by_cases e : p = N + 1
    · subst e; rw [ProcLaw.updE_same]; rfl
    · rw [ProcLaw.updE_other _ _ e]; exact hs.par p a1 (by omega)⟩, b, nb, hm.forked h1 hmf.hs hf hlt⟩
  · show enterL s.l ((N + 1 : Nat) : Int) s.nc = entered nc (N + 1 - 1)
    rw [hs.l, hs.cp]
    obtain ⟨n, rfl⟩ : ∃ n, N = n + 1 := ⟨N - 1, by omega⟩
    rfl
  · rcases Nat.lt_or_ge N p with q | q
    · obtain rfl : p = N + 1 := by omega
      refine ⟨⟨by omega, by omega, by show (ProcLaw.forked s.t (N + 1) 1 (N + 1)).st = 1; unfold ProcLaw.forked; rw [ProcLaw.updE_same], by show c' _ = _; rw [hsl]; exact g1.aw.sl, hsg⟩, fun j hj => ?_, h0⟩
      show c' (8 + (N + 1) * 38 + 1 + j) = _
      rw [Nat.add_assoc _ 1 j]
      rcases Nat.lt_or_ge j 3 with q3 | q3
      · rw [hr0 (1 + j) (by omega) (by omega)]
        have : j = 0 ∨ j = 1 ∨ j = 2 := by omega
        rcases this with rfl | rfl | rfl <;> rfl
      · rw [hrg (1 + j) (by omega) (by omega), ← Nat.add_assoc]
        exact g1.rg j hj
    · have g := hs.ps p p1 q
      have hout : ∀ j, j < 38 → c' (8 + p * 38 + j) = s.c (8 + p * 38 + j) := fun j hj => hco _ (by omega)
      refine ⟨⟨p1, by omega, by show (ProcLaw.forked s.t (N + 1) 1 p).st = 1; unfold ProcLaw.forked; rw [ProcLaw.updE_other _ _ (by omega)]; exact g.aw.lv, by show c' _ = _; rw [hout 37 (by decide)]; exact g.aw.sl, fun j hj => by show c' _ = _; rw [Nat.add_assoc, hout (19 + j) (by omega), ← Nat.add_assoc]; exact g.aw.sg j hj⟩, fun j hj => by show c' _ = _; rw [Nat.add_assoc, hout (1 + j) (by omega), ← Nat.add_assoc]; exact g.rg j hj, by show c' _ = _; have := hout 0 (by decide); rw [Nat.add_zero] at this; rw [this]; exact g.sp⟩
  · show (ProcLaw.forked s.t (N + 1) 1 p).st = 0
    unfold ProcLaw.forked
    rw [ProcLaw.updE_other _ _ (by omega)]
    exact hs.t0 p (by omega)
  · show OpenLaw.cpD s.fd 1 (N + 1) 8 i = 0
    rw [OpenLaw.cpD_at]
    split <;> exact hs.fd _
  · show ∀ k, k < 32 → 0 ≤ (OpenLaw.fkF s.fs (fun i => s.fd (1 * 8 + i)) 8 k).n ∧ (OpenLaw.fkF s.fs (fun i => s.fd (1 * 8 + i)) 8 k).n ≤ 200
    rw [fk0 _ _ _ (fun i => hs.fd _)]
    exact hs.fs
end
end Go.Proofs.YtnbhohaphmilmaaGreatDoor
namespace Go.Proofs.YtnbhohaphmilmaaGreatDoor
open Go.RowKit
set_option linter.unusedVariables false
set_option linter.unusedSimpArgs false
/-- the kernel lies behind a world -/
structure Sv (w0 w : World) (k : KC) (s : KSt) : Prop where
  kt : KT w k s
  lo : ∀ j, s.tag j ≠ 0 → w0.heap.size ≤ j
  hb : Below w0.heap.size w0 w
section
variable {w0 w w' : World} {k : KC} {s s' : KSt} {nc N : Nat}
theorem Sv.keep (h : Sv w0 w k s) (hb : Below w.heap.size w w') : Sv w0 w' k s := ⟨h.kt.keep hb, h.lo, h.hb.trans (hb.mono h.hb.size)⟩
theorem Sv.kg (h : Sv w0 w k s) (g : KG s k w w' s') : Sv w0 w' k s' :=
  ⟨g.kt, fun j hj => (g.far j hj).elim (h.lo j) (fun e => Nat.le_trans h.hb.size e), h.hb.trans (g.up.toBelow h.hb.size (fun j hj q => by have := h.lo j q; omega))⟩
def callT (n : Int) : Array Value := #[.int .i64 n, .int .i64 0, .int .i64 0, .int .i64 0, .string ByteArray.empty, .string ByteArray.empty, .slice none 0 0]
def bdCT (ps : Array (Nat × Value)) : Sem Value := Instr.build 62 ps
theorem bd_callT (ps : Array (Nat × Value)) : Instr.build 62 ps = bdCT ps := rfl
theorem bdcT_0 (w : World) (n : Int) : (bdCT #[(0, .int .i64 n)]).run Tryz.prog w = .ok (.agg (callT n)) w := by kernel_rfl
theorem ans_newT (w : World) (e a b : Int) : (stR 59 (.pointer (some ⟨w.heap.size, 0, none⟩)) (.agg (ansV e a b (.slice none 0 0)))).run Tryz.prog (w.alloc (.cells #[.int .i64 0, .int .i64 0, .int .i64 0, .slice none 0 0, .slice none 0 0, .int .i64 0, .int .i64 0, .int .i64 0, .int .i64 0, .int .i64 0, .int .i64 0] 59)) = .ok () (w.alloc (.cells (ansV e a b (.slice none 0 0)) 59)) := by
  have := st0_new w (T := 59) (c := #[.int .i64 0, .int .i64 0, .int .i64 0, .slice none 0 0, .slice none 0 0, .int .i64 0, .int .i64 0, .int .i64 0, .int .i64 0, .int .i64 0, .int .i64 0]) (cs := ansV e a b (.slice none 0 0)) rfl (by kernel_rfl) (ansV_one _ _ _ rfl)
  exact this
/-- the first process forks -/
theorem ask_fork (h : KT w k s) (hs : Ks s nc N) (hm : Mp s.m N) (h1 : 1 ≤ N) (h6 : N < 6) (n1 : 1 ≤ nc) (n4 : nc ≤ 4) :
    Calls Tryz.prog 15 #[.pointer (some ⟨k.K, 0, none⟩), .int .i64 1, .agg (callT 2)] w fun e w' => ∃ s' b nb, e = .returned (.agg (ansV 0 (N + 1 : Nat) 0 (.slice none 0 0))) ∧ KG s k w w' s' ∧ Ks s' nc (N + 1) ∧ Mf s'.m N b nb := by
  have ok := kout_ok (k := k) (w0 := w) (tag0 := s.tag) h.tz (fun s' e a b => e = 0 ∧ a = (N + 1 : Nat) ∧ b = 0 ∧ Ks s' nc (N + 1) ∧ ∃ b nb, Mf s'.m N b nb)
  refine (askP_is ok (Below.refl _ _) h (hs.ps 1 (by decide) h1).aw rfl (doP_is ok (.inr (.inl rfl)) rfl rfl (proc_fork (by decide) (by decide) ok rfl rfl (ask_more h hs hm h1 h6 n1 n4)))).mono ?_
  rintro e2 w' ⟨X, rfl, hX, hone, hu, s', e, a, b, hk, hf, rfl, ⟨rfl, rfl, rfl, hks, b, nb, hmf⟩, hU⟩
  exact ⟨s', b, nb, rfl, ⟨hk, hU, hf⟩, hks, hmf⟩
theorem wf_small {N : Nat} (h : N < 7) : (Lit.int .i64 (N : Nat)).wf = true := by
  have : N = 0 ∨ N = 1 ∨ N = 2 ∨ N = 3 ∨ N = 4 ∨ N = 5 ∨ N = 6 := by omega
  rcases this with rfl | rfl | rfl | rfl | rfl | rfl | rfl <;> decide
/-- the child's program is put -/
theorem put_more {b nb : Nat} {v : Value} (h : KT w k s) (hs : Ks s nc (N + 1)) (hm : Mf s.m N b nb) (h1 : 1 ≤ N) (h6 : N < 6) (hv : InsL w v loopL) :
    Calls Tryz.prog 13 #[.pointer (some ⟨k.K, 0, none⟩), .int .i64 (N + 1 : Nat), v] w fun e w' => e = .returned (.bool true) ∧ ∃ s', KG s k w w' s' ∧ Ks s' nc (N + 1) ∧ Mp s'.m (N + 1) := by
  have g := hs.ps (N + 1) (by omega) (Nat.le_refl _)
  refine (put_prog h (p := N + 1) (b := nb) (s1 := (N + 1 : Nat)) ⟨by omega, by omega, g.aw.lv, g.sp, wf_small (by omega), hm.Sn, by rw [hm.F]; exact hm.lone, fun j g r a1 a2 e => ?_, ?_, by have := hm.nFn; omega⟩ hv loop_enc (by decide) (by decide)).mono ?_
  · rw [hm.F] at e
    obtain ⟨-, -, q1, q2⟩ := hm.pg j g r e
    exact ⟨q1, by rw [q2]; decide, by rw [q2]; decide⟩
  · rw [hs.fr]; have := hm.len; omega
  · rintro e w' ⟨rfl, m1, m', tag', hu, hp, hg⟩
    exact ⟨rfl, _, hg, hs.mem m' tag', hm.put h1 hu hp hg.kt.me.nd (fun g hg => h.me.lt (.inr (.inr (.inr (.inr hg)))))⟩
/-- the first process's program is put -/
theorem put_first {nc : Nat} {c : Nat → Value} {tag : Nat → Nat} {T cc sp wb : Nat} {v : Value} (h : KT w k (sS0 nc c tag T cc sp wb)) (hs : Ks (sS0 nc c tag T cc sp wb) nc 1) (hv : InsL w v loopL) :
    Calls Tryz.prog 13 #[.pointer (some ⟨k.K, 0, none⟩), .int .i64 1, v] w fun e w' => e = .returned (.bool true) ∧ ∃ s', KG (sS0 nc c tag T cc sp wb) k w w' s' ∧ Ks s' nc 1 ∧ Mp s'.m 1 := by
  have g := hs.ps 1 (by decide) (by decide)
  refine (put_prog h (p := 1) (b := sp) (s1 := 1) ⟨by decide, by decide, g.aw.lv, g.sp, by decide, rfl, (fun _ _ _ _ _ e => nomatch e), (fun j g r a1 a2 e => nomatch e), by show ((0 : Nat) : Int) + 5 ≤ 48; decide, by show 0 < 9000; decide⟩ hv loop_enc (by decide) (by decide)).mono ?_
  rintro e w' ⟨rfl, m1, m', tag', hu, hp, hg⟩
  refine ⟨rfl, _, hg, hs.mem m' tag', mp_one (b := sp) (fun p => ?_) (Nat.le_refl _) rfl (fun _ => rfl) rfl hu hp hg.kt.me.nd⟩
  show (if (p : Int) = 1 then some sp else none) = _
  by_cases e : p = 1
  · rw [if_pos e, if_pos (by omega)]
  · rw [if_neg e, if_neg (by omega)]
end
attribute [local go_sem ↓] ld_ans st_ans bd_callT
set_option maxRecDepth 100000 in
set_option maxHeartbeats 2000000 in
theorem rvk_is {w : World} {nc n : Nat} (n1 : 1 ≤ nc) (n4 : nc ≤ 4) (hn : n < 6) {v : Value} {xs : List Value} {B : Nat} (hv : LpL B w v n xs) : Calls Tryz.prog 7 #[.int .i64 nc, v] w fun e w' => ∃ k s, e = .returned (.tuple #[.pointer (some ⟨k.K, 0, none⟩), .bool true]) ∧ Sv w w' k s ∧ Ks s nc (n + 1) ∧ Mp s.m (n + 1) := by
  have HV := Lib.hid hv
  obtain ⟨p0, cap, rfl⟩ := own_form hv.own
  have HM := Lib.hid (make_is w)
  have HN := Lib.hid (And.intro n1 n4)
  have hbd := fun w => bdcT_0 w 2
  have n6 : (n : Int) < 6 := by omega
  clear hv n1 n4
  go_enter Tryz.func7, Tryz.ntmps7
  go_upto_region 2 with (go_at_call 11; refine HM.out.mono ?_; rintro e1 w1 ⟨D, sb, nb, rfl, hdk, -, -, -, hb1⟩)
  have HST := Lib.hid (start_is hdk fmt_is.1 HN.out.1 HN.out.2)
  have HB1 := Lib.hid hb1
  clear HM hdk hb1
  go_upto_region 5 with (go_at_call 12; refine HST.out.mono ?_; rintro e2 w2 ⟨K, P, Wh, Fi, Pr, R, M, so, sp, c, rfl, hks, hb2⟩)
  obtain ⟨tag, T, cc, wb, hkt, hlo⟩ := hks.toKT HN.out.1 HN.out.2
  have HS2 : Hid (Sv w w2 ⟨K, Wh, Fi, Pr, R, M, so⟩ (sS0 nc c tag T cc sp wb)) := Lib.hid ⟨hkt, fun j hj => Nat.le_trans HB1.out.size (hlo j hj), HB1.out.trans (hb2.mono HB1.out.size)⟩
  have HKS := Lib.hid (hks.ks tag T cc wb)
  have HLP := Lib.hid (loop_is w2)
  clear hks hb2 hkt hlo HST HB1
  obtain ⟨k, hk⟩ : ∃ k : KC, k = ⟨K, Wh, Fi, Pr, R, M, so⟩ := ⟨_, rfl⟩
  rw [← hk] at HS2
  obtain rfl : K = k.K := by rw [hk]
  clear hk
  go_upto_region 7 with (first | (go_at_call 14; refine HLP.out.mono ?_; rintro e3 w3 ⟨b3, h30, h31, rfl, hi3, hb3⟩; have HS3 := Lib.hid (HS2.out.keep hb3); have HPF := Lib.hid (put_first HS3.out.kt HKS.out hi3); clear hb3 hi3) | (go_at_call 13; refine HPF.out.mono ?_; rintro e4 w4 ⟨rfl, s4, hg4, hk4, hm4⟩; have HS4 := Lib.hid (HS3.out.kg hg4); have HK4 := Lib.hid hk4; have HM4 := Lib.hid hm4; clear hg4 hk4 hm4))
  have HR0 : Hid (∃ s, Sv w w4 k s ∧ Ks s nc (0 + 1) ∧ Mp s.m (0 + 1)) := Lib.hid ⟨s4, HS4.out, HK4.out, HM4.out⟩
  clear HS4 HK4 HM4 HPF HS3 HLP HKS HS2
  go_wp2_with fail
  go_loopw [38] (fun kv wr => ∃ i : Nat, i ≤ n ∧ kv = .int .i64 i ∧ Hid (∃ s, Sv w wr k s ∧ Ks s nc (i + 1) ∧ Mp s.m (i + 1))) (fun kv _ => n - (intOf kv).toNat)
  case atStart => exact ⟨0, Nat.zero_le _, rfl, HR0⟩
  case round =>
    obtain ⟨i, hi0, rfl, HR⟩ := hrel
    by_cases hi : i < n
    · have i1 : (i : Int) < n := by omega
      obtain ⟨s, hsv, hks, hmp⟩ := HR.out
      have hvr := HV.out.keep hsv.hb
      obtain ⟨b0, hb0, hcell⟩ : ∃ b0, p0 = some ⟨b0, 0, none⟩ ∧ ∀ j u, xs[j]? = some u → wr.cell? ((⟨b0, 0, none⟩ : Addr).add j) = some u := by
        rcases hvr.own.2 with ⟨e, _⟩ | ⟨g, c', cur, e, _⟩
        · have e : (.slice p0 n cap : Value) = .slice none 0 0 := e
          injection e with _ e _
          omega
        · have e : (.slice p0 n cap : Value) = .slice (some ⟨g, 0, none⟩) n c' := e
          injection e with e _ _
          subst e
          exact ⟨g, rfl, hvr.own.cells (g := g) rfl⟩
      subst hb0
      obtain ⟨x, hx⟩ : ∃ x, xs[i]? = some x := ⟨xs[i]'(by rw [hvr.len]; exact hi), List.getElem?_eq_getElem _⟩
      obtain ⟨bx, rfl, hbx, hix, -⟩ := HV.out.one x (List.mem_of_getElem? hx)
      have hcx := hcell i _ hx
      rw [Addr.add_lit, Nat.zero_add] at hcx
      have HIX := Lib.hid hix
      have HSV := Lib.hid hsv
      have HAF := Lib.hid (ask_fork hsv.kt hks hmp (by omega) (by omega) HN.out.1 HN.out.2)
      rw [show ((i + 1 + 1 : Nat) : Int) = (i : Int) + 2 by omega] at HAF
      clear hsv hks hmp hvr hcell hx hbx hix
      go_upto_region 11 with (go_at_call 15; refine HAF.out.mono ?_; rintro e5 w5 ⟨s5, b5, nb5, rfl, hg5, hk5, hm5⟩; have hst := ans_newT w5 0 ((i : Int) + 2) 0; have HS5 := Lib.hid (HSV.out.kg hg5); have HK5 := Lib.hid hk5; have HM5 := Lib.hid hm5; clear hg5 hk5 hm5)
      have HA : Hid (Below w5.heap.size w5 (w5.alloc (.cells (ansV 0 ((i : Int) + 2) 0 (.slice none 0 0)) 59))) := Lib.hid (Go.Joins.below_alloc1 w5 _)
      have hrn := row_new w5 59 (ansV 0 ((i : Int) + 2) 0 (.slice none 0 0))
      have q0 := hrn.cell 0
      have q1 := hrn.cell 1
      rw [show (ansV 0 ((i : Int) + 2) 0 (.slice none 0 0))[0]? = some (.int .i64 0) from rfl] at q0
      rw [show (ansV 0 ((i : Int) + 2) 0 (.slice none 0 0))[1]? = some (.int .i64 ((i : Int) + 2)) from rfl] at q1
      have HS6 := Lib.hid (HS5.out.keep HA.out)
      clear hst hrn HA HAF HS5
      generalize w5.alloc (.cells (ansV 0 ((i : Int) + 2) 0 (.slice none 0 0)) 59) = w6 at *
      generalize w5.heap.size = g5 at *
      have HPM := Lib.hid (put_more HS6.out.kt HK5.out HM5.out (by omega) (by omega) (HIX.out.keep HS6.out.hb))
      rw [show ((i + 1 + 1 : Nat) : Int) = (i : Int) + 2 by omega] at HPM
      go_upto_region 13 with (go_at_call 13; refine HPM.out.mono ?_; rintro e7 w7 ⟨rfl, s7, hg7, hk7, hm7⟩; have HR7 : Hid (∃ s, Sv w w7 k s ∧ Ks s nc (i + 1 + 1) ∧ Mp s.m (i + 1 + 1)) := Lib.hid ⟨s7, HS6.out.kg hg7, hk7, hm7⟩; clear hg7 hk7 hm7)
      go_wp2_with fail
      go_roundw
      case rel => exact ⟨i + 1, by omega, by go_num, HR7⟩
      case measure => simp [intOf]; omega
    · obtain rfl : i = n := by omega
      go_wp2_with fail
      go_ret2
      obtain ⟨s, h1, h2, h3⟩ := HR.out
      exact ⟨k, s, rfl, h1, h2, h3⟩
end Go.Proofs.YtnbhohaphmilmaaGreatDoor
namespace Go.Proofs.YtnbhohaphmilmaaGreatDoor
open Go.RowKit Go.Maps
set_option linter.unusedVariables false
set_option linter.unusedSimpArgs false
/-- a page's bytes behind a write of some at its head -/
def dl (d : Nat → Int) (xs : List Int) (k : Nat) : Nat → Int := fun j => if j < k then xs.getD j 0 else d j
theorem dl_zero (d : Nat → Int) (xs : List Int) : dl d xs 0 = d := by funext j; unfold dl; rw [if_neg (by omega)]
theorem dl_next (d : Nat → Int) (xs : List Int) (k : Nat) : (fun j => if j = k then xs.getD k 0 else dl d xs k j) = dl d xs (k + 1) := by
  funext j
  unfold dl
  by_cases e : j = k
  · subst e; rw [if_pos rfl, if_pos (by omega)]
  · rw [if_neg e]
    by_cases l : j < k
    · rw [if_pos l, if_pos (by omega)]
    · rw [if_neg l, if_neg (by omega)]
/-- a page with other bytes -/
def MS.dat (m : MS) (g : Nat) (d : Nat → Int) : MS := { m with d := fup m.d g d }
section
variable {w w' : World} {M so g b : Nat} {fr sl s pg ad : Int} {m : MS}
theorem MemG.dat (h : MemG w M so fr sl m) (hg : g ∈ m.pl) {i : Nat} (hi : i < 16) (x : Int) : MemG (w.setCell ⟨g, i, none⟩ (.int .u8 x)) M so fr sl (m.dat g (fun j => if j = i then x else m.d g j)) := by
  have := h.page hg (Upd.set w (b := g) (i := i) (.int .u8 x) (S := fun k => k = g) rfl) ((h.pg g hg).byte hi x)
  have e : ({ m with d := fup m.d g (fun j => if j = i then x else m.d g j), u := fup m.u g (m.u g), h := fup m.h g (m.h g) } : MS) = m.dat g (fun j => if j = i then x else m.d g j) := by
    unfold MS.dat
    rw [fup_id m.u g _ rfl, fup_id m.h g _ rfl]
  rw [e] at this
  exact this
set_option maxRecDepth 100000 in
set_option maxHeartbeats 400000 in
theorem readG_is (h : MemG w M so fr sl m) (hs : m.S s = some b) (hwf : (Lit.int .i64 s).wf = true) (h0 : 0 ≤ pg) (h63 : pg < 64) (hF : m.F b pg = some (g, 3)) (hg : g ∈ m.pl) (hh : m.h g = true) (had : ad = 16 * pg) :
    Calls Tryz.prog 187 #[.pointer (some ⟨M, 0, none⟩), .int .i64 s, .int .i64 ad, .int .i64 16] w fun e w' => (∃ v, e = .returned (.tuple #[v, .int .i64 0]) ∧ OB w.heap.size w' v (pgl (m.d g) 16)) ∧ MemG w' M so fr sl m ∧ Upd (fun k => k = M ∨ k = g) w w' := by
  have m4 := h.m4
  have l1 := h.two hs hwf
  have l2 := map_no_nil w b
  have HMAY := Lib.hid (mayG_is h hs hwf h0 h63 hF had (n := 16) (wt := 1) (by omega) (by omega) (.inl rfl))
  have HFE := Lib.hid (fun (wx : World) (hb : Below w.heap.size w wx) => fetchG_is (h.keep hb) hs hwf h0 h63 hF hg hh had (n := 16) (by omega) (N := 16) rfl)
  clear h hs hwf hF hg hh had
  go_enter Tryz.func187, Tryz.ntmps187
  go_wp2_with (first | (go_at_call 262; refine HMAY.out.mono ?_; rintro e1 w1 ⟨rfl, hb1⟩; have HB1 := Lib.hid hb1; have HF1 := Lib.hid (HFE.out w1 hb1); clear hb1) | (go_at_call 263; refine HF1.out.mono ?_; rintro e2 w2 ⟨⟨v2, rfl, ho2⟩, hm2, hu2⟩; have HR := Lib.hid (And.intro ho2 (And.intro hm2 hu2)); clear ho2 hm2 hu2))
  go_ret2
  exact ⟨⟨v2, rfl, HR.out.1.base HB1.out.size⟩, HR.out.2.1, (Upd.below HB1.out).trans HR.out.2.2⟩
set_option maxRecDepth 100000 in
set_option maxHeartbeats 1000000 in
theorem layG_is (h : MemG w M so fr sl m) (hs : m.S s = some b) (hwf : (Lit.int .i64 s).wf = true) (h0 : 0 ≤ pg) (h63 : pg < 64) (hF : m.F b pg = some (g, 3)) (hg : g ∈ m.pl) (hh : m.h g = true) (hu1 : m.u g = 1) (had : ad = 16 * pg) (hf : 0 ≤ fr ∧ fr ≤ 1000) (hsl : 0 ≤ sl ∧ sl ≤ 1000) (hpl : (m.pl.length : Int) ≤ fr + sl)
    {bb off cap : Nat} {xs : List Int} (hn : xs.length ≤ 16) (hb : bb < w.heap.size) (hbM : bb ≠ M) (hbg : bb ≠ g) (hcp : xs.length ≤ cap) (hcm : cap ≤ maxLen) (hc : ∀ i, i < xs.length → w.cell? ⟨bb, off + i, none⟩ = some (.int .u8 (xs.getD i 0))) :
    Calls Tryz.prog 264 #[.pointer (some ⟨M, 0, none⟩), .int .i64 s, .int .i64 ad, .slice (some ⟨bb, off, none⟩) xs.length cap] w fun e w' => e = .returned (.int .i64 0) ∧ MemG w' M so fr sl (m.dat g (dl (m.d g) xs xs.length)) ∧ Upd (fun k => k = M ∨ k = g) w w' := by
  have HM : Hid (MemG w M so fr sl (m.dat g (dl (m.d g) xs 0))) := Lib.hid (by
    have e : m.dat g (dl (m.d g) xs 0) = m := by unfold MS.dat; rw [dl_zero, fup_id _ _ _ rfl]
    rw [e]; exact h)
  have HX := Lib.hid (And.intro hs (And.intro hwf (And.intro hF (And.intro hg (And.intro hh hu1)))))
  have HC := Lib.hid hc
  have HBB := Lib.hid (And.intro hb (And.intro hbM hbg))
  have a0 : 0 ≤ ad := by omega
  have a1 : ad ≤ 1008 := by omega
  have HAD := Lib.hid had
  have HGM : Hid (g < w.heap.size ∧ M < w.heap.size) := Lib.hid ⟨h.lt (.inr (.inr (.inr (.inr hg)))), h.mlt⟩
  have HSH := Lib.hid (sharedG_is h hs hwf h0 h63 hF hg had (n := (xs.length : Nat)) (by omega) (by omega) hu1 (.inl rfl) (x := 0) (by rw [if_neg (by omega)]))
  have HRO := Lib.hid (roomG_is h 0 (by omega) hf hsl (by omega))
  rw [show decide ((0 : Int) ≤ fr + sl - m.pl.length) = true from decide_eq_true (by omega)] at HRO
  have hmx : (cap : Int) ≤ 9223372036854775807 := by unfold maxLen at hcm; omega
  clear h hs hwf hF hg hh had hc hcm hb hbM hbg hf hsl hpl hu1
  generalize hL : xs.length = L at *
  go_enter Tryz.func264, Tryz.ntmps264
  go_upto_region 3 with (first | (go_at_call 327; refine HSH.out.mono ?_; rintro e1 w1 ⟨rfl, rfl⟩) | (go_at_call 84; refine HRO.out.mono ?_; rintro e2 w2 ⟨rfl, hb2⟩))
  have HM1 := Lib.hid (HM.out.keep hb2)
  have HU1 : Hid (Upd (fun k => k = M ∨ k = g) w w2) := Lib.hid (Upd.below hb2)
  clear HM HSH HRO hb2
  go_wp2_with fail
  go_loopw [24] (fun kv wr => ∃ k : Nat, k ≤ L ∧ kv = .int .i64 k ∧ Hid (MemG wr M so fr sl (m.dat g (dl (m.d g) xs k))) ∧ Hid (Upd (fun k => k = M ∨ k = g) w wr)) (fun kv _ => L - (intOf kv).toNat)
  case atStart => exact ⟨0, Nat.zero_le _, rfl, HM1, HU1⟩
  case round =>
    clear HM1 HU1
    obtain ⟨k, hk0, rfl, HM, HU⟩ := hrel
    by_cases hk : k < L
    · have i1 : (k : Int) < (L : Int) := by omega
      have e0 := (HU.out.cell HBB.out.1 (b := bb) (o := off + k) (fun q => by rcases q with q | q; exact HBB.out.2.1 q; exact HBB.out.2.2 q)).trans (HC.out k hk)
      have m4 := HM.out.m4
      have l1 := HM.out.two (s := s) (b := b) HX.out.1 HX.out.2.1
      have l2 := HM.out.ent (s := s) (b := b) (pg := pg) HX.out.1 HX.out.2.2.1 h0 h63
      have y1 : IntKind.i64.wrap (ad + (k : Int)) = ad + k := IntWalk.i64_in _ (by omega)
      have q0 : (ad + (k : Int)).tdiv 16 = pg := by rw [td16 (by omega)]; have := HAD.out; omega
      have q1 : (ad + (k : Int)).tmod 16 = k := by rw [tm16 (by omega)]; have := HAD.out; omega
      have q2 : (ad + (k : Int)) / 16 = pg := by have := HAD.out; omega
      have q3 : (ad + (k : Int)) % 16 = k := by have := HAD.out; omega
      have y2 : IntKind.i64.wrap pg = pg := IntWalk.i64_in _ (by omega)
      have y3 : IntKind.i64.wrap (k : Int) = k := IntWalk.i64_in _ (by omega)
      have k16 : (k : Int) < 16 := by omega
      have k0 : (0 : Int) ≤ k := by omega
      have hal := Go.Joins.below_alloc1 wr (.cells #[.pointer (some ⟨g, 0, none⟩), .int .i64 3] 222)
      have hm2 := HM.out.keep hal
      have us := (hm2.pg g HX.out.2.2.2.1).us
      rw [show (m.dat g (dl (m.d g) xs k)).u g = 1 from HX.out.2.2.2.2.2] at us
      have HASK := Lib.hid (askG_here hm2 HX.out.2.2.2.1 HX.out.2.2.2.2.1)
      have HU2 := Lib.hid (HU.out.trans (Upd.below hal))
      have x0 : (wr.alloc (.cells #[.pointer (some ⟨g, 0, none⟩), .int .i64 3] 222)).cell? ⟨wr.heap.size, 0, none⟩ = some (.pointer (some ⟨g, 0, none⟩)) := cells_new wr [.pointer (some ⟨g, 0, none⟩), .int .i64 3] 222 0 _ rfl
      have hsz : wr.heap.size < (wr.alloc (.cells #[.pointer (some ⟨g, 0, none⟩), .int .i64 3] 222)).heap.size := by simp
      have hne : ¬ (wr.heap.size = M ∨ wr.heap.size = g) := by have := HU.out.size; have := HGM.out; omega
      have HK : Hid (k < 16) := Lib.hid (by omega)
      clear hm2 hal
      generalize hxk : xs.getD k 0 = xk at *
      have HXK := Lib.hid hxk
      clear hxk
      go_upto_region 13 with (go_at_call 150; refine HASK.out.mono ?_; rintro e3 w3 ⟨rfl, hm3, hu3⟩)
      have x3 := (hu3.cell hsz hne (o := 0)).trans x0
      have dc := (hm3.pg g HX.out.2.2.2.1).dc k HK.out
      have dz := (hm3.pg g HX.out.2.2.2.1).fz k
      have HM3 : Hid (∀ x, MemG (w3.setCell ⟨g, k, none⟩ (.int .u8 x)) M so fr sl (m.dat g (fun j => if j = k then x else dl (m.d g) xs k j))) := Lib.hid (fun x => by
        have q := hm3.dat HX.out.2.2.2.1 HK.out x
        have e : (m.dat g (dl (m.d g) xs k)).dat g (fun j => if j = k then x else (m.dat g (dl (m.d g) xs k)).d g j) = m.dat g (fun j => if j = k then x else dl (m.d g) xs k j) := by
          unfold MS.dat
          simp only [fup_same]
          congr 1
          funext z
          unfold fup
          split <;> rfl
        rw [e] at q
        exact q)
      have HU3 := Lib.hid (HU2.out.trans hu3)
      clear hm3 hu3 x0 hsz hne HASK HU2 us e0 l1 l2 m4
      go_wp2_with fail
      go_roundw
      case rel => exact ⟨k + 1, by omega, by go_num, Lib.hid (by have := HM3.out (xs.getD k 0); rw [dl_next, HXK.out] at this; exact this), Lib.hid (HU3.out.trans (Upd.set _ _ (.inr rfl)))⟩
      case measure => simp [intOf]; omega
    · obtain rfl : k = L := by omega
      go_wp2_with fail
      go_ret
      exact ⟨rfl, HM.out, HU.out⟩
end
end Go.Proofs.YtnbhohaphmilmaaGreatDoor
