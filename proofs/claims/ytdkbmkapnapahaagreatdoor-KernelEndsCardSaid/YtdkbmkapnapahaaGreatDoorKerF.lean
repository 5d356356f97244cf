/- The states that the law of ends goes through, and what may be asked in each. The six calls of the law of ends: what each may come to. Walks that the law of ends asks for beyond its calls: Memory, Free, All, Procs. -/
import Derived.Test.YtdkbmkapnapahaaGreatDoorKerX
import Derived.Test.YtdkbmkapnapahaaGreatDoorKerT
namespace Go.Proofs.YtdkbmkapnapahaaGreatDoor
open Go.RowKit
set_option linter.unusedVariables false
set_option linter.unusedSimpArgs false
def t1 : ProcLaw.T := ProcLaw.forked ProcLaw.start 2 1
def l0 : List Tk := [⟨1, 0, true, 0⟩]
def l1 : List Tk := [⟨1, 0, true, 0⟩, ⟨2, 0, true, -1⟩]
theorem l1_is : enterL l0 2 1 = l1 := rfl
/-- a task that is awake and has no signal -/
def Calm (c : Nat → Value) (p : Nat) : Prop := c (8 + p * 38 + 37) = .bool false ∧ ∀ j, j < 18 → c (8 + p * 38 + 19 + j) = .int .i64 0
theorem Calm.other {c c' : Nat → Value} {p q : Nat} (h : Calm c q) (hc : ∀ j, (j < 8 + p * 38 ∨ 8 + p * 38 + 38 ≤ j) → c' j = c j) (hn : q ≠ p) : Calm c' q := ⟨(hc _ (by omega)).trans h.1, fun j hj => (hc _ (by omega)).trans (h.2 j hj)⟩
theorem Calm.awake {s : KSt} {p : Nat} (h : Calm s.c p) (h1 : 1 ≤ p) (h2 : p ≤ 16) (hl : (s.t p).st = 1) : Awake s p := ⟨h1, h2, hl, h.1, h.2⟩
/-- behind the fork -/
structure P1 (s : KSt) (nb : Nat) : Prop where
  c1 : Calm s.c 1
  c2 : Calm s.c 2
  sp : s.c 84 = .int .i64 2
  fd : ∀ j, j < 8 → s.fd (2 * 8 + j) = 0
  cw : s.cw 2 = none
  t : s.t = t1
  l : s.l = l1
  S : s.m.S 2 = some nb
  F : ∀ k, s.m.F nb k = none
  nF : s.m.nF nb = 0
  pl : s.m.pl = []
/-- behind the map of n pages -/
structure P2 (n : Nat) (s : KSt) (nb : Nat) : Prop where
  c1 : Calm s.c 1
  c2 : Calm s.c 2
  sp : s.c 84 = .int .i64 2
  fd : ∀ j, j < 8 → s.fd (2 * 8 + j) = 0
  cw : s.cw 2 = none
  t : s.t = t1
  l : s.l = l1
  S : s.m.S 2 = some nb
  F : ∀ k, s.m.F nb k = if 3 ≤ k ∧ k < 3 + (n : Int) then (s.m.pl[(k - 3).toNat]?).map (fun g => (g, 3)) else none
  ln : s.m.pl.length = n
  u : ∀ g, g ∈ s.m.pl → s.m.u g = 1
  h : ∀ g, g ∈ s.m.pl → s.m.h g = true
/-- behind the end of the child -/
structure P3 (t : ProcLaw.T) (s : KSt) : Prop where
  c1 : Calm s.c 1
  t : s.t = t
  pl : s.m.pl = []
theorem kz_one (j : Nat) (h : j < 655) : (kz j).oneCell' = true := by
  have ha : Tryz.zeroCells70.all (·.oneCell') = true := by kernel_rfl
  rw [Array.all_eq_true] at ha
  unfold kz
  rw [Array.getElem?_eq_getElem (by rw [kz_size]; exact h)]
  exact ha j (by rw [kz_size]; exact h)
theorem kz_sigs (j : Nat) (hj : j < 18) : kz (65 + j) = .int .i64 0 := by
  have h := congrArg (fun l => l[j]?) kz_sig
  simp only [List.getElem?_map, List.getElem?_replicate, if_pos hj, List.getElem?_range hj, Option.map_some] at h
  injection h
section
variable {w : World} {B K P Wh Fi Pr R M so sp : Nat} {c : Nat → Value}
theorem KS.calm (h : KS w B K P Wh Fi Pr R M so sp c) : Calm c 1 := ⟨h.sl, fun j hj => (h.sg j hj).trans (kz_sigs j hj)⟩
theorem KS.one (h : KS w B K P Wh Fi Pr R M so sp c) : ∀ j, j < 38 → (c (8 + 1 * 38 + j)).oneCell' = true := by
  intro j hj
  obtain ⟨h0, h1, h2, h3, h4, h5, h6⟩ := h.tk
  obtain ⟨b, hb, _⟩ := h.wd
  by_cases e : j = 0
  · subst e; rw [show 8 + 1 * 38 + 0 = 46 by rfl, h.t0]; rfl
  by_cases e1 : j = 17
  · subst e1; rw [show 8 + 1 * 38 + 17 = 63 by rfl, hb]; rfl
  by_cases e2 : 10 ≤ j ∧ j ≤ 16
  · have : j = 10 ∨ j = 11 ∨ j = 12 ∨ j = 13 ∨ j = 14 ∨ j = 15 ∨ j = 16 := by omega
    rcases this with rfl | rfl | rfl | rfl | rfl | rfl | rfl
    · rw [show 8 + 1 * 38 + 10 = 56 by rfl, h0]; rfl
    · rw [show 8 + 1 * 38 + 11 = 57 by rfl, h1]; rfl
    · rw [show 8 + 1 * 38 + 12 = 58 by rfl, h2]; rfl
    · rw [show 8 + 1 * 38 + 13 = 59 by rfl, h3]; rfl
    · rw [show 8 + 1 * 38 + 14 = 60 by rfl, h4]; rfl
    · rw [show 8 + 1 * 38 + 15 = 61 by rfl, h5]; rfl
    · rw [show 8 + 1 * 38 + 16 = 62 by rfl, h6]; rfl
  · rw [h.ck _ (by omega) (by omega) (by omega)]
    exact kz_one _ (by omega)
end
theorem may0 (sp : Nat) : MayFork (mS0 sp) 1 sp 2 := by
  refine ⟨rfl, by decide, by decide, by decide, rfl, fun j h1 h2 => ⟨sp, ?_⟩, (by show 1 < 1000000; decide), (fun _ _ _ _ _ h _ => nomatch h), (fun _ _ _ h => nomatch h), (by show 0 < 100000; decide)⟩
  obtain rfl : j = 1 := by omega
  rfl
end Go.Proofs.YtdkbmkapnapahaaGreatDoor
namespace Go.Proofs.YtdkbmkapnapahaaGreatDoor
open Go.RowKit
set_option linter.unusedVariables false
set_option linter.unusedSimpArgs false
section
variable {w0 w : World} {B K P Wh Fi Pr R M so sp T cc wb : Nat} {c : Nat → Value} {tag : Nat → Nat} {k : KC}
theorem start1 : (ProcLaw.start 1).st = 1 := by decide
theorem start1n : (ProcLaw.start 1).st ≠ 0 := by decide
theorem start2 : (ProcLaw.start 2).st = 0 := by decide
theorem f0n : 0 ≤ OpenLaw.f0.n ∧ OpenLaw.f0.n ≤ 200 := by decide
theorem ask_fork {wz : World} (hs : KS wz B K P Wh Fi Pr R M so sp c) (h : KT w k (sS0 c tag T cc sp wb)) (hk : k = ⟨K, Wh, Fi, Pr, R, M, so⟩) :
    Spec w (KOut w.heap.size k tag (fun s e a b => e = 0 ∧ a = 2 ∧ b = 0 ∧ ∃ nb, P1 s nb)) 99 #[.pointer (some ⟨k.K, 0, none⟩), .int .i64 1] := by
  have hc := hs.calm
  refine kfork_is (p := 1) (c := 2) (s1 := 1) (b := sp) (s2 := 2) h ⟨by decide, by decide, start1⟩ hs.one hs.t0 (may0 sp) (by decide) (by decide) start2 (fun j h1 h2 => by obtain rfl : j = 1 := (by omega); exact start1n) hs.tk.2.2.2.1 (bw := wb) rfl ?_ hc.2 rfl rfl (by show 1 < 1000; decide) (by decide) (fun _ _ => rfl) (fun _ _ => f0n) ?_
  · show c 64 = _
    rw [hs.ck 64 (by decide) (by decide) (.inr (by decide))]
    unfold kz
    kernel_rfl
  · intro m' nb c' tag' ad' cap' hnb hf hco h0 hsg hsl
    refine ⟨rfl, rfl, rfl, nb, ?_⟩
    have hnsp : nb ≠ sp := fun e => by
      have := h.me.lt (k := sp) (.inr (.inr (.inr (.inl ⟨1, rfl⟩))))
      omega
    refine ⟨hc.other hco (by decide), ⟨hsl.trans hc.1, hsg⟩, h0, fun j hj => ?_, rfl, rfl, l1_is, by rw [hf.S]; exact if_pos rfl, fun q => by rw [hf.F, fup_same]; rfl, ?_, hf.pl⟩
    · show OpenLaw.cpD _ 1 2 8 (2 * 8 + j) = 0
      rw [OpenLaw.cpD_at]
      split <;> rfl
    · exact Nat.le_zero.1 hf.nFn
variable {s : KSt} {nb n p : Nat} {A : Array Value}
theorem ask_map (h : KT w0 k s) (q : P1 s nb) (hA : A.size = 7) (ha : A[0]? = some (.int .i64 23)) (ha1 : A[1]? = some (.int .i64 3)) (ha2 : A[2]? = some (.int .i64 n)) (ha3 : A[3]? = some (.int .i64 3)) (hn : 1 ≤ n) (hn' : n ≤ 20) :
    Spec w0 (KOut w0.heap.size k s.tag (fun s' e a b => e = 0 ∧ P2 n s' nb)) 44 #[.pointer (some ⟨k.K, 0, none⟩), .int .i64 2, .agg A] := by
  refine proc_map (p := 2) h (by decide) (by decide) hA ha ha1 ha2 ha3 (s1 := 2) (b := nb) q.sp q.S (by decide) (by decide) hn (by omega) (by decide) (by decide) (fun j _ => q.F _) (by rw [q.pl]; simp; omega) (by rw [q.pl]; simp; omega) (by rw [q.nF]; decide) ?_
  intro B0 m' new tag' hlen g
  have hpl : m'.pl = new := by rw [g.pl, q.pl, List.nil_append]
  refine ⟨rfl, q.c1, q.c2, q.sp, q.fd, q.cw, q.t, q.l, by rw [g.S]; exact q.S, fun x => ?_, by rw [hpl, hlen], fun y hy => (g.nd y (by rwa [hpl] at hy)).2.1, fun y hy => (g.nd y (by rwa [hpl] at hy)).2.2⟩
  show m'.F nb x = _
  rw [g.F, fup_same, hpl, hlen, q.F]
theorem t1_st (j : Nat) : (t1 j).st ≠ 2 := by
  unfold t1 ProcLaw.forked ProcLaw.updE ProcLaw.start
  split
  · decide
  · unfold ProcLaw.updE
    split
    · decide
    · exact (by decide : ProcLaw.e0.st ≠ 2)
theorem t1_1 : (t1 1).st = 1 := by decide
theorem t1_2 : (t1 2).st = 1 ∧ (t1 2).par = 1 := by decide
theorem ask_wait1 (h : KT w0 k s) (q : P2 n s nb) (hA : A.size = 7) (ha : A[0]? = some (.int .i64 4)) :
    Spec w0 (KOut w0.heap.size k s.tag (fun s' e a b => e = 9 ∧ P2 n s' nb)) 44 #[.pointer (some ⟨k.K, 0, none⟩), .int .i64 1, .agg A] := by
  refine proc_wait (p := 1) h (by decide) (by decide) hA ha ?_
  rintro r c en t' (⟨_, rfl, hx⟩ | ⟨_, j, _, _, _, _, _, hj, _⟩)
  · refine ⟨?_, q.c1, q.c2, q.sp, q.fd, q.cw, q.t, q.l, q.S, q.F, q.ln, q.u, q.h⟩
    rcases hx with hx | ⟨_, ⟨e, _⟩ | ⟨_, hx⟩⟩
    · exact absurd (ProcLaw.livR_alive ⟨by decide, by decide, by rw [q.t]; exact t1_1⟩) hx
    · exact e
    · exact absurd ⟨2, by decide, by rw [q.t]; decide, by rw [q.t]; exact t1_2.2⟩ hx
  · rw [q.t] at hj
    exact absurd hj (t1_st j)
/-- the table behind the child's end, and behind the wait for it -/
def t2 (x : Int) : ProcLaw.T := ProcLaw.ended t1 2 x
def t3 (x : Int) : ProcLaw.T := ProcLaw.updE (t2 x) 2 ProcLaw.e0
theorem t2_2 (x : Int) : t2 x 2 = ⟨2, 1, 1, x⟩ := by
  unfold t2 ProcLaw.ended
  rw [ProcLaw.updE_same]
  have h : (ProcLaw.lost t1 2 17 2).par = 1 ∧ (ProcLaw.lost t1 2 17 2).gr = 1 := by decide
  rw [h.1, h.2]
theorem t2_1 (x : Int) : (t2 x 1).st = 1 := by
  unfold t2 ProcLaw.ended
  rw [ProcLaw.updE_other _ _ (by decide)]
  decide
theorem t2_st (x : Int) {j : Nat} (h : (t2 x j).st = 2) : j = 2 := by
  by_cases e : j = 2
  · exact e
  · unfold t2 ProcLaw.ended at h
    rw [ProcLaw.updE_other _ _ e, ProcLaw.lost_st] at h
    exact absurd h (t1_st j)
theorem t1_par {j : Nat} (h : (t1 j).st ≠ 0) : j = 1 ∨ j = 2 := by
  by_cases e : j = 2
  · exact .inr e
  by_cases e1 : j = 1
  · exact .inl e1
  unfold t1 ProcLaw.forked ProcLaw.start at h
  rw [ProcLaw.updE_other _ _ e, ProcLaw.updE_other _ _ e1] at h
  exact absurd (by decide : ProcLaw.e0.st = 0) h
theorem t3_par (x : Int) {j : Nat} (h : (t3 x j).st ≠ 0) : j = 1 := by
  by_cases e : j = 2
  · subst e
    unfold t3 at h
    rw [ProcLaw.updE_same] at h
    exact absurd (by decide : ProcLaw.e0.st = 0) h
  · unfold t3 t2 ProcLaw.ended at h
    rw [ProcLaw.updE_other _ _ e, ProcLaw.updE_other _ _ e, ProcLaw.lost_st] at h
    exact (t1_par h).resolve_right e
theorem t3_1 (x : Int) : (t3 x 1).st = 1 ∧ (t3 x 1).par = 0 := by
  unfold t3 t2 ProcLaw.ended
  rw [ProcLaw.updE_other _ _ (by decide), ProcLaw.updE_other _ _ (by decide)]
  decide
theorem ask_exit (h : KT w0 k s) (q : P2 n s nb) (hn : n ≤ 20) (x : Int) :
    SpecE w0 (KOut w0.heap.size k s.tag (fun s' e a b => e = 0 ∧ P3 (t2 (bits .and .i64 x 255)) s')) 40 #[.pointer (some ⟨k.K, 0, none⟩), .int .i64 2, .int .i64 x] := by
  have hF : ∀ y g r, s.m.F nb y = some (g, r) → 3 ≤ y ∧ s.m.pl[(y - 3).toNat]? = some g := fun y g r hy => by
    rw [q.F] at hy
    split at hy
    · rename_i hr
      refine ⟨hr.1, ?_⟩
      cases hg : s.m.pl[(y - 3).toNat]? with
      | none => rw [hg] at hy; cases hy
      | some g' =>
        rw [hg] at hy
        simp only [Option.map_some, Option.some.injEq, Prod.mk.injEq] at hy
        rw [hy.1]
    · cases hy
  refine kexit_is (p := 2) (q := 1) (i := 1) (b := nb) (s1 := 2) h ⟨by decide, by decide, by rw [q.t]; exact t1_2.1⟩ (by decide) q.sp q.S (by decide) (fun y y' g r r' hy hy' => ?_) (fun y g r hy => ?_) (by rw [q.ln]; omega) q.fd (by rw [q.l]; rfl) q.cw (by rw [q.t]; exact congrArg ProcLaw.E.par (t2_2 _)) (by decide) (by decide) (by decide) (by rw [q.t]; exact t2_1 _) q.c1.1 q.c1.2 ?_
  · obtain ⟨a1, b1⟩ := hF y g r hy
    obtain ⟨a2, b2⟩ := hF y' g r' hy'
    have l1 := (List.getElem?_eq_some_iff.1 b1).1
    have := (List.getElem?_inj l1 h.me.nd).1 (b1.trans b2.symm)
    omega
  · obtain ⟨a1, b1⟩ := hF y g r hy
    have hm := List.mem_of_getElem? b1
    exact ⟨hm, q.u g hm⟩
  · intro m' left c' tag' ad' cap' hleft hpl hnS hFF hnF hh hu hco
    refine ⟨rfl, q.c1.other hco (by decide), by rw [q.t]; rfl, ?_⟩
    show m'.pl = []
    rw [hpl]
    unfold kept
    refine List.filter_eq_nil_iff.2 fun g hg => ?_
    obtain ⟨i, hi⟩ := List.mem_iff_getElem?.1 hg
    have l1 := (List.getElem?_eq_some_iff.1 hi).1
    have : met (s.m.F nb) left g = true := met_iff.2 ⟨3 + (i : Int), 3, by
      rw [q.F, if_pos (by have := q.ln; omega), show ((3 : Int) + i - 3).toNat = i by omega, hi]; rfl, hleft _⟩
    rw [this]
    simp
theorem ask_wait2 {x : Int} (h : KT w0 k s) (q : P3 (t2 x) s) (hA : A.size = 7) (ha : A[0]? = some (.int .i64 4)) :
    Spec w0 (KOut w0.heap.size k s.tag (fun s' e a b => e = 0 ∧ a = 2 ∧ b = x ∧ P3 (t3 x) s')) 44 #[.pointer (some ⟨k.K, 0, none⟩), .int .i64 1, .agg A] := by
  refine proc_wait (p := 1) h (by decide) (by decide) hA ha ?_
  have z : s.t 2 = ⟨2, 1, 1, x⟩ := by rw [q.t]; exact t2_2 x
  rintro r c en t' (⟨_, rfl, hx⟩ | ⟨rfl, j, p', hr, _, hp', _, hj, _, _, hcd, rfl⟩)
  · rcases hx with hx | ⟨hx, _⟩
    · exact absurd (ProcLaw.livR_alive ⟨by decide, by decide, by rw [q.t]; exact t2_1 x⟩) hx
    · exact absurd ⟨by rw [z]; rfl, by rw [z]⟩ (hx 2 (by decide))
  · rw [q.t] at hj
    obtain rfl := t2_st x hj
    refine ⟨rfl, hr, by rw [hcd, z], q.c1, ?_, q.pl⟩
    show ProcLaw.updE s.t 2 _ = _
    rw [q.t]; rfl
theorem ask_wait3 {x : Int} (h : KT w0 k s) (q : P3 (t3 x) s) (hA : A.size = 7) (ha : A[0]? = some (.int .i64 4)) :
    Spec w0 (KOut w0.heap.size k s.tag (fun s' e a b => e = 4 ∧ P3 (t3 x) s')) 44 #[.pointer (some ⟨k.K, 0, none⟩), .int .i64 1, .agg A] := by
  refine proc_wait (p := 1) h (by decide) (by decide) hA ha ?_
  rintro r c en t' (⟨_, rfl, hx⟩ | ⟨_, j, _, _, _, _, _, hj, _⟩)
  · refine ⟨?_, q.c1, q.t, q.pl⟩
    rcases hx with hx | ⟨_, ⟨_, j, _, hj, hjp⟩ | ⟨e, _⟩⟩
    · exact absurd (ProcLaw.livR_alive ⟨by decide, by decide, by rw [q.t]; exact (t3_1 x).1⟩) hx
    · rw [q.t] at hj hjp
      obtain rfl := t3_par x hj
      rw [(t3_1 x).2] at hjp
      exact absurd hjp (by decide)
    · exact e
  · rw [q.t] at hj
    obtain rfl := t3_par x (by rw [hj]; decide)
    rw [(t3_1 x).1] at hj
    exact absurd hj (by decide)
end
end Go.Proofs.YtdkbmkapnapahaaGreatDoor
namespace Go.Proofs.YtdkbmkapnapahaaGreatDoor
open Go.RowKit
set_option linter.unusedVariables false
set_option linter.unusedSimpArgs false
section
variable {w : World} {k : KC} {s : KSt} {M so : Nat} {m : MS}
set_option maxHeartbeats 400000 in
theorem memory_is (h : KT w k s) : Calls Tryz.prog 5 #[.pointer (some ⟨k.K, 0, none⟩)] w fun e w' => e = .returned (.pointer (some ⟨k.M, 0, none⟩)) ∧ w = w' := by
  have q1 : w.cell? ⟨k.K, 1, none⟩ = some (.pointer (some ⟨k.M, 0, none⟩)) := by rw [h.kr.cell (by decide), h.c1]
  clear h
  go_enter Tryz.func5, Tryz.ntmps5
  go_wp2_with fail
  go_ret
  exact ⟨rfl, rfl⟩
set_option maxHeartbeats 400000 in
theorem free_is (h : MemG w M so 64 64 m) {q n : Nat} (hq : m.pl.countP m.h = q) (hn : m.pl.length = n) (hl : n ≤ 64) : Calls Tryz.prog 6 #[.pointer (some ⟨M, 0, none⟩)] w fun e w' => e = .returned (.tuple #[.int .i64 (64 - (q : Int)), .int .i64 (64 - ((n : Int) - q))]) ∧ Below w.heap.size w w' := by
  have HHE := Lib.hid (hereG_is h)
  rw [hq] at HHE
  have hql : q ≤ n := by rw [← hq, ← hn]; exact List.countP_le_length
  obtain ⟨p, cap, hpv, hlc, hcm, hcell⟩ := h.cells
  have m0 := h.m0
  have m1 := h.m1
  have m3 := h.m3
  rw [hpv] at m3
  rw [hn] at m3 hlc
  clear h hpv hcell hq hn
  go_enter Tryz.func6, Tryz.ntmps6
  go_upto_region 2 with (go_at_call 14; refine HHE.out.mono ?_; rintro e1 w1 ⟨rfl, rfl⟩)
  go_region
  go_wp2_with fail
  go_ret2
  exact ⟨rfl, (Below.refl _ _).drew⟩
end
/-- append's run at a slice that is nil, and one number -/
theorem apI_new {w : World} {b : Nat} {x : Int} (h : w.cell? ⟨b, 0, none⟩ = some (.int .i64 x)) : ∃ g cap w', (apI #[.slice none 0 0, .slice (some ⟨b, 0, none⟩) 1 1]).run Tryz.prog w = .ok (.slice (some ⟨g, 0, none⟩) 1 cap) w' ∧ w'.cell? ⟨g, 0, none⟩ = some (.int .i64 x) ∧ g < w'.heap.size ∧ Below w.heap.size w w' := by
  obtain ⟨i0, hi, hz0, hz1, hz2⟩ := info_parts infoI
  obtain ⟨v', w', hr, ho, hg, -⟩ := run_append_fresh (P := Tryz.prog) w 0 43 43 3 i0 _ 1 8 Tryz.underlying43 hi hz0 hz1 hz2 rfl (by decide) (.slice none 0 0) 0 [] (World.ownsRow_nil _ _ _ _) ⟨b, 0, none⟩ 1 1 [.int .i64 x] rfl (fun j u hu => by
    cases j with
    | zero => simp at hu; subst hu; exact h
    | succ j => simp at hu) (by intro u hu; simp at hu; subst hu; rfl) (by decide) (by decide) (Nat.zero_le _)
  obtain ⟨ad, cap, rfl⟩ := own_form ho
  obtain ⟨g, rfl, -, -, -, -⟩ := own_block ho (by decide)
  have hc := ho.cells (g := g) rfl 0 _ rfl
  rw [Addr.add_lit, Nat.zero_add] at hc
  exact ⟨g, cap, w', hr, hc, (ho.lt g rfl).2, ⟨hg.os, hg.tape, hg.output, hg.size, fun i hi => hg.block i hi (by simp [Value.ownBlock])⟩⟩
def entA (e : ProcLaw.E) : Array Value := #[.int .i64 e.st, .int .i64 e.par, .int .i64 e.gr, .int .i64 e.code]
def entC (t : ProcLaw.T) (j : Nat) : Value := if j % 4 = 0 then .int .i64 (t (j / 4)).st else if j % 4 = 1 then .int .i64 (t (j / 4)).par else if j % 4 = 2 then .int .i64 (t (j / 4)).gr else .int .i64 (t (j / 4)).code
def tabA (t : ProcLaw.T) : Array Value := Array.ofFn (n := 68) (fun j => entC t j.val)
theorem ld_ents (v : Value) : Instr.loadAt 118 v = ldR 118 v := rfl
theorem tab_ld {w : World} {b : Nat} {t : ProcLaw.T} (h : ProcLaw.TabAt w b t) : (ldR 118 (.pointer (some ⟨b, 0, none⟩))).run Tryz.prog w = .ok (.agg (tabA t)) w := by
  have hr : w.rangeAt b 0 (tabA t).toList := by
    intro j v hj
    rw [Array.getElem?_toList] at hj
    have hlt : j < 68 := by have := (Array.getElem?_eq_some_iff.1 hj).1; simpa [tabA] using this
    have : v = entC t j := by
      simp [tabA, hlt] at hj
      exact hj.symm
    subst this
    rw [Nat.zero_add]
    unfold entC
    have hk : j / 4 < 17 := by omega
    by_cases e0 : j % 4 = 0
    · rw [if_pos e0]
      have := h.st _ hk
      rwa [show j / 4 * 4 = j by omega] at this
    by_cases e1 : j % 4 = 1
    · rw [if_neg e0, if_pos e1]
      have := h.par _ hk
      rwa [show j / 4 * 4 + 1 = j by omega] at this
    by_cases e2 : j % 4 = 2
    · rw [if_neg e0, if_neg e1, if_pos e2]
      have := h.gr _ hk
      rwa [show j / 4 * 4 + 2 = j by omega] at this
    · rw [if_neg e0, if_neg e1, if_neg e2]
      have := h.code _ hk
      rwa [show j / 4 * 4 + 3 = j by omega] at this
  have := run_loadAt_mid (P := Tryz.prog) w b 0 118 _ _ hr Tryz.underlying118 rfl (by rw [show (tabA t).toList.length = 68 by simp [tabA]]; kernel_rfl)
  rw [Array.toArray_toList] at this
  exact this
theorem tab_ix (w : World) (t : ProcLaw.T) {k : Nat} (hk : k < 17) : (Instr.index 118 (.agg (tabA t)) (.int .i64 k)).run Tryz.prog w = .ok (.agg (entA (t k))) w := by
  have h1 : (k : Int) < 17 := by omega
  have he : (tabA t).extract (k * 4) (k * 4 + 4) = entA (t k) := by
    apply Array.ext
    · simp [tabA, entA]; omega
    · intro i h1 h2
      have hi : i < 4 := by simpa [entA] using h2
      have e4 : (k * 4 + i) / 4 = k := by omega
      have e5 : (k * 4 + i) % 4 = i := by omega
      simp only [Array.getElem_extract, tabA, Array.getElem_ofFn, entC, e4, e5, entA]
      have : i = 0 ∨ i = 1 ∨ i = 2 ∨ i = 3 := by omega
      rcases this with rfl | rfl | rfl | rfl <;> rfl
  have hp : (part 117 (tabA t) (k * 4)).run Tryz.prog w = .ok (.agg ((tabA t).extract (k * 4) (k * 4 + 4))) w := by kernel_rfl
  have hs : (sizeOf 117).run Tryz.prog w = .ok 4 w := by kernel_rfl
  rw [he] at hp
  simp [Instr.index, asIntOf, run_underlying Tryz.underlying118, h1, hk, hp, hs, he, go_sem]
section
variable {w : World} {b : Nat} {t : ProcLaw.T} {k : KC} {s : KSt}
attribute [local go_sem ↓] ld_ents apI_eq
set_option maxRecDepth 100000 in
set_option maxHeartbeats 1000000 in
theorem all1_is (h : ProcLaw.TabAt w b t) (h1 : (t 1).st = 1) (hz : ∀ j, j < 17 → j ≠ 1 → (t j).st ≠ 1) : Calls Tryz.prog 24 #[.pointer (some ⟨b, 0, none⟩)] w fun e w' => ∃ g cp, e = .returned (.slice (some ⟨g, 0, none⟩) 1 cp) ∧ w'.cell? ⟨g, 0, none⟩ = some (.int .i64 1) ∧ g < w'.heap.size ∧ Below w.heap.size w w' := by
  have hl := tab_ld h
  have HX := Lib.hid (fun w (k : Nat) hk => tab_ix (k := k) w t hk)
  have HZ := Lib.hid hz
  have H1 := Lib.hid h1
  clear h hz h1
  generalize tabA t = C at *
  go_enter Tryz.func24, Tryz.ntmps24
  go_wp2_with fail
  go_loopw [3, 10] (fun sv iv wr => ∃ (j : Nat) (v : Value), j ≤ 17 ∧ iv = .int .i64 j ∧ v = sv ∧ Hid ((j ≤ 1 ∧ v = .slice none 0 0) ∨ (2 ≤ j ∧ ∃ g cp, v = .slice (some ⟨g, 0, none⟩) 1 cp ∧ wr.cell? ⟨g, 0, none⟩ = some (.int .i64 1) ∧ g < wr.heap.size)) ∧ Hid (Below w.heap.size w wr)) (fun _ iv _ => 17 - (intOf iv).toNat)
  case atStart => exact ⟨0, _, by omega, rfl, rfl, Lib.hid (.inl ⟨by omega, rfl⟩), Lib.hid (Below.refl _ _)⟩
  case round =>
    obtain ⟨j, x3, hj, rfl, rfl, HS, HB⟩ := hrel
    by_cases hlt : j < 17
    · have hji : (j : Int) < 17 := by omega
      have hx := fun w => HX.out w j hlt
      have HB1 := Lib.hid (HB.out.trans ((Go.Joins.below_alloc1 wr (.cells (entA (t j)) 117)).mono HB.out.size))
      unfold entA at hx HB1
      by_cases e : j = 1
      · have h1 : (t j).st = 1 := by rw [e]; exact H1.out
        rcases HS.out with ⟨_, rfl⟩ | ⟨h2, _⟩
        · obtain ⟨g, cp, w3, hap, hg, hgl, hb3⟩ := apI_new (w := (wr.alloc (.cells #[.int .i64 (t j).st, .int .i64 (t j).par, .int .i64 (t j).gr, .int .i64 (t j).code] 117)).alloc (.cells #[.int .i64 j] 3)) (b := wr.heap.size + 1) (x := j) (by rw [← size_alloc1 wr (.cells #[.int .i64 (t j).st, .int .i64 (t j).par, .int .i64 (t j).gr, .int .i64 (t j).code] 117)]; exact (row_new _ 3 #[.int .i64 j]).cell 0)
          have hd : ((t j).st == 1) = true := by simp [h1]
          have hg1 : w3.cell? ⟨g, 0, none⟩ = some (.int .i64 1) := by rw [hg, e]; rfl
          have HN := Lib.hid (And.intro hg1 hgl)
          have HB3 := Lib.hid ((HB1.out.trans ((Go.Joins.below_alloc1 _ (.cells #[.int .i64 j] 3)).mono HB1.out.size)).trans (hb3.mono (by have := HB1.out.size; simp only [size_alloc1] at this ⊢; omega)))
          have HE := Lib.hid e
          clear h1 hg hgl hb3 HS hg1 e
          go_wp2_with fail
          go_roundw
          case rel => exact ⟨j + 1, _, by omega, by go_num, rfl, Lib.hid (.inr ⟨by have := HE.out; omega, g, cp, rfl, HN.out.1, HN.out.2⟩), HB3⟩
          case measure => simp [intOf]; omega
        · omega
      · have hn := HZ.out j hlt e
        have hd : ((t j).st == 1) = false := by simp [hn]
        have HS1 : Hid ((j + 1 ≤ 1 ∧ x3 = Value.slice none 0 0) ∨ (2 ≤ j + 1 ∧ ∃ g cp, x3 = Value.slice (some ⟨g, 0, none⟩) 1 cp ∧ (wr.alloc (.cells #[.int .i64 (t j).st, .int .i64 (t j).par, .int .i64 (t j).gr, .int .i64 (t j).code] 117)).cell? ⟨g, 0, none⟩ = some (.int .i64 1) ∧ g < (wr.alloc (.cells #[.int .i64 (t j).st, .int .i64 (t j).par, .int .i64 (t j).gr, .int .i64 (t j).code] 117)).heap.size)) := Lib.hid (by
          rcases HS.out with ⟨q, e0⟩ | ⟨q, g, cp, e0, hc, hl⟩
          · exact .inl ⟨by omega, e0⟩
          · exact .inr ⟨by omega, g, cp, e0, by rw [World.cell?_alloc_lt (h := hl)]; exact hc, by rw [size_alloc1]; omega⟩)
        clear hn HS
        go_wp2_with fail
        go_roundw
        case rel => exact ⟨j + 1, _, by omega, by go_num, rfl, HS1, HB1⟩
        case measure => simp [intOf]; omega
    · obtain rfl : j = 17 := by omega
      rcases HS.out with ⟨q, _⟩ | ⟨_, g, cp, rfl, hc, hl⟩
      · omega
      · have HC := Lib.hid (And.intro hc hl)
        clear hc hl
        go_wp2_with fail
        go_ret
        exact ⟨g, cp, rfl, HC.out.1, HC.out.2, HB.out⟩
end
end Go.Proofs.YtdkbmkapnapahaaGreatDoor
