/- A kernel that has begun, as one state. The kernel while processes are made. No walk here but the fork's ask. The walk of ringtop.rvKernel at programs that go round. The kernel's calls CSleep and CPid, asked. No walk here. -/
import Derived.Test.YtafflkemnniegaaGreatDoorKerR
import Derived.Test.YtafflkemnniegaaGreatDoorStart
import Derived.Test.YtafflkemnniegaaGreatDoorTpE
import Derived.Test.YtafflkemnniegaaGreatDoorSlA
import Derived.Test.YtafflkemnniegaaGreatDoorMake
import Derived.Test.YtafflkemnniegaaGreatDoorCodeDec
namespace Go.Proofs.YtafflkemnniegaaGreatDoor
open Go.RowKit
set_option linter.unusedVariables false
set_option linter.unusedSimpArgs false
/-- the memory at first: no page, one space -/
def mS0 (sp : Nat) : MS := ⟨.slice none 0 0, [], 1, fun s => if s = 1 then some sp else none, fun _ => 0, fun _ _ => none, fun _ _ => 0, fun _ => 0, fun _ => false⟩
/-- the state at first -/
def sS0 (nc : Nat) (c : Nat → Value) (tag : Nat → Nat) (T cc sp wb : Nat) : KSt := ⟨tag, c, ProcLaw.start, fun _ => OpenLaw.f0, fun _ => 0, some ⟨T, 0, none⟩, cc, [⟨1, 0, true, 0⟩], mS0 sp, fun p => if p = 1 then some wb else none, nc, 0, 48, 8, 0, .slice none 0 0, []⟩
theorem mem0 {w : World} {M so sp : Nat} (mm : Row w M 224 #[.int .i64 48, .int .i64 8, .int .i64 0, .slice none 0 0, .map (some so)]) (om : OMap w so 1 (fun k => if k = 1 then some sp else none)) (im : IMap w sp 0 (fun _ => none)) (h1 : so < M) (h2 : M < sp) : MemG w M so 48 8 (mS0 sp) := by
  refine ⟨mm.cell 0, mm.cell 1, ⟨0, mm.cell 2⟩, mm.cell 3, mm.cell 4, mm.fz, mm.lt, World.ownsRow_nil _ _ _ _, om, fun s b hs => ?_, fun g hg => (by cases hg), by omega, fun b hb => (by cases hb), fun s b hs => ?_, fun g hg => (by cases hg), fun s s' b hs hs' => ?_, List.nodup_nil⟩
  · simp only [mS0] at hs ⊢
    split at hs
    · injection hs with hs; subst hs; exact im
    · cases hs
  · simp only [mS0] at hs ⊢
    split at hs
    · injection hs with hs; subst hs; exact ⟨by omega, by omega, fun e => by cases e⟩
    · cases hs
  · simp only [mS0] at hs hs'
    split at hs
    · split at hs'
      · omega
      · cases hs'
    · cases hs
theorem KS.toKT {w : World} {nc B K P Wh Fi Pr R M so sp : Nat} {c : Nat → Value} (h : KS w nc B K P Wh Fi Pr R M so sp c) (n1 : 1 ≤ nc) (n4 : nc ≤ 4) : ∃ tag T cc wb, KT w ⟨K, Wh, Fi, Pr, R, M, so⟩ (sS0 nc c tag T cc sp wb) ∧ ∀ j, tag j ≠ 0 → B ≤ j := by
  obtain ⟨T, cc, hru, hspT⟩ := h.ru
  obtain ⟨wb, hc63, hwb, hspw⟩ := h.wd
  obtain ⟨T', C, e, hT⟩ := hru.rows (by decide)
  injection e with e
  injection e with e
  subst e
  have hTw : T ≠ wb := fun e => by
    have r1 := hT.row
    have r2 := hwb
    rw [e] at r1
    have r3 : some (Obj.cells C 136) = some (Obj.cells #[.int .i64 1] 3) := r1.symm.trans r2
    injection r3 with r3
    injection r3 with _ r4
    exact absurd r4 (by decide)
  have b := h.kp.b
  have o := h.or
  refine ⟨fun j => if j = K then 1 else if j = Wh then 2 else if j = Fi then 3 else if j = Pr then 4 else if j = R ∨ j = T then 5 else if j = M ∨ j = so ∨ j = sp then 6 else if j = wb then 7 else 0, T, cc, wb, ⟨h.kr, h.c1, h.c4, h.c5, h.c6, h.c7, ⟨h.kp.wh, World.ownsRow_nil _ _ _ _, fun e => by cases e⟩, h.kp.fi, h.kp.pr, hru, mem0 h.mm h.om h.im o.2.2.1 o.2.2.2, fun p q hq => ?_, ?_, ?_, ?_, ?_, fun j hj => ?_, fun j hj => ?_, fun j hj => ?_, ⟨n1, n4⟩, show (4 : Int) ≤ 48 ∧ (48 : Int) ≤ 64 ∧ (0 : Int) ≤ 8 ∧ (8 : Int) ≤ 64 by decide⟩, fun j hj => ?_⟩
  · simp only [sS0] at hq
    split at hq
    · rename_i hp
      injection hq with hq
      subst hp
      subst hq
      refine ⟨⟨1, hc63⟩, by rw [hwb.cell]; rfl, hwb.lt, ?_⟩
      simp only [sS0]
      rw [if_neg (by omega), if_neg (by omega), if_neg (by omega), if_neg (by omega), if_neg (by omega), if_neg (by omega), if_pos trivial]
    · cases hq
  · simp only [sS0]; rw [if_pos trivial]
  · intro j hj
    rcases hj with rfl | e
    · simp only [sS0]; rw [if_neg (by omega), if_pos trivial]
    · cases e
  · simp only [sS0]; rw [if_neg (by omega), if_neg (by omega), if_pos trivial]
  · simp only [sS0]; rw [if_neg (by omega), if_neg (by omega), if_neg (by omega), if_pos trivial]
  · have hj : j = R ∨ j = T := by
      rcases hj with q | ⟨a, q, q2⟩
      · exact .inl q
      · simp only [sS0] at q
        injection q with q
        subst q
        exact .inr q2
    simp only [sS0]
    rw [if_neg (by omega), if_neg (by omega), if_neg (by omega), if_neg (by omega), if_pos hj]
  · have hj : j = M ∨ j = so ∨ j = sp := by
      rcases hj with q | q | q | ⟨x, q⟩ | q
      · exact .inl q
      · exact .inr (.inl q)
      · cases q
      · simp only [sS0, mS0] at q
        split at q
        · injection q with q; exact .inr (.inr q.symm)
        · cases q
      · cases q
    have n : ¬ (j = R ∨ j = T) := by omega
    simp only [sS0]
    rw [if_neg (by omega), if_neg (by omega), if_neg (by omega), if_neg (by omega), if_neg n, if_pos hj]
  · have l1 := h.kr.lt
    have l2 := hru.lt
    have l3 := hT.row.lt
    have l4 := h.mm.lt
    have l5 := hwb.lt
    obtain ⟨D, ⟨es, ck, hb, _⟩, _⟩ := h.im
    have l6 := (Array.getElem?_eq_some_iff.1 hb).1
    simp only [sS0]
    rw [if_neg (by omega), if_neg (by omega), if_neg (by omega), if_neg (by omega), if_neg (by omega), if_neg (by omega), if_neg (by omega)]
  · rcases Nat.lt_or_ge j B with q | q
    · exfalso
      apply hj
      simp only
      rw [if_neg (by omega), if_neg (by omega), if_neg (by omega), if_neg (by omega), if_neg (by omega), if_neg (by omega), if_neg (by omega)]
    · exact q
end Go.Proofs.YtafflkemnniegaaGreatDoor
namespace Go.Proofs.YtafflkemnniegaaGreatDoor
open Go.RowKit
set_option linter.unusedVariables false
set_option linter.unusedSimpArgs false
/-- the registers behind so many turns -/
def gOf (m : Nat) : CpuLaw.G := ⟨fun i => if i = 1 then ((m + 1) / 2) % 4294967296 else 0, if m % 2 = 0 then 0 else 4, 1⟩
theorem gOf_even {m : Nat} (h : m % 2 = 0) : CpuLaw.exG (gOf m) 14 1 1 1 = gOf (m + 1) := by
  have e : CpuLaw.u32z 1 = 1 := by decide
  unfold CpuLaw.exG
  rw [if_pos rfl, e]
  unfold gOf CpuLaw.setR CpuLaw.up
  simp only [CpuLaw.G.mk.injEq]
  refine ⟨?_, ?_, trivial⟩
  · funext i
    by_cases hi : i = 1
    · subst hi; simp only [if_true]; omega
    · simp only [if_neg hi]
  · rw [if_pos h, if_neg (by omega)]
theorem gOf_odd {m : Nat} (h : ¬ m % 2 = 0) : CpuLaw.exG (gOf m) 19 0 0 (-4) = gOf (m + 1) := by
  have e : CpuLaw.u32z (-4) = 4294967292 := by decide
  unfold CpuLaw.exG
  rw [if_neg (by decide), e]
  unfold gOf CpuLaw.up
  simp only [CpuLaw.G.mk.injEq]
  refine ⟨?_, ?_, trivial⟩
  · funext i
    by_cases hi : i = 1
    · subst hi; simp only [if_true]; omega
    · simp only [if_neg hi]
  · rw [if_neg h, if_pos (by omega)]
/-- a process that goes round -/
structure Go1 (s : KSt) (p m : Nat) : Prop where
  aw : Awake s p
  rg : RegsAt s.c (8 + p * 38 + 1) (gOf m)
  sp : s.c (8 + p * 38) = .int .i64 p
/-- the kernel with N processes, none of which has had a turn -/
structure Ks (s : KSt) (nc N : Nat) : Prop where
  cp : s.nc = nc
  c0 : s.c 0 = .int .i64 nc
  c9 : s.c 654 = .int .u32 0
  wv : s.wv = .slice none 0 0
  wl : s.wl = []
  wn : s.wn = 0
  tk : s.tk = 0
  l : s.l = entered nc (N - 1)
  fr : s.fr = 48
  sl : s.sl = 8
  ps : ∀ p, 1 ≤ p → p ≤ N → Go1 s p 0
  t0 : ∀ p, N < p → (s.t p).st = 0
  fd : ∀ i, s.fd i = 0
  fs : ∀ k, k < 32 → 0 ≤ (s.fs k).n ∧ (s.fs k).n ≤ 200
  one : ∀ j, j < 38 → (s.c (8 + 1 * 38 + j)).oneCell' = true
  n13 : s.c (8 + 1 * 38 + 13) = .slice none 0 0
  n18 : s.c (8 + 1 * 38 + 18) = .slice none 0 0
  cw : ∃ wb, s.cw = fun p => if p = 1 then some wb else none
  par : ∀ p, 2 ≤ p → p ≤ N → (s.t p).par = 1
theorem Ks.mem {s : KSt} {nc N : Nat} (h : Ks s nc N) (m : MS) (tag : Nat → Nat) : Ks { s with m := m, tag := tag } nc N :=
  ⟨h.cp, h.c0, h.c9, h.wv, h.wl, h.wn, h.tk, h.l, h.fr, h.sl, fun p a b => ⟨⟨(h.ps p a b).aw.p1, (h.ps p a b).aw.p16, (h.ps p a b).aw.lv, (h.ps p a b).aw.sl, (h.ps p a b).aw.sg⟩, (h.ps p a b).rg, (h.ps p a b).sp⟩, h.t0, h.fd, h.fs, h.one, h.n13, h.n18, h.cw, h.par⟩
theorem fk0 (fs : Nat → OpenLaw.F) (r : Nat → Nat) (n : Nat) (h : ∀ i, r i = 0) : OpenLaw.fkF fs r n = fs := by
  induction n with
  | zero => rfl
  | succ n ih =>
    rw [OpenLaw.fkF, if_pos (h n)]
    exact ih
theorem f0m : 0 ≤ OpenLaw.f0.n ∧ OpenLaw.f0.n ≤ 200 := by decide
theorem kz_sg0 : (List.range 18).map (fun j => kz (65 + j)) = List.replicate 18 (.int .i64 0) := by unfold kz; kernel_rfl
theorem kz_sg (j : Nat) (hj : j < 18) : kz (65 + j) = .int .i64 0 := by
  have h := congrArg (fun l => l[j]?) kz_sg0
  simp only [List.getElem?_map, List.getElem?_replicate, if_pos hj, List.getElem?_range hj, Option.map_some] at h
  injection h
theorem kz_rg0 : (List.range 9).map (fun j => kz (47 + j)) = (List.range 9).map (fun j => ((CpuLaw.cellsA (gOf 0))[j]?).getD undef) := by unfold kz; kernel_rfl
theorem kz_rg (j : Nat) (hj : j < 9) : kz (47 + j) = ((CpuLaw.cellsA (gOf 0))[j]?).getD undef := by
  have h := congrArg (fun l => l[j]?) kz_rg0
  simp only [List.getElem?_map, List.getElem?_range hj, Option.map_some] at h
  injection h
theorem kz_on (j : Nat) (h : j < 655) : (kz j).oneCell' = true := by
  have ha : Tryz.zeroCells78.all (·.oneCell') = true := by kernel_rfl
  have hz : Tryz.zeroCells78.size = 655 := by kernel_rfl
  rw [Array.all_eq_true] at ha
  unfold kz
  rw [Array.getElem?_eq_getElem (by rw [hz]; exact h)]
  exact ha j (by rw [hz]; exact h)
theorem KS.ks {w : World} {nc B K P Wh Fi Pr R M so sp : Nat} {c : Nat → Value} (h : KS w nc B K P Wh Fi Pr R M so sp c) (tag : Nat → Nat) (T cc wb : Nat) : Ks (sS0 nc c tag T cc sp wb) nc 1 := by
  obtain ⟨h0, h1, h2, h3, h4, h5, h6⟩ := h.tk
  obtain ⟨b, hb, -⟩ := h.wd
  refine ⟨rfl, h.c0, ?_, rfl, rfl, rfl, rfl, rfl, rfl, rfl, fun p p1 p2 => ?_, fun p hp => ?_, fun _ => rfl, fun _ _ => f0m, ?_, h3, ?_, ⟨wb, rfl⟩, fun p a b => by omega⟩
  · show c 654 = _
    rw [h.ck 654 (by decide) (by decide) (.inr (by decide))]
    unfold kz
    kernel_rfl
  · obtain rfl : p = 1 := by omega
    refine ⟨⟨by decide, by decide, by show (ProcLaw.start 1).st = 1; decide, h.sl, fun j hj => (h.sg j hj).trans (kz_sg j hj)⟩, fun j hj => ?_, h.t0⟩
    show c (47 + j) = _
    by_cases e : j = 9
    · subst e; rw [show 47 + 9 = 56 by rfl, h0]; rfl
    · rw [h.ck _ (by omega) (by omega) (by omega)]
      exact kz_rg j (by omega)
  · show (ProcLaw.start p).st = 0
    unfold ProcLaw.start
    rw [ProcLaw.updE_other _ _ (by omega)]
  · intro j hj
    show (c (8 + 1 * 38 + j)).oneCell' = true
    by_cases e : j = 0
    · subst e; rw [show 8 + 1 * 38 + 0 = 46 by rfl, h.t0]; rfl
    by_cases e1 : j = 17
    · subst e1; rw [show 8 + 1 * 38 + 17 = 63 by rfl, hb]; rfl
    by_cases e2 : 10 ≤ j ∧ j ≤ 16
    · have : j = 10 ∨ j = 11 ∨ j = 12 ∨ j = 13 ∨ j = 14 ∨ j = 15 ∨ j = 16 := by omega
      rcases this with rfl | rfl | rfl | rfl | rfl | rfl | rfl
      · rw [show 8 + 1 * 38 + 10 = 56 by rfl, h0]; rfl
      · rw [show 8 + 1 * 38 + 11 = 57 by rfl, h1]; rfl
      · rw [show 8 + 1 * 38 + 12 = 58 by rfl, h2]; rfl
      · rw [show 8 + 1 * 38 + 13 = 59 by rfl, h3]; rfl
      · rw [show 8 + 1 * 38 + 14 = 60 by rfl, h4]; rfl
      · rw [show 8 + 1 * 38 + 15 = 61 by rfl, h5]; rfl
      · rw [show 8 + 1 * 38 + 16 = 62 by rfl, h6]; rfl
    · rw [h.ck _ (by omega) (by omega) (by omega)]
      exact kz_on _ (by omega)
  · show c 64 = _
    rw [h.ck 64 (by decide) (by decide) (.inr (by decide))]
    unfold kz
    kernel_rfl
section
variable {w : World} {k : KC} {s : KSt} {nc N : Nat}
/-- one more process -/
theorem ask_more (h : KT w k s) (hs : Ks s nc N) (hm : Mp s.m N) (h1 : 1 ≤ N) (h6 : N < 6) (n1 : 1 ≤ nc) (n4 : nc ≤ 4) :
    Spec w (KOut w.heap.size k s.tag (fun s' e a b => e = 0 ∧ a = (N + 1 : Nat) ∧ b = 0 ∧ Ks s' nc (N + 1) ∧ ∃ b nb, Mf s'.m N b nb)) 127 #[.pointer (some ⟨k.K, 0, none⟩), .int .i64 1] := by
  obtain ⟨b, hmf⟩ := hm.fork h1 (by omega)
  obtain ⟨wb, hcw⟩ := hs.cw
  have g1 := hs.ps 1 (by decide) h1
  refine kfork_is (p := 1) (c := N + 1) (s1 := 1) (b := b) (s2 := N + 1) h ⟨by decide, by decide, g1.aw.lv⟩ hs.one g1.sp hmf (by omega) (by omega) (hs.t0 (N + 1) (by omega)) (fun j a1 a2 => by rw [(hs.ps j a1 (by omega)).aw.lv]; decide) hs.n13 (bw := wb) (by rw [hcw]; rfl) hs.n18 g1.aw.sg (by rw [hcw]; exact if_neg (by omega)) (by rw [hs.l]; have := (entered_ok n1 n4 (show N - 1 < 6 by omega)).2.2; rw [show N - 1 + 2 = N + 1 by omega] at this; exact this) (by rw [hs.l, (entered_ok n1 n4 (show N - 1 < 6 by omega)).1]; omega) (by omega) (fun i _ => hs.fd _) hs.fs ?_
  intro m' nb c' tag' ad' cap' hnb hf hco h0 hsg hsl hrg hr0 hon
  have hlt : ∀ p : Int, s.m.S p ≠ some nb := fun p e => by
    have := h.me.lt (k := nb) (.inr (.inr (.inr (.inl ⟨p, e⟩))))
    omega
  refine ⟨rfl, rfl, rfl, ⟨hs.cp, (hco 0 (by omega)).trans hs.c0, (hco 654 (by omega)).trans hs.c9, hs.wv, hs.wl, hs.wn, hs.tk, ?_, hs.fr, hs.sl, fun p p1 p2 => ?_, fun p hp => ?_, fun i => ?_, ?_, fun j hj => by show (c' _).oneCell' = true; rw [hco _ (by omega)]; exact hs.one j hj, (hco _ (by omega)).trans hs.n13, (hco _ (by omega)).trans hs.n18, hs.cw, fun p a1 a2 => by
    show (ProcLaw.forked s.t (N + 1) 1 p).par = 1
    unfold ProcLaw.forked
    by_cases e : p = N + 1
    · subst e; rw [ProcLaw.updE_same]; rfl
    · rw [ProcLaw.updE_other _ _ e]; exact hs.par p a1 (by omega)⟩, b, nb, hm.forked h1 hmf.hs hf hlt⟩
  · show enterL s.l ((N + 1 : Nat) : Int) s.nc = entered nc (N + 1 - 1)
    rw [hs.l, hs.cp]
    obtain ⟨n, rfl⟩ : ∃ n, N = n + 1 := ⟨N - 1, by omega⟩
    rfl
  · rcases Nat.lt_or_ge N p with q | q
    · obtain rfl : p = N + 1 := by omega
      refine ⟨⟨by omega, by omega, by show (ProcLaw.forked s.t (N + 1) 1 (N + 1)).st = 1; unfold ProcLaw.forked; rw [ProcLaw.updE_same], by show c' _ = _; rw [hsl]; exact g1.aw.sl, hsg⟩, fun j hj => ?_, h0⟩
      show c' (8 + (N + 1) * 38 + 1 + j) = _
      rw [Nat.add_assoc _ 1 j]
      rcases Nat.lt_or_ge j 3 with q3 | q3
      · rw [hr0 (1 + j) (by omega) (by omega)]
        have : j = 0 ∨ j = 1 ∨ j = 2 := by omega
        rcases this with rfl | rfl | rfl <;> rfl
      · rw [hrg (1 + j) (by omega) (by omega), ← Nat.add_assoc]
        exact g1.rg j hj
    · have g := hs.ps p p1 q
      have hout : ∀ j, j < 38 → c' (8 + p * 38 + j) = s.c (8 + p * 38 + j) := fun j hj => hco _ (by omega)
      refine ⟨⟨p1, by omega, by show (ProcLaw.forked s.t (N + 1) 1 p).st = 1; unfold ProcLaw.forked; rw [ProcLaw.updE_other _ _ (by omega)]; exact g.aw.lv, by show c' _ = _; rw [hout 37 (by decide)]; exact g.aw.sl, fun j hj => by show c' _ = _; rw [Nat.add_assoc, hout (19 + j) (by omega), ← Nat.add_assoc]; exact g.aw.sg j hj⟩, fun j hj => by show c' _ = _; rw [Nat.add_assoc, hout (1 + j) (by omega), ← Nat.add_assoc]; exact g.rg j hj, by show c' _ = _; have := hout 0 (by decide); rw [Nat.add_zero] at this; rw [this]; exact g.sp⟩
  · show (ProcLaw.forked s.t (N + 1) 1 p).st = 0
    unfold ProcLaw.forked
    rw [ProcLaw.updE_other _ _ (by omega)]
    exact hs.t0 p (by omega)
  · show OpenLaw.cpD s.fd 1 (N + 1) 8 i = 0
    rw [OpenLaw.cpD_at]
    split <;> exact hs.fd _
  · show ∀ k, k < 32 → 0 ≤ (OpenLaw.fkF s.fs (fun i => s.fd (1 * 8 + i)) 8 k).n ∧ (OpenLaw.fkF s.fs (fun i => s.fd (1 * 8 + i)) 8 k).n ≤ 200
    rw [fk0 _ _ _ (fun i => hs.fd _)]
    exact hs.fs
end
end Go.Proofs.YtafflkemnniegaaGreatDoor
namespace Go.Proofs.YtafflkemnniegaaGreatDoor
open Go.RowKit
set_option linter.unusedVariables false
set_option linter.unusedSimpArgs false
/-- the kernel lies behind a world -/
structure Sv (w0 w : World) (k : KC) (s : KSt) : Prop where
  kt : KT w k s
  lo : ∀ j, s.tag j ≠ 0 → w0.heap.size ≤ j
  hb : Below w0.heap.size w0 w
section
variable {w0 w w' : World} {k : KC} {s s' : KSt} {nc N : Nat}
theorem Sv.keep (h : Sv w0 w k s) (hb : Below w.heap.size w w') : Sv w0 w' k s := ⟨h.kt.keep hb, h.lo, h.hb.trans (hb.mono h.hb.size)⟩
theorem Sv.kg (h : Sv w0 w k s) (g : KG s k w w' s') : Sv w0 w' k s' :=
  ⟨g.kt, fun j hj => (g.far j hj).elim (h.lo j) (fun e => Nat.le_trans h.hb.size e), h.hb.trans (g.up.toBelow h.hb.size (fun j hj q => by have := h.lo j q; omega))⟩
def callT (n : Int) : Array Value := #[.int .i64 n, .int .i64 0, .int .i64 0, .int .i64 0, .string ByteArray.empty, .string ByteArray.empty, .slice none 0 0]
def bdCT (ps : Array (Nat × Value)) : Sem Value := Instr.build 38 ps
theorem bd_callT (ps : Array (Nat × Value)) : Instr.build 38 ps = bdCT ps := rfl
theorem bdcT_0 (w : World) (n : Int) : (bdCT #[(0, .int .i64 n)]).run Tryz.prog w = .ok (.agg (callT n)) w := by kernel_rfl
theorem ans_newT (w : World) (e a b : Int) : (stR 35 (.pointer (some ⟨w.heap.size, 0, none⟩)) (.agg (ansV e a b (.slice none 0 0)))).run Tryz.prog (w.alloc (.cells #[.int .i64 0, .int .i64 0, .int .i64 0, .slice none 0 0, .slice none 0 0, .int .i64 0, .int .i64 0, .int .i64 0, .int .i64 0, .int .i64 0, .int .i64 0] 35)) = .ok () (w.alloc (.cells (ansV e a b (.slice none 0 0)) 35)) := by
  have := st0_new w (T := 35) (c := #[.int .i64 0, .int .i64 0, .int .i64 0, .slice none 0 0, .slice none 0 0, .int .i64 0, .int .i64 0, .int .i64 0, .int .i64 0, .int .i64 0, .int .i64 0]) (cs := ansV e a b (.slice none 0 0)) rfl (by kernel_rfl) (ansV_one _ _ _ rfl)
  exact this
/-- the first process forks -/
theorem ask_fork (h : KT w k s) (hs : Ks s nc N) (hm : Mp s.m N) (h1 : 1 ≤ N) (h6 : N < 6) (n1 : 1 ≤ nc) (n4 : nc ≤ 4) :
    Calls Tryz.prog 6 #[.pointer (some ⟨k.K, 0, none⟩), .int .i64 1, .agg (callT 2)] w fun e w' => ∃ s' b nb, e = .returned (.agg (ansV 0 (N + 1 : Nat) 0 (.slice none 0 0))) ∧ KG s k w w' s' ∧ Ks s' nc (N + 1) ∧ Mf s'.m N b nb := by
  have ok := kout_ok (k := k) (w0 := w) (tag0 := s.tag) h.tz (fun s' e a b => e = 0 ∧ a = (N + 1 : Nat) ∧ b = 0 ∧ Ks s' nc (N + 1) ∧ ∃ b nb, Mf s'.m N b nb)
  refine (askP_is ok (Below.refl _ _) h (hs.ps 1 (by decide) h1).aw rfl (doP_is ok (.inr (.inl rfl)) rfl rfl (proc_fork (by decide) (by decide) ok rfl rfl (ask_more h hs hm h1 h6 n1 n4)))).mono ?_
  rintro e2 w' ⟨X, rfl, hX, hone, hu, s', e, a, b, hk, hf, rfl, ⟨rfl, rfl, rfl, hks, b, nb, hmf⟩, hU⟩
  exact ⟨s', b, nb, rfl, ⟨hk, hU, hf⟩, hks, hmf⟩
theorem wf_small {N : Nat} (h : N < 7) : (Lit.int .i64 (N : Nat)).wf = true := by
  have : N = 0 ∨ N = 1 ∨ N = 2 ∨ N = 3 ∨ N = 4 ∨ N = 5 ∨ N = 6 := by omega
  rcases this with rfl | rfl | rfl | rfl | rfl | rfl | rfl <;> decide
/-- the child's program is put -/
theorem put_more {b nb : Nat} {v : Value} (h : KT w k s) (hs : Ks s nc (N + 1)) (hm : Mf s.m N b nb) (h1 : 1 ≤ N) (h6 : N < 6) (hv : InsL w v loopL) :
    Calls Tryz.prog 11 #[.pointer (some ⟨k.K, 0, none⟩), .int .i64 (N + 1 : Nat), v] w fun e w' => e = .returned (.bool true) ∧ ∃ s', KG s k w w' s' ∧ Ks s' nc (N + 1) ∧ Mp s'.m (N + 1) := by
  have g := hs.ps (N + 1) (by omega) (Nat.le_refl _)
  refine (put_prog h (p := N + 1) (b := nb) (s1 := (N + 1 : Nat)) ⟨by omega, by omega, g.aw.lv, g.sp, wf_small (by omega), hm.Sn, by rw [hm.F]; exact hm.lone, fun j g r a1 a2 e => ?_, ?_, by have := hm.nFn; omega⟩ hv loop_enc (by decide) (by decide)).mono ?_
  · rw [hm.F] at e
    obtain ⟨-, -, q1, q2⟩ := hm.pg j g r e
    exact ⟨q1, by rw [q2]; decide, by rw [q2]; decide⟩
  · rw [hs.fr]; have := hm.len; omega
  · rintro e w' ⟨rfl, m1, m', tag', hu, hp, hg⟩
    exact ⟨rfl, _, hg, hs.mem m' tag', hm.put h1 hu hp hg.kt.me.nd (fun g hg => h.me.lt (.inr (.inr (.inr (.inr hg)))))⟩
/-- the first process's program is put -/
theorem put_first {nc : Nat} {c : Nat → Value} {tag : Nat → Nat} {T cc sp wb : Nat} {v : Value} (h : KT w k (sS0 nc c tag T cc sp wb)) (hs : Ks (sS0 nc c tag T cc sp wb) nc 1) (hv : InsL w v loopL) :
    Calls Tryz.prog 11 #[.pointer (some ⟨k.K, 0, none⟩), .int .i64 1, v] w fun e w' => e = .returned (.bool true) ∧ ∃ s', KG (sS0 nc c tag T cc sp wb) k w w' s' ∧ Ks s' nc 1 ∧ Mp s'.m 1 := by
  have g := hs.ps 1 (by decide) (by decide)
  refine (put_prog h (p := 1) (b := sp) (s1 := 1) ⟨by decide, by decide, g.aw.lv, g.sp, by decide, rfl, (fun _ _ _ _ _ e => nomatch e), (fun j g r a1 a2 e => nomatch e), by show ((0 : Nat) : Int) + 5 ≤ 48; decide, by show 0 < 9000; decide⟩ hv loop_enc (by decide) (by decide)).mono ?_
  rintro e w' ⟨rfl, m1, m', tag', hu, hp, hg⟩
  refine ⟨rfl, _, hg, hs.mem m' tag', mp_one (b := sp) (fun p => ?_) (Nat.le_refl _) rfl (fun _ => rfl) rfl hu hp hg.kt.me.nd⟩
  show (if (p : Int) = 1 then some sp else none) = _
  by_cases e : p = 1
  · rw [if_pos e, if_pos (by omega)]
  · rw [if_neg e, if_neg (by omega)]
end
attribute [local go_sem ↓] ld_ans st_ans bd_callT
set_option maxRecDepth 100000 in
set_option maxHeartbeats 2000000 in
theorem rvk_is {w : World} {nc n : Nat} (n1 : 1 ≤ nc) (n4 : nc ≤ 4) (hn : n < 6) {v : Value} {xs : List Value} {B : Nat} (hv : LpL B w v n xs) : Calls Tryz.prog 5 #[.int .i64 nc, v] w fun e w' => ∃ k s, e = .returned (.tuple #[.pointer (some ⟨k.K, 0, none⟩), .bool true]) ∧ Sv w w' k s ∧ Ks s nc (n + 1) ∧ Mp s.m (n + 1) := by
  have HV := Lib.hid hv
  obtain ⟨p0, cap, rfl⟩ := own_form hv.own
  have HM := Lib.hid (make_is w)
  have HN := Lib.hid (And.intro n1 n4)
  have hbd := fun w => bdcT_0 w 2
  have n6 : (n : Int) < 6 := by omega
  clear hv n1 n4
  go_enter Tryz.func5, Tryz.ntmps5
  go_upto_region 2 with (go_at_call 9; refine HM.out.mono ?_; rintro e1 w1 ⟨D, sb, nb, rfl, hdk, -, -, -, hb1⟩)
  have HST := Lib.hid (start_is hdk fmt_is.1 HN.out.1 HN.out.2)
  have HB1 := Lib.hid hb1
  clear HM hdk hb1
  go_upto_region 5 with (go_at_call 10; refine HST.out.mono ?_; rintro e2 w2 ⟨K, P, Wh, Fi, Pr, R, M, so, sp, c, rfl, hks, hb2⟩)
  obtain ⟨tag, T, cc, wb, hkt, hlo⟩ := hks.toKT HN.out.1 HN.out.2
  have HS2 : Hid (Sv w w2 ⟨K, Wh, Fi, Pr, R, M, so⟩ (sS0 nc c tag T cc sp wb)) := Lib.hid ⟨hkt, fun j hj => Nat.le_trans HB1.out.size (hlo j hj), HB1.out.trans (hb2.mono HB1.out.size)⟩
  have HKS := Lib.hid (hks.ks tag T cc wb)
  have HLP := Lib.hid (loop_is w2)
  clear hks hb2 hkt hlo HST HB1
  obtain ⟨k, hk⟩ : ∃ k : KC, k = ⟨K, Wh, Fi, Pr, R, M, so⟩ := ⟨_, rfl⟩
  rw [← hk] at HS2
  obtain rfl : K = k.K := by rw [hk]
  clear hk
  go_upto_region 7 with (first | (go_at_call 12; refine HLP.out.mono ?_; rintro e3 w3 ⟨b3, h30, h31, rfl, hi3, hb3⟩; have HS3 := Lib.hid (HS2.out.keep hb3); have HPF := Lib.hid (put_first HS3.out.kt HKS.out hi3); clear hb3 hi3) | (go_at_call 11; refine HPF.out.mono ?_; rintro e4 w4 ⟨rfl, s4, hg4, hk4, hm4⟩; have HS4 := Lib.hid (HS3.out.kg hg4); have HK4 := Lib.hid hk4; have HM4 := Lib.hid hm4; clear hg4 hk4 hm4))
  have HR0 : Hid (∃ s, Sv w w4 k s ∧ Ks s nc (0 + 1) ∧ Mp s.m (0 + 1)) := Lib.hid ⟨s4, HS4.out, HK4.out, HM4.out⟩
  clear HS4 HK4 HM4 HPF HS3 HLP HKS HS2
  go_wp2_with fail
  go_loopw [38] (fun kv wr => ∃ i : Nat, i ≤ n ∧ kv = .int .i64 i ∧ Hid (∃ s, Sv w wr k s ∧ Ks s nc (i + 1) ∧ Mp s.m (i + 1))) (fun kv _ => n - (intOf kv).toNat)
  case atStart => exact ⟨0, Nat.zero_le _, rfl, HR0⟩
  case round =>
    obtain ⟨i, hi0, rfl, HR⟩ := hrel
    by_cases hi : i < n
    · have i1 : (i : Int) < n := by omega
      obtain ⟨s, hsv, hks, hmp⟩ := HR.out
      have hvr := HV.out.keep hsv.hb
      obtain ⟨b0, hb0, hcell⟩ : ∃ b0, p0 = some ⟨b0, 0, none⟩ ∧ ∀ j u, xs[j]? = some u → wr.cell? ((⟨b0, 0, none⟩ : Addr).add j) = some u := by
        rcases hvr.own.2 with ⟨e, _⟩ | ⟨g, c', cur, e, _⟩
        · have e : (.slice p0 n cap : Value) = .slice none 0 0 := e
          injection e with _ e _
          omega
        · have e : (.slice p0 n cap : Value) = .slice (some ⟨g, 0, none⟩) n c' := e
          injection e with e _ _
          subst e
          exact ⟨g, rfl, hvr.own.cells (g := g) rfl⟩
      subst hb0
      obtain ⟨x, hx⟩ : ∃ x, xs[i]? = some x := ⟨xs[i]'(by rw [hvr.len]; exact hi), List.getElem?_eq_getElem _⟩
      obtain ⟨bx, rfl, hbx, hix, -⟩ := HV.out.one x (List.mem_of_getElem? hx)
      have hcx := hcell i _ hx
      rw [Addr.add_lit, Nat.zero_add] at hcx
      have HIX := Lib.hid hix
      have HSV := Lib.hid hsv
      have HAF := Lib.hid (ask_fork hsv.kt hks hmp (by omega) (by omega) HN.out.1 HN.out.2)
      rw [show ((i + 1 + 1 : Nat) : Int) = (i : Int) + 2 by omega] at HAF
      clear hsv hks hmp hvr hcell hx hbx hix
      go_upto_region 11 with (go_at_call 6; refine HAF.out.mono ?_; rintro e5 w5 ⟨s5, b5, nb5, rfl, hg5, hk5, hm5⟩; have hst := ans_newT w5 0 ((i : Int) + 2) 0; have HS5 := Lib.hid (HSV.out.kg hg5); have HK5 := Lib.hid hk5; have HM5 := Lib.hid hm5; clear hg5 hk5 hm5)
      have HA : Hid (Below w5.heap.size w5 (w5.alloc (.cells (ansV 0 ((i : Int) + 2) 0 (.slice none 0 0)) 35))) := Lib.hid (Go.Joins.below_alloc1 w5 _)
      have hrn := row_new w5 35 (ansV 0 ((i : Int) + 2) 0 (.slice none 0 0))
      have q0 := hrn.cell 0
      have q1 := hrn.cell 1
      rw [show (ansV 0 ((i : Int) + 2) 0 (.slice none 0 0))[0]? = some (.int .i64 0) from rfl] at q0
      rw [show (ansV 0 ((i : Int) + 2) 0 (.slice none 0 0))[1]? = some (.int .i64 ((i : Int) + 2)) from rfl] at q1
      have HS6 := Lib.hid (HS5.out.keep HA.out)
      clear hst hrn HA HAF HS5
      generalize w5.alloc (.cells (ansV 0 ((i : Int) + 2) 0 (.slice none 0 0)) 35) = w6 at *
      generalize w5.heap.size = g5 at *
      have HPM := Lib.hid (put_more HS6.out.kt HK5.out HM5.out (by omega) (by omega) (HIX.out.keep HS6.out.hb))
      rw [show ((i + 1 + 1 : Nat) : Int) = (i : Int) + 2 by omega] at HPM
      go_upto_region 13 with (go_at_call 11; refine HPM.out.mono ?_; rintro e7 w7 ⟨rfl, s7, hg7, hk7, hm7⟩; have HR7 : Hid (∃ s, Sv w w7 k s ∧ Ks s nc (i + 1 + 1) ∧ Mp s.m (i + 1 + 1)) := Lib.hid ⟨s7, HS6.out.kg hg7, hk7, hm7⟩; clear hg7 hk7 hm7)
      go_wp2_with fail
      go_roundw
      case rel => exact ⟨i + 1, by omega, by go_num, HR7⟩
      case measure => simp [intOf]; omega
    · obtain rfl : i = n := by omega
      go_wp2_with fail
      go_ret2
      obtain ⟨s, h1, h2, h3⟩ := HR.out
      exact ⟨k, s, rfl, h1, h2, h3⟩
end Go.Proofs.YtafflkemnniegaaGreatDoor
namespace Go.Proofs.YtafflkemnniegaaGreatDoor
open Go.RowKit
set_option linter.unusedVariables false
set_option linter.unusedSimpArgs false
section
variable {w : World} {k : KC} {s : KSt} {p i : Nat} {x : Tk}
def callU (n a : Int) : Array Value := #[.int .i64 n, .int .i64 a, .int .i64 0, .int .i64 0, .string ByteArray.empty, .string ByteArray.empty, .slice none 0 0]
theorem bdcU_1 (w : World) (n a : Int) : (bdCT #[(0, .int .i64 n), (1, .int .i64 a)]).run Tryz.prog w = .ok (.agg (callU n a)) w := by kernel_rfl
/-- the state behind sleep -/
def slept (s : KSt) (p i : Nat) (x : Tk) (at' : Int) (v' : Value) (tag' : Nat → Nat) : KSt := { s with c := upV s.c (8 + p * 38 + 37) (.bool true), l := fillG (s.l.set i { x with rd := false, cpu := -1 }) s.nc, wv := v', wl := [(at', (p : Int))], tag := tag' }
theorem ask_sleep (h : KT w k s) (haw : Awake s p) {n nw : Int} (n1 : 1 ≤ n) (n9 : n ≤ 1000) (h9 : s.c 654 = .int .u32 nw) (w0' : 0 ≤ s.wn) (w1' : s.wn ≤ nw) (w2' : nw < 1000000) (hv : s.wv = .slice none 0 0) (hwl : s.wl = []) (hi : idG s.l p = some i) (hx : s.l[i]? = some x) (hr : x.rd = true) :
    Calls Tryz.prog 6 #[.pointer (some ⟨k.K, 0, none⟩), .int .i64 p, .agg (callU 34 n)] w fun e w' => e = .returned (.agg (ansV 0 0 0 (.slice none 0 0))) ∧ ∃ v' tag', KG s k w w' (slept s p i x (nw + n) v' tag') := by
  have ok := kout_ok (k := k) (w0 := w) (tag0 := s.tag) h.tz (fun s' e a b => e = 0 ∧ a = 0 ∧ b = 0 ∧ ∃ v' tag', s' = slept s p i x (nw + n) v' tag')
  refine (askP_is ok (Below.refl _ _) h haw rfl (doQ_is ok (.inr rfl) rfl rfl (proc_sleep (a := n) (by have := haw.p1; omega) (by have := haw.p16; omega) ok rfl rfl rfl (fun w1 h1 => (ksleep_is (h.keep h1) haw.p16 n1 n9 h9 w0' w1' w2' hv hwl hi hx hr).mono ?_)))).mono ?_
  · rintro e w2 ⟨rfl, v', tag', hg⟩
    exact ⟨0, rfl, hg.up.mono (fun j _ e => h.lt e), _, 0, 0, 0, hg.kt, hg.far, rfl, ⟨rfl, rfl, rfl, v', tag', rfl⟩, hg.up⟩
  · rintro e2 w' ⟨X, rfl, hX, hone, hu, s', e, a, b, hk, hf, rfl, ⟨rfl, rfl, rfl, v', tag', rfl⟩, hU⟩
    exact ⟨rfl, v', tag', hk, hU, hf⟩
theorem ask_pid (h : KT w k s) (haw : Awake s p) :
    Calls Tryz.prog 6 #[.pointer (some ⟨k.K, 0, none⟩), .int .i64 p, .agg (callT 30)] w fun e w' => e = .returned (.agg (ansV 0 p (s.t p).par (.slice none 0 0))) ∧ KG s k w w' s := by
  have ok := kout_ok (k := k) (w0 := w) (tag0 := s.tag) h.tz (fun s' e a b => e = 0 ∧ a = p ∧ b = (s.t p).par ∧ s' = s)
  refine (askP_is ok (Below.refl _ _) h haw rfl (doQ_is ok (.inl rfl) rfl rfl (proc_pid h haw.p1 haw.p16 (by rw [haw.lv]; decide) rfl rfl))).mono ?_
  rintro e2 w' ⟨X, rfl, hX, hone, hu, s', e, a, b, hk, hf, rfl, ⟨rfl, rfl, rfl, rfl⟩, hU⟩
  exact ⟨rfl, hk, hU, hf⟩
end
end Go.Proofs.YtafflkemnniegaaGreatDoor
