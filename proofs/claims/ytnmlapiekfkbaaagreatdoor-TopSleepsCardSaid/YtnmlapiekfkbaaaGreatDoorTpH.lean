/- The memory while processes are made: each has a program that goes round. No walk here. A kernel that has begun, as one state. The kernel while processes are made. No walk here but the fork's ask. -/
import Derived.Test.YtnmlapiekfkbaaaGreatDoorCpuA
import Derived.Test.YtnmlapiekfkbaaaGreatDoorTpDl
import Derived.Test.YtnmlapiekfkbaaaGreatDoorKerSu
import Derived.Test.YtnmlapiekfkbaaaGreatDoorKerT
import Derived.Test.YtnmlapiekfkbaaaGreatDoorKerG
import Derived.Test.YtnmlapiekfkbaaaGreatDoorStart
import Derived.Test.YtnmlapiekfkbaaaGreatDoorTpE
import Derived.Test.YtnmlapiekfkbaaaGreatDoorKerTk
namespace Go.Proofs.YtnmlapiekfkbaaaGreatDoor
open Go.RowKit
set_option linter.unusedVariables false
set_option linter.unusedSimpArgs false
theorem loop_enc : EncOk loopL := fun i x hx => by
  match i, hx with
  | 0, hx => injection hx with hx; subst hx; decide +kernel
  | 1, hx => injection hx with hx; subst hx; decide +kernel
def y0 : Nat := 235995137
def y1 : Nat := 318832636
theorem dec_y0 : CodeLaw.decR (y0 : Nat) = (⟨14, (1 : Nat), (1 : Nat), 1⟩, 0) := by decide +kernel
theorem dec_y1 : CodeLaw.decR (y1 : Nat) = (⟨19, (0 : Nat), (0 : Nat), -4⟩, 0) := by decide +kernel
theorem pg_loop : pgB (progB loopL) 0 = [1, 0, 17, 14, 252, 255, 0, 19] := by decide +kernel
theorem word_put {m : MS} {b g : Nat} (hF : m.F b 0 = some (g, 5)) (hg : g ∈ m.pl) (hd : m.d g = padF (pgB (progB loopL) 0)) : CpuLaw.WordAt m b 0 y0 ∧ CpuLaw.WordAt m b 4 y1 := by
  rw [pg_loop] at hd
  refine ⟨⟨0, 5, g, 0, 1, 0, 17, 14, by decide, by decide, hF, hg, by decide +kernel, by decide, by decide, by decide, ?_, ?_, ?_, ?_, by decide, by decide, by decide, by decide, by decide⟩, ⟨0, 5, g, 4, 252, 255, 0, 19, by decide, by decide, hF, hg, by decide +kernel, by decide, by decide, by decide, ?_, ?_, ?_, ?_, by decide, by decide, by decide, by decide, by decide⟩⟩ <;> (rw [hd]; rfl)
/-- a word stays where it is -/
theorem word_keep {m m' : MS} {b a x : Nat} (h : CpuLaw.WordAt m b a x) (hF : m'.F b = m.F b) (hpl : ∀ g, g ∈ m.pl → g ∈ m'.pl ∧ m'.d g = m.d g) : CpuLaw.WordAt m' b a x := by
  obtain ⟨pg, r, g, o, x0, x1, x2, x3, h0, h1, h2, h3, h4, h5, h6, h7, h8, h9, h10, h11, h12⟩ := h.at'
  obtain ⟨hg, hd⟩ := hpl g h3
  exact ⟨pg, r, g, o, x0, x1, x2, x3, h0, h1, by rw [hF]; exact h2, hg, h4, h5, h6, h7, by rw [hd]; exact h8, by rw [hd]; exact h9, by rw [hd]; exact h10, by rw [hd]; exact h11, h12⟩
/-- the pages of a space are its own, the first five -/
structure Own5 (m : MS) (b : Nat) : Prop where
  lone : Lone (m.F b)
  pg : ∀ k g r, m.F b k = some (g, r) → 0 ≤ k ∧ k < 5 ∧ g ∈ m.pl ∧ m.u g = 1
  nF : m.nF b ≤ 10
  w0 : CpuLaw.WordAt m b 0 y0
  w1 : CpuLaw.WordAt m b 4 y1
/-- a program is put over pages that were shared, or none -/
theorem put_own {m m1 m2 : MS} {b B0 : Nat} (hu : Unm m m1 b 5) (hp : PutsTo B0 b (pgF (progB loopL)) m1 5 m2) (hnd : m2.pl.Nodup) (hB : ∀ g, g ∈ m.pl → g < B0) (hF : ∀ k, (k < 0 ∨ 5 ≤ k) → m.F b k = none) (hn : m.nF b ≤ 5) :
    PutFacts B0 b (pgF (progB loopL)) m1 5 m2 ∧ Own5 m2 b := by
  have f := PutsTo.facts (fun g hg => hB g (by rw [← hu.pl]; exact hg)) hp hnd
  have e1 : ∀ k, (k < 0 ∨ 5 ≤ k) → m2.F b k = none := fun k hk => by
    rw [f.fr k (by omega), hu.F, fup_same, if_neg (by omega)]
    exact hF k hk
  obtain ⟨g, -, hg, hFg, hdg, -⟩ := f.pg 0 (by decide)
  obtain ⟨w0, w1⟩ := word_put (m := m2) (b := b) (g := g) hFg hg hdg
  refine ⟨f, ⟨fun k k' g r r' h1 h2 => ?_, fun k g r h1 => ?_, ?_, w0, w1⟩⟩
  · have k0 : 0 ≤ k ∧ k < 5 := by
      rcases Int.lt_or_le k 0 with q | q
      · rw [e1 k (.inl q)] at h1; cases h1
      · rcases Int.lt_or_le k 5 with q2 | q2
        · exact ⟨q, q2⟩
        · rw [e1 k (.inr q2)] at h1; cases h1
    have k1 : 0 ≤ k' ∧ k' < 5 := by
      rcases Int.lt_or_le k' 0 with q | q
      · rw [e1 k' (.inl q)] at h2; cases h2
      · rcases Int.lt_or_le k' 5 with q2 | q2
        · exact ⟨q, q2⟩
        · rw [e1 k' (.inr q2)] at h2; cases h2
    have a1 : ((k.toNat : Nat) : Int) = k := by omega
    have a2 : ((k'.toNat : Nat) : Int) = k' := by omega
    have := f.inj k.toNat k'.toNat g r r' (by omega) (by omega) (by rw [a1]; exact h1) (by rw [a2]; exact h2)
    omega
  · have k0 : 0 ≤ k ∧ k < 5 := by
      rcases Int.lt_or_le k 0 with q | q
      · rw [e1 k (.inl q)] at h1; cases h1
      · rcases Int.lt_or_le k 5 with q2 | q2
        · exact ⟨q, q2⟩
        · rw [e1 k (.inr q2)] at h1; cases h1
    have a1 : ((k.toNat : Nat) : Int) = k := by omega
    obtain ⟨g', -, hg', hF', -, hu'⟩ := f.pg k.toNat (by omega)
    rw [a1, h1] at hF'
    injection hF' with hF'
    injection hF' with hF' _
    subst hF'
    exact ⟨k0.1, k0.2, hg', hu'⟩
  · rw [f.nF, hu.nF]; omega
/-- the memory of N processes -/
structure Mp (m : MS) (N : Nat) : Prop where
  S : ∀ p : Nat, 1 ≤ p → p ≤ N → ∃ b, m.S p = some b ∧ CpuLaw.WordAt m b 0 y0 ∧ CpuLaw.WordAt m b 4 y1
  S0 : ∀ p : Nat, N < p → m.S p = none
  nS : m.nS ≤ N
  len : m.pl.length ≤ 5 * N
  one : ∃ b, m.S 1 = some b ∧ Own5 m b ∧ m.nF b ≤ 5
theorem Mp.fork {m : MS} {N : Nat} (h : Mp m N) (h1 : 1 ≤ N) (h6 : N + 1 ≤ 16) : ∃ b, MayFork m 1 b (N + 1) := by
  obtain ⟨b, hb, ho, hn⟩ := h.one
  exact ⟨b, hb, by decide, by omega, by omega, h.S0 (N + 1) (by omega), fun j a1 a2 => by obtain ⟨b', q, -⟩ := h.S j a1 (by omega); exact ⟨b', q⟩, by have := h.nS; omega, ho.lone, fun k g r e => by
    obtain ⟨-, -, q1, q2⟩ := ho.pg k g r e
    exact ⟨q1, by rw [q2]; decide, by rw [q2]; decide⟩, by omega⟩
/-- a fork's memory before the child's program is put -/
structure Mf (m : MS) (N b nb : Nat) : Prop where
  S : ∀ p : Nat, 1 ≤ p → p ≤ N → ∃ b, m.S p = some b ∧ b ≠ nb ∧ CpuLaw.WordAt m b 0 y0 ∧ CpuLaw.WordAt m b 4 y1
  Sn : m.S (N + 1 : Nat) = some nb
  S0 : ∀ p : Nat, N + 1 < p → m.S p = none
  nS : m.nS ≤ N + 1
  len : m.pl.length ≤ 5 * N
  sb : m.S 1 = some b
  ne : b ≠ nb
  F : m.F nb = m.F b
  lone : Lone (m.F b)
  pg : ∀ k g r, m.F b k = some (g, r) → 0 ≤ k ∧ k < 5 ∧ g ∈ m.pl ∧ m.u g = 2
  nF : m.nF b ≤ 5
  nFn : m.nF nb ≤ 5
theorem Mp.forked {m m' : MS} {N b nb : Nat} (h : Mp m N) (h1 : 1 ≤ N) (hb : m.S 1 = some b) (hf : Forked m m' 1 (N + 1 : Nat) b nb) (hnb : ∀ p, m.S p ≠ some nb) : Mf m' N b nb := by
  obtain ⟨b', hb', ho, hn⟩ := h.one
  rw [hb] at hb'
  injection hb' with hb'
  subst hb'
  have hne : b ≠ nb := fun e => hnb 1 (by rw [hb, e])
  have hpl : ∀ g, g ∈ m.pl → g ∈ m'.pl ∧ m'.d g = m.d g := fun g hg => ⟨by rw [hf.pl]; exact hg, by rw [hf.d]⟩
  refine ⟨fun p p1 p2 => ?_, by rw [hf.S]; exact if_pos rfl, fun p hp => ?_, by rw [hf.nS]; have := h.nS; omega, by rw [hf.pl]; exact h.len, ?_, hne, ?_, ?_, ?_, ?_, ?_⟩
  · obtain ⟨b', q1, q2, q3⟩ := h.S p p1 p2
    have hne' : b' ≠ nb := fun e => hnb p (by rw [q1, e])
    have eF : m'.F b' = m.F b' := by rw [hf.F, fup_off _ _ hne']
    exact ⟨b', by rw [hf.S]; show (if ((p : Nat) : Int) = ((N + 1 : Nat) : Int) then _ else _) = _; rw [if_neg (by omega)]; exact q1, hne', word_keep q2 eF hpl, word_keep q3 eF hpl⟩
  · rw [hf.S]
    show (if ((p : Nat) : Int) = ((N + 1 : Nat) : Int) then _ else _) = _
    rw [if_neg (by omega)]
    exact h.S0 p (by omega)
  · rw [hf.S]
    show (if (1 : Int) = ((N + 1 : Nat) : Int) then _ else _) = _
    rw [if_neg (by omega)]
    exact hb
  · rw [hf.F, fup_same, fup_off _ _ hne]
  · rw [hf.F, fup_off _ _ hne]
    exact ho.lone
  · intro k g r e
    rw [hf.F, fup_off _ _ hne] at e
    obtain ⟨q1, q2, q3, q4⟩ := ho.pg k g r e
    exact ⟨q1, q2, by rw [hf.pl]; exact q3, by rw [hf.u0 g ⟨k, r, e⟩, q4]; rfl⟩
  · rw [hf.nF b hne]; exact hn
  · have := hf.nFn; omega
/-- the child's program is put -/
theorem Mf.put {m m1 m2 : MS} {N b nb B0 : Nat} (h : Mf m N b nb) (h1 : 1 ≤ N) (hu : Unm m m1 nb 5) (hp : PutsTo B0 nb (pgF (progB loopL)) m1 5 m2) (hnd : m2.pl.Nodup) (hB : ∀ g, g ∈ m.pl → g < B0) : Mp m2 (N + 1) := by
  have hF0 : ∀ k, (k < 0 ∨ 5 ≤ k) → m.F nb k = none := fun k hk => by
    rw [h.F]
    cases e : m.F b k with
    | none => rfl
    | some x =>
      obtain ⟨q1, q2, -⟩ := h.pg k x.1 x.2 e
      omega
  obtain ⟨f, ho⟩ := put_own hu hp hnd hB hF0 h.nFn
  have hpl : ∀ g, g ∈ m.pl → g ∈ m2.pl ∧ m2.d g = m.d g := fun g hg => ⟨f.pl g (by rw [hu.pl]; exact hg), by rw [(f.old g (hB g hg)).1, hu.d]⟩
  have eF : ∀ b', b' ≠ nb → m2.F b' = m.F b' ∧ m2.nF b' = m.nF b' := fun b' hb' => by
    obtain ⟨q1, q2⟩ := f.oth b' hb'
    exact ⟨by rw [q1, hu.F, fup_off _ _ hb'], by rw [q2, hu.nF]⟩
  have eS : m2.S = m.S := by rw [f.S, hu.S]
  refine ⟨fun p p1 p2 => ?_, fun p hp => by rw [eS]; exact h.S0 p hp, by rw [f.nS, hu.nS]; exact h.nS, by rw [f.len, hu.pl]; have := h.len; omega, ⟨b, by rw [eS]; exact h.sb, ⟨?_, ?_, ?_, ?_, ?_⟩, ?_⟩⟩
  · rcases Nat.lt_or_ge N p with q | q
    · obtain rfl : p = N + 1 := by omega
      exact ⟨nb, by rw [eS]; exact h.Sn, ho.w0, ho.w1⟩
    · obtain ⟨b', q1, q2, q3, q4⟩ := h.S p p1 q
      exact ⟨b', by rw [eS]; exact q1, word_keep q3 (eF b' q2).1 hpl, word_keep q4 (eF b' q2).1 hpl⟩
  · rw [(eF b h.ne).1]; exact h.lone
  · intro k g r e
    rw [(eF b h.ne).1] at e
    obtain ⟨q1, q2, q3, q4⟩ := h.pg k g r e
    refine ⟨q1, q2, (hpl g q3).1, ?_⟩
    rw [(f.old g (hB g q3)).2, hu.u0 g ⟨k, r, q1, q2, by rw [h.F]; exact e⟩, q4]
    rfl
  · rw [(eF b h.ne).2]; have := h.nF; omega
  · obtain ⟨b', q1, q2, q3, q4⟩ := h.S 1 (by decide) h1
    have q1 : m.S 1 = some b' := q1
    rw [h.sb] at q1
    injection q1 with q1
    subst q1
    exact word_keep q3 (eF b h.ne).1 hpl
  · obtain ⟨b', q1, q2, q3, q4⟩ := h.S 1 (by decide) h1
    have q1 : m.S 1 = some b' := q1
    rw [h.sb] at q1
    injection q1 with q1
    subst q1
    exact word_keep q4 (eF b h.ne).1 hpl
  · rw [(eF b h.ne).2]; exact h.nF
/-- the first process's program is put -/
theorem mp_one {m m1 m2 : MS} {b B0 : Nat} (hS : ∀ p : Nat, m.S p = if p = 1 then some b else none) (hnS : m.nS ≤ 1) (hpl : m.pl = []) (hF : ∀ k, m.F b k = none) (hn : m.nF b = 0) (hu : Unm m m1 b 5) (hp : PutsTo B0 b (pgF (progB loopL)) m1 5 m2) (hnd : m2.pl.Nodup) : Mp m2 1 := by
  obtain ⟨f, ho⟩ := put_own hu hp hnd (fun g hg => by rw [hpl] at hg; cases hg) (fun k _ => hF k) (by omega)
  have eS : ∀ p : Nat, m2.S p = if p = 1 then some b else none := fun p => by rw [f.S, hu.S]; exact hS p
  have hb : m2.S 1 = some b := by have := eS 1; rw [if_pos rfl] at this; exact this
  refine ⟨fun p p1 p2 => ?_, fun p hp => by rw [eS, if_neg (by omega)], by rw [f.nS, hu.nS]; exact hnS, by rw [f.len, hu.pl, hpl]; decide, ⟨b, hb, ho, by rw [f.nF, hu.nF, hn]; decide⟩⟩
  obtain rfl : p = 1 := by omega
  exact ⟨b, hb, ho.w0, ho.w1⟩
end Go.Proofs.YtnmlapiekfkbaaaGreatDoor
namespace Go.Proofs.YtnmlapiekfkbaaaGreatDoor
open Go.RowKit
set_option linter.unusedVariables false
set_option linter.unusedSimpArgs false
/-- the memory at first: no page, one space -/
def mS0 (sp : Nat) : MS := ⟨.slice none 0 0, [], 1, fun s => if s = 1 then some sp else none, fun _ => 0, fun _ _ => none, fun _ _ => 0, fun _ => 0, fun _ => false⟩
/-- the state at first -/
def sS0 (nc : Nat) (c : Nat → Value) (tag : Nat → Nat) (T cc sp wb : Nat) : KSt := ⟨tag, c, ProcLaw.start, fun _ => OpenLaw.f0, fun _ => 0, some ⟨T, 0, none⟩, cc, [⟨1, 0, true, 0⟩], mS0 sp, fun p => if p = 1 then some wb else none, nc, 0, 48, 8, 0, .slice none 0 0, []⟩
theorem mem0 {w : World} {M so sp : Nat} (mm : Row w M 224 #[.int .i64 48, .int .i64 8, .int .i64 0, .slice none 0 0, .map (some so)]) (om : OMap w so 1 (fun k => if k = 1 then some sp else none)) (im : IMap w sp 0 (fun _ => none)) (h1 : so < M) (h2 : M < sp) : MemG w M so 48 8 (mS0 sp) := by
  refine ⟨mm.cell 0, mm.cell 1, ⟨0, mm.cell 2⟩, mm.cell 3, mm.cell 4, mm.fz, mm.lt, World.ownsRow_nil _ _ _ _, om, fun s b hs => ?_, fun g hg => (by cases hg), by omega, fun b hb => (by cases hb), fun s b hs => ?_, fun g hg => (by cases hg), fun s s' b hs hs' => ?_, List.nodup_nil⟩
  · simp only [mS0] at hs ⊢
    split at hs
    · injection hs with hs; subst hs; exact im
    · cases hs
  · simp only [mS0] at hs ⊢
    split at hs
    · injection hs with hs; subst hs; exact ⟨by omega, by omega, fun e => by cases e⟩
    · cases hs
  · simp only [mS0] at hs hs'
    split at hs
    · split at hs'
      · omega
      · cases hs'
    · cases hs
theorem KS.toKT {w : World} {nc B K P Wh Fi Pr R M so sp : Nat} {c : Nat → Value} (h : KS w nc B K P Wh Fi Pr R M so sp c) (n1 : 1 ≤ nc) (n4 : nc ≤ 4) : ∃ tag T cc wb, KT w ⟨K, Wh, Fi, Pr, R, M, so⟩ (sS0 nc c tag T cc sp wb) ∧ ∀ j, tag j ≠ 0 → B ≤ j := by
  obtain ⟨T, cc, hru, hspT⟩ := h.ru
  obtain ⟨wb, hc63, hwb, hspw⟩ := h.wd
  obtain ⟨T', C, e, hT⟩ := hru.rows (by decide)
  injection e with e
  injection e with e
  subst e
  have hTw : T ≠ wb := fun e => by
    have r1 := hT.row
    have r2 := hwb
    rw [e] at r1
    have r3 : some (Obj.cells C 128) = some (Obj.cells #[.int .i64 1] 3) := r1.symm.trans r2
    injection r3 with r3
    injection r3 with _ r4
    exact absurd r4 (by decide)
  have b := h.kp.b
  have o := h.or
  refine ⟨fun j => if j = K then 1 else if j = Wh then 2 else if j = Fi then 3 else if j = Pr then 4 else if j = R ∨ j = T then 5 else if j = M ∨ j = so ∨ j = sp then 6 else if j = wb then 7 else 0, T, cc, wb, ⟨h.kr, h.c1, h.c4, h.c5, h.c6, h.c7, ⟨h.kp.wh, World.ownsRow_nil _ _ _ _, fun e => by cases e⟩, h.kp.fi, h.kp.pr, hru, mem0 h.mm h.om h.im o.2.2.1 o.2.2.2, fun p q hq => ?_, ?_, ?_, ?_, ?_, fun j hj => ?_, fun j hj => ?_, fun j hj => ?_, ⟨n1, n4⟩, show (4 : Int) ≤ 48 ∧ (48 : Int) ≤ 64 ∧ (0 : Int) ≤ 8 ∧ (8 : Int) ≤ 64 by decide⟩, fun j hj => ?_⟩
  · simp only [sS0] at hq
    split at hq
    · rename_i hp
      injection hq with hq
      subst hp
      subst hq
      refine ⟨⟨1, hc63⟩, by rw [hwb.cell]; rfl, hwb.lt, ?_⟩
      simp only [sS0]
      rw [if_neg (by omega), if_neg (by omega), if_neg (by omega), if_neg (by omega), if_neg (by omega), if_neg (by omega), if_pos trivial]
    · cases hq
  · simp only [sS0]; rw [if_pos trivial]
  · intro j hj
    rcases hj with rfl | e
    · simp only [sS0]; rw [if_neg (by omega), if_pos trivial]
    · cases e
  · simp only [sS0]; rw [if_neg (by omega), if_neg (by omega), if_pos trivial]
  · simp only [sS0]; rw [if_neg (by omega), if_neg (by omega), if_neg (by omega), if_pos trivial]
  · have hj : j = R ∨ j = T := by
      rcases hj with q | ⟨a, q, q2⟩
      · exact .inl q
      · simp only [sS0] at q
        injection q with q
        subst q
        exact .inr q2
    simp only [sS0]
    rw [if_neg (by omega), if_neg (by omega), if_neg (by omega), if_neg (by omega), if_pos hj]
  · have hj : j = M ∨ j = so ∨ j = sp := by
      rcases hj with q | q | q | ⟨x, q⟩ | q
      · exact .inl q
      · exact .inr (.inl q)
      · cases q
      · simp only [sS0, mS0] at q
        split at q
        · injection q with q; exact .inr (.inr q.symm)
        · cases q
      · cases q
    have n : ¬ (j = R ∨ j = T) := by omega
    simp only [sS0]
    rw [if_neg (by omega), if_neg (by omega), if_neg (by omega), if_neg (by omega), if_neg n, if_pos hj]
  · have l1 := h.kr.lt
    have l2 := hru.lt
    have l3 := hT.row.lt
    have l4 := h.mm.lt
    have l5 := hwb.lt
    obtain ⟨D, ⟨es, ck, hb, _⟩, _⟩ := h.im
    have l6 := (Array.getElem?_eq_some_iff.1 hb).1
    simp only [sS0]
    rw [if_neg (by omega), if_neg (by omega), if_neg (by omega), if_neg (by omega), if_neg (by omega), if_neg (by omega), if_neg (by omega)]
  · rcases Nat.lt_or_ge j B with q | q
    · exfalso
      apply hj
      simp only
      rw [if_neg (by omega), if_neg (by omega), if_neg (by omega), if_neg (by omega), if_neg (by omega), if_neg (by omega), if_neg (by omega)]
    · exact q
end Go.Proofs.YtnmlapiekfkbaaaGreatDoor
namespace Go.Proofs.YtnmlapiekfkbaaaGreatDoor
open Go.RowKit
set_option linter.unusedVariables false
set_option linter.unusedSimpArgs false
/-- the registers behind so many turns -/
def gOf (m : Nat) : CpuLaw.G := ⟨fun i => if i = 1 then ((m + 1) / 2) % 4294967296 else 0, if m % 2 = 0 then 0 else 4, 1⟩
theorem gOf_even {m : Nat} (h : m % 2 = 0) : CpuLaw.exG (gOf m) 14 1 1 1 = gOf (m + 1) := by
  have e : CpuLaw.u32z 1 = 1 := by decide
  unfold CpuLaw.exG
  rw [if_pos rfl, e]
  unfold gOf CpuLaw.setR CpuLaw.up
  simp only [CpuLaw.G.mk.injEq]
  refine ⟨?_, ?_, trivial⟩
  · funext i
    by_cases hi : i = 1
    · subst hi; simp only [if_true]; omega
    · simp only [if_neg hi]
  · rw [if_pos h, if_neg (by omega)]
theorem gOf_odd {m : Nat} (h : ¬ m % 2 = 0) : CpuLaw.exG (gOf m) 19 0 0 (-4) = gOf (m + 1) := by
  have e : CpuLaw.u32z (-4) = 4294967292 := by decide
  unfold CpuLaw.exG
  rw [if_neg (by decide), e]
  unfold gOf CpuLaw.up
  simp only [CpuLaw.G.mk.injEq]
  refine ⟨?_, ?_, trivial⟩
  · funext i
    by_cases hi : i = 1
    · subst hi; simp only [if_true]; omega
    · simp only [if_neg hi]
  · rw [if_neg h, if_pos (by omega)]
/-- a process that goes round -/
structure Go1 (s : KSt) (p m : Nat) : Prop where
  aw : Awake s p
  rg : RegsAt s.c (8 + p * 38 + 1) (gOf m)
  sp : s.c (8 + p * 38) = .int .i64 p
/-- the kernel with N processes, none of which has had a turn -/
structure Ks (s : KSt) (nc N : Nat) : Prop where
  cp : s.nc = nc
  c0 : s.c 0 = .int .i64 nc
  c9 : s.c 654 = .int .u32 0
  wv : s.wv = .slice none 0 0
  wl : s.wl = []
  wn : s.wn = 0
  tk : s.tk = 0
  l : s.l = entered nc (N - 1)
  fr : s.fr = 48
  sl : s.sl = 8
  ps : ∀ p, 1 ≤ p → p ≤ N → Go1 s p 0
  t0 : ∀ p, N < p → (s.t p).st = 0
  fd : ∀ i, s.fd i = 0
  fs : ∀ k, k < 32 → 0 ≤ (s.fs k).n ∧ (s.fs k).n ≤ 200
  one : ∀ j, j < 38 → (s.c (8 + 1 * 38 + j)).oneCell' = true
  n13 : s.c (8 + 1 * 38 + 13) = .slice none 0 0
  n18 : s.c (8 + 1 * 38 + 18) = .slice none 0 0
  cw : ∃ wb, s.cw = fun p => if p = 1 then some wb else none
  par : ∀ p, 2 ≤ p → p ≤ N → (s.t p).par = 1
theorem Ks.mem {s : KSt} {nc N : Nat} (h : Ks s nc N) (m : MS) (tag : Nat → Nat) : Ks { s with m := m, tag := tag } nc N :=
  ⟨h.cp, h.c0, h.c9, h.wv, h.wl, h.wn, h.tk, h.l, h.fr, h.sl, fun p a b => ⟨⟨(h.ps p a b).aw.p1, (h.ps p a b).aw.p16, (h.ps p a b).aw.lv, (h.ps p a b).aw.sl, (h.ps p a b).aw.sg⟩, (h.ps p a b).rg, (h.ps p a b).sp⟩, h.t0, h.fd, h.fs, h.one, h.n13, h.n18, h.cw, h.par⟩
theorem fk0 (fs : Nat → OpenLaw.F) (r : Nat → Nat) (n : Nat) (h : ∀ i, r i = 0) : OpenLaw.fkF fs r n = fs := by
  induction n with
  | zero => rfl
  | succ n ih =>
    rw [OpenLaw.fkF, if_pos (h n)]
    exact ih
theorem f0m : 0 ≤ OpenLaw.f0.n ∧ OpenLaw.f0.n ≤ 200 := by decide
theorem kz_sg0 : (List.range 18).map (fun j => kz (65 + j)) = List.replicate 18 (.int .i64 0) := by unfold kz; kernel_rfl
theorem kz_sg (j : Nat) (hj : j < 18) : kz (65 + j) = .int .i64 0 := by
  have h := congrArg (fun l => l[j]?) kz_sg0
  simp only [List.getElem?_map, List.getElem?_replicate, if_pos hj, List.getElem?_range hj, Option.map_some] at h
  injection h
theorem kz_rg0 : (List.range 9).map (fun j => kz (47 + j)) = (List.range 9).map (fun j => ((CpuLaw.cellsA (gOf 0))[j]?).getD undef) := by unfold kz; kernel_rfl
theorem kz_rg (j : Nat) (hj : j < 9) : kz (47 + j) = ((CpuLaw.cellsA (gOf 0))[j]?).getD undef := by
  have h := congrArg (fun l => l[j]?) kz_rg0
  simp only [List.getElem?_map, List.getElem?_range hj, Option.map_some] at h
  injection h
theorem kz_on (j : Nat) (h : j < 655) : (kz j).oneCell' = true := by
  have ha : Tryz.zeroCells76.all (·.oneCell') = true := by kernel_rfl
  have hz : Tryz.zeroCells76.size = 655 := by kernel_rfl
  rw [Array.all_eq_true] at ha
  unfold kz
  rw [Array.getElem?_eq_getElem (by rw [hz]; exact h)]
  exact ha j (by rw [hz]; exact h)
theorem KS.ks {w : World} {nc B K P Wh Fi Pr R M so sp : Nat} {c : Nat → Value} (h : KS w nc B K P Wh Fi Pr R M so sp c) (tag : Nat → Nat) (T cc wb : Nat) : Ks (sS0 nc c tag T cc sp wb) nc 1 := by
  obtain ⟨h0, h1, h2, h3, h4, h5, h6⟩ := h.tk
  obtain ⟨b, hb, -⟩ := h.wd
  refine ⟨rfl, h.c0, ?_, rfl, rfl, rfl, rfl, rfl, rfl, rfl, fun p p1 p2 => ?_, fun p hp => ?_, fun _ => rfl, fun _ _ => f0m, ?_, h3, ?_, ⟨wb, rfl⟩, fun p a b => by omega⟩
  · show c 654 = _
    rw [h.ck 654 (by decide) (by decide) (.inr (by decide))]
    unfold kz
    kernel_rfl
  · obtain rfl : p = 1 := by omega
    refine ⟨⟨by decide, by decide, by show (ProcLaw.start 1).st = 1; decide, h.sl, fun j hj => (h.sg j hj).trans (kz_sg j hj)⟩, fun j hj => ?_, h.t0⟩
    show c (47 + j) = _
    by_cases e : j = 9
    · subst e; rw [show 47 + 9 = 56 by rfl, h0]; rfl
    · rw [h.ck _ (by omega) (by omega) (by omega)]
      exact kz_rg j (by omega)
  · show (ProcLaw.start p).st = 0
    unfold ProcLaw.start
    rw [ProcLaw.updE_other _ _ (by omega)]
  · intro j hj
    show (c (8 + 1 * 38 + j)).oneCell' = true
    by_cases e : j = 0
    · subst e; rw [show 8 + 1 * 38 + 0 = 46 by rfl, h.t0]; rfl
    by_cases e1 : j = 17
    · subst e1; rw [show 8 + 1 * 38 + 17 = 63 by rfl, hb]; rfl
    by_cases e2 : 10 ≤ j ∧ j ≤ 16
    · have : j = 10 ∨ j = 11 ∨ j = 12 ∨ j = 13 ∨ j = 14 ∨ j = 15 ∨ j = 16 := by omega
      rcases this with rfl | rfl | rfl | rfl | rfl | rfl | rfl
      · rw [show 8 + 1 * 38 + 10 = 56 by rfl, h0]; rfl
      · rw [show 8 + 1 * 38 + 11 = 57 by rfl, h1]; rfl
      · rw [show 8 + 1 * 38 + 12 = 58 by rfl, h2]; rfl
      · rw [show 8 + 1 * 38 + 13 = 59 by rfl, h3]; rfl
      · rw [show 8 + 1 * 38 + 14 = 60 by rfl, h4]; rfl
      · rw [show 8 + 1 * 38 + 15 = 61 by rfl, h5]; rfl
      · rw [show 8 + 1 * 38 + 16 = 62 by rfl, h6]; rfl
    · rw [h.ck _ (by omega) (by omega) (by omega)]
      exact kz_on _ (by omega)
  · show c 64 = _
    rw [h.ck 64 (by decide) (by decide) (.inr (by decide))]
    unfold kz
    kernel_rfl
section
variable {w : World} {k : KC} {s : KSt} {nc N : Nat}
/-- one more process -/
theorem ask_more (h : KT w k s) (hs : Ks s nc N) (hm : Mp s.m N) (h1 : 1 ≤ N) (h6 : N < 6) (n1 : 1 ≤ nc) (n4 : nc ≤ 4) :
    Spec w (KOut w.heap.size k s.tag (fun s' e a b => e = 0 ∧ a = (N + 1 : Nat) ∧ b = 0 ∧ Ks s' nc (N + 1) ∧ ∃ b nb, Mf s'.m N b nb)) 128 #[.pointer (some ⟨k.K, 0, none⟩), .int .i64 1] := by
  obtain ⟨b, hmf⟩ := hm.fork h1 (by omega)
  obtain ⟨wb, hcw⟩ := hs.cw
  have g1 := hs.ps 1 (by decide) h1
  refine kfork_is (p := 1) (c := N + 1) (s1 := 1) (b := b) (s2 := N + 1) h ⟨by decide, by decide, g1.aw.lv⟩ hs.one g1.sp hmf (by omega) (by omega) (hs.t0 (N + 1) (by omega)) (fun j a1 a2 => by rw [(hs.ps j a1 (by omega)).aw.lv]; decide) hs.n13 (bw := wb) (by rw [hcw]; rfl) hs.n18 g1.aw.sg (by rw [hcw]; exact if_neg (by omega)) (by rw [hs.l]; have := (entered_ok n1 n4 (show N - 1 < 6 by omega)).2.2; rw [show N - 1 + 2 = N + 1 by omega] at this; exact this) (by rw [hs.l, (entered_ok n1 n4 (show N - 1 < 6 by omega)).1]; omega) (by omega) (fun i _ => hs.fd _) hs.fs ?_
  intro m' nb c' tag' ad' cap' hnb hf hco h0 hsg hsl hrg hr0 hon
  have hlt : ∀ p : Int, s.m.S p ≠ some nb := fun p e => by
    have := h.me.lt (k := nb) (.inr (.inr (.inr (.inl ⟨p, e⟩))))
    omega
  refine ⟨rfl, rfl, rfl, ⟨hs.cp, (hco 0 (by omega)).trans hs.c0, (hco 654 (by omega)).trans hs.c9, hs.wv, hs.wl, hs.wn, hs.tk, ?_, hs.fr, hs.sl, fun p p1 p2 => ?_, fun p hp => ?_, fun i => ?_, ?_, fun j hj => by show (c' _).oneCell' = true; rw [hco _ (by omega)]; exact hs.one j hj, (hco _ (by omega)).trans hs.n13, (hco _ (by omega)).trans hs.n18, hs.cw, fun p a1 a2 => by
    show (ProcLaw.forked s.t (N + 1) 1 p).par = 1
    unfold ProcLaw.forked
    by_cases e : p = N + 1
    · subst e; rw [ProcLaw.updE_same]; rfl
    · rw [ProcLaw.updE_other _ _ e]; exact hs.par p a1 (by omega)⟩, b, nb, hm.forked h1 hmf.hs hf hlt⟩
  · show enterL s.l ((N + 1 : Nat) : Int) s.nc = entered nc (N + 1 - 1)
    rw [hs.l, hs.cp]
    obtain ⟨n, rfl⟩ : ∃ n, N = n + 1 := ⟨N - 1, by omega⟩
    rfl
  · rcases Nat.lt_or_ge N p with q | q
    · obtain rfl : p = N + 1 := by omega
      refine ⟨⟨by omega, by omega, by show (ProcLaw.forked s.t (N + 1) 1 (N + 1)).st = 1; unfold ProcLaw.forked; rw [ProcLaw.updE_same], by show c' _ = _; rw [hsl]; exact g1.aw.sl, hsg⟩, fun j hj => ?_, h0⟩
      show c' (8 + (N + 1) * 38 + 1 + j) = _
      rw [Nat.add_assoc _ 1 j]
      rcases Nat.lt_or_ge j 3 with q3 | q3
      · rw [hr0 (1 + j) (by omega) (by omega)]
        have : j = 0 ∨ j = 1 ∨ j = 2 := by omega
        rcases this with rfl | rfl | rfl <;> rfl
      · rw [hrg (1 + j) (by omega) (by omega), ← Nat.add_assoc]
        exact g1.rg j hj
    · have g := hs.ps p p1 q
      have hout : ∀ j, j < 38 → c' (8 + p * 38 + j) = s.c (8 + p * 38 + j) := fun j hj => hco _ (by omega)
      refine ⟨⟨p1, by omega, by show (ProcLaw.forked s.t (N + 1) 1 p).st = 1; unfold ProcLaw.forked; rw [ProcLaw.updE_other _ _ (by omega)]; exact g.aw.lv, by show c' _ = _; rw [hout 37 (by decide)]; exact g.aw.sl, fun j hj => by show c' _ = _; rw [Nat.add_assoc, hout (19 + j) (by omega), ← Nat.add_assoc]; exact g.aw.sg j hj⟩, fun j hj => by show c' _ = _; rw [Nat.add_assoc, hout (1 + j) (by omega), ← Nat.add_assoc]; exact g.rg j hj, by show c' _ = _; have := hout 0 (by decide); rw [Nat.add_zero] at this; rw [this]; exact g.sp⟩
  · show (ProcLaw.forked s.t (N + 1) 1 p).st = 0
    unfold ProcLaw.forked
    rw [ProcLaw.updE_other _ _ (by omega)]
    exact hs.t0 p (by omega)
  · show OpenLaw.cpD s.fd 1 (N + 1) 8 i = 0
    rw [OpenLaw.cpD_at]
    split <;> exact hs.fd _
  · show ∀ k, k < 32 → 0 ≤ (OpenLaw.fkF s.fs (fun i => s.fd (1 * 8 + i)) 8 k).n ∧ (OpenLaw.fkF s.fs (fun i => s.fd (1 * 8 + i)) 8 k).n ≤ 200
    rw [fk0 _ _ _ (fun i => hs.fd _)]
    exact hs.fs
end
end Go.Proofs.YtnmlapiekfkbaaaGreatDoor
