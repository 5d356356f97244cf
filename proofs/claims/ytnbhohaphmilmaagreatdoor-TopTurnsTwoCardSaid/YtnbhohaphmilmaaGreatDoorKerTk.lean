/- The memory while processes are made: each has a program that goes round. No walk here. Runs of package spread: all processors tick. No walk here. The plain law of ringtop.TopTurnsGo: who has had how many turns. No walk here. A kernel that has begun, as one state. The walks of wrap.Far, and of wheel.Step at a wheel without timers. The walk of kernel.Tick where nobody sleeps. -/
import Derived.Test.YtnbhohaphmilmaaGreatDoorSprT
import Derived.Test.YtnbhohaphmilmaaGreatDoorKerSu
import Derived.Test.YtnbhohaphmilmaaGreatDoorKerT
import Derived.Test.YtnbhohaphmilmaaGreatDoorProcPlain
import Derived.Test.YtnbhohaphmilmaaGreatDoorKerG
import Derived.Test.YtnbhohaphmilmaaGreatDoorStart
import Derived.BigQuiet
namespace Go.Proofs.YtnbhohaphmilmaaGreatDoor
open Go.RowKit
set_option linter.unusedVariables false
set_option linter.unusedSimpArgs false
theorem loop_enc : EncOk loopL := fun i x hx => by
  match i, hx with
  | 0, hx => injection hx with hx; subst hx; decide +kernel
  | 1, hx => injection hx with hx; subst hx; decide +kernel
def y0 : Nat := 235995137
def y1 : Nat := 318832636
theorem dec_y0 : CodeLaw.decR (y0 : Nat) = (⟨14, (1 : Nat), (1 : Nat), 1⟩, 0) := by decide +kernel
theorem dec_y1 : CodeLaw.decR (y1 : Nat) = (⟨19, (0 : Nat), (0 : Nat), -4⟩, 0) := by decide +kernel
theorem pg_loop : pgB (progB loopL) 0 = [1, 0, 17, 14, 252, 255, 0, 19] := by decide +kernel
theorem word_put {m : MS} {b g : Nat} (hF : m.F b 0 = some (g, 5)) (hg : g ∈ m.pl) (hd : m.d g = padF (pgB (progB loopL) 0)) : CpuLaw.WordAt m b 0 y0 ∧ CpuLaw.WordAt m b 4 y1 := by
  rw [pg_loop] at hd
  refine ⟨⟨0, 5, g, 0, 1, 0, 17, 14, by decide, by decide, hF, hg, by decide +kernel, by decide, by decide, by decide, ?_, ?_, ?_, ?_, by decide, by decide, by decide, by decide, by decide⟩, ⟨0, 5, g, 4, 252, 255, 0, 19, by decide, by decide, hF, hg, by decide +kernel, by decide, by decide, by decide, ?_, ?_, ?_, ?_, by decide, by decide, by decide, by decide, by decide⟩⟩ <;> (rw [hd]; rfl)
/-- a word stays where it is -/
theorem word_keep {m m' : MS} {b a x : Nat} (h : CpuLaw.WordAt m b a x) (hF : m'.F b = m.F b) (hpl : ∀ g, g ∈ m.pl → g ∈ m'.pl ∧ m'.d g = m.d g) : CpuLaw.WordAt m' b a x := by
  obtain ⟨pg, r, g, o, x0, x1, x2, x3, h0, h1, h2, h3, h4, h5, h6, h7, h8, h9, h10, h11, h12⟩ := h.at'
  obtain ⟨hg, hd⟩ := hpl g h3
  exact ⟨pg, r, g, o, x0, x1, x2, x3, h0, h1, by rw [hF]; exact h2, hg, h4, h5, h6, h7, by rw [hd]; exact h8, by rw [hd]; exact h9, by rw [hd]; exact h10, by rw [hd]; exact h11, h12⟩
/-- the pages of a space are its own, the first five -/
structure Own5 (m : MS) (b : Nat) : Prop where
  lone : Lone (m.F b)
  pg : ∀ k g r, m.F b k = some (g, r) → 0 ≤ k ∧ k < 5 ∧ g ∈ m.pl ∧ m.u g = 1
  nF : m.nF b ≤ 10
  w0 : CpuLaw.WordAt m b 0 y0
  w1 : CpuLaw.WordAt m b 4 y1
/-- a program is put over pages that were shared, or none -/
theorem put_own {m m1 m2 : MS} {b B0 : Nat} (hu : Unm m m1 b 5) (hp : PutsTo B0 b (pgF (progB loopL)) m1 5 m2) (hnd : m2.pl.Nodup) (hB : ∀ g, g ∈ m.pl → g < B0) (hF : ∀ k, (k < 0 ∨ 5 ≤ k) → m.F b k = none) (hn : m.nF b ≤ 5) :
    PutFacts B0 b (pgF (progB loopL)) m1 5 m2 ∧ Own5 m2 b := by
  have f := PutsTo.facts (fun g hg => hB g (by rw [← hu.pl]; exact hg)) hp hnd
  have e1 : ∀ k, (k < 0 ∨ 5 ≤ k) → m2.F b k = none := fun k hk => by
    rw [f.fr k (by omega), hu.F, fup_same, if_neg (by omega)]
    exact hF k hk
  obtain ⟨g, -, hg, hFg, hdg, -⟩ := f.pg 0 (by decide)
  obtain ⟨w0, w1⟩ := word_put (m := m2) (b := b) (g := g) hFg hg hdg
  refine ⟨f, ⟨fun k k' g r r' h1 h2 => ?_, fun k g r h1 => ?_, ?_, w0, w1⟩⟩
  · have k0 : 0 ≤ k ∧ k < 5 := by
      rcases Int.lt_or_le k 0 with q | q
      · rw [e1 k (.inl q)] at h1; cases h1
      · rcases Int.lt_or_le k 5 with q2 | q2
        · exact ⟨q, q2⟩
        · rw [e1 k (.inr q2)] at h1; cases h1
    have k1 : 0 ≤ k' ∧ k' < 5 := by
      rcases Int.lt_or_le k' 0 with q | q
      · rw [e1 k' (.inl q)] at h2; cases h2
      · rcases Int.lt_or_le k' 5 with q2 | q2
        · exact ⟨q, q2⟩
        · rw [e1 k' (.inr q2)] at h2; cases h2
    have a1 : ((k.toNat : Nat) : Int) = k := by omega
    have a2 : ((k'.toNat : Nat) : Int) = k' := by omega
    have := f.inj k.toNat k'.toNat g r r' (by omega) (by omega) (by rw [a1]; exact h1) (by rw [a2]; exact h2)
    omega
  · have k0 : 0 ≤ k ∧ k < 5 := by
      rcases Int.lt_or_le k 0 with q | q
      · rw [e1 k (.inl q)] at h1; cases h1
      · rcases Int.lt_or_le k 5 with q2 | q2
        · exact ⟨q, q2⟩
        · rw [e1 k (.inr q2)] at h1; cases h1
    have a1 : ((k.toNat : Nat) : Int) = k := by omega
    obtain ⟨g', -, hg', hF', -, hu'⟩ := f.pg k.toNat (by omega)
    rw [a1, h1] at hF'
    injection hF' with hF'
    injection hF' with hF' _
    subst hF'
    exact ⟨k0.1, k0.2, hg', hu'⟩
  · rw [f.nF, hu.nF]; omega
/-- the memory of N processes -/
structure Mp (m : MS) (N : Nat) : Prop where
  S : ∀ p : Nat, 1 ≤ p → p ≤ N → ∃ b, m.S p = some b ∧ CpuLaw.WordAt m b 0 y0 ∧ CpuLaw.WordAt m b 4 y1
  S0 : ∀ p : Nat, N < p → m.S p = none
  nS : m.nS ≤ N
  len : m.pl.length ≤ 5 * N
  one : ∃ b, m.S 1 = some b ∧ Own5 m b ∧ m.nF b ≤ 5
theorem Mp.fork {m : MS} {N : Nat} (h : Mp m N) (h1 : 1 ≤ N) (h6 : N + 1 ≤ 16) : ∃ b, MayFork m 1 b (N + 1) := by
  obtain ⟨b, hb, ho, hn⟩ := h.one
  exact ⟨b, hb, by decide, by omega, by omega, h.S0 (N + 1) (by omega), fun j a1 a2 => by obtain ⟨b', q, -⟩ := h.S j a1 (by omega); exact ⟨b', q⟩, by have := h.nS; omega, ho.lone, fun k g r e => by
    obtain ⟨-, -, q1, q2⟩ := ho.pg k g r e
    exact ⟨q1, by rw [q2]; decide, by rw [q2]; decide⟩, by omega⟩
/-- a fork's memory before the child's program is put -/
structure Mf (m : MS) (N b nb : Nat) : Prop where
  S : ∀ p : Nat, 1 ≤ p → p ≤ N → ∃ b, m.S p = some b ∧ b ≠ nb ∧ CpuLaw.WordAt m b 0 y0 ∧ CpuLaw.WordAt m b 4 y1
  Sn : m.S (N + 1 : Nat) = some nb
  S0 : ∀ p : Nat, N + 1 < p → m.S p = none
  nS : m.nS ≤ N + 1
  len : m.pl.length ≤ 5 * N
  sb : m.S 1 = some b
  ne : b ≠ nb
  F : m.F nb = m.F b
  lone : Lone (m.F b)
  pg : ∀ k g r, m.F b k = some (g, r) → 0 ≤ k ∧ k < 5 ∧ g ∈ m.pl ∧ m.u g = 2
  nF : m.nF b ≤ 5
  nFn : m.nF nb ≤ 5
theorem Mp.forked {m m' : MS} {N b nb : Nat} (h : Mp m N) (h1 : 1 ≤ N) (hb : m.S 1 = some b) (hf : Forked m m' 1 (N + 1 : Nat) b nb) (hnb : ∀ p, m.S p ≠ some nb) : Mf m' N b nb := by
  obtain ⟨b', hb', ho, hn⟩ := h.one
  rw [hb] at hb'
  injection hb' with hb'
  subst hb'
  have hne : b ≠ nb := fun e => hnb 1 (by rw [hb, e])
  have hpl : ∀ g, g ∈ m.pl → g ∈ m'.pl ∧ m'.d g = m.d g := fun g hg => ⟨by rw [hf.pl]; exact hg, by rw [hf.d]⟩
  refine ⟨fun p p1 p2 => ?_, by rw [hf.S]; exact if_pos rfl, fun p hp => ?_, by rw [hf.nS]; have := h.nS; omega, by rw [hf.pl]; exact h.len, ?_, hne, ?_, ?_, ?_, ?_, ?_⟩
  · obtain ⟨b', q1, q2, q3⟩ := h.S p p1 p2
    have hne' : b' ≠ nb := fun e => hnb p (by rw [q1, e])
    have eF : m'.F b' = m.F b' := by rw [hf.F, fup_off _ _ hne']
    exact ⟨b', by rw [hf.S]; show (if ((p : Nat) : Int) = ((N + 1 : Nat) : Int) then _ else _) = _; rw [if_neg (by omega)]; exact q1, hne', word_keep q2 eF hpl, word_keep q3 eF hpl⟩
  · rw [hf.S]
    show (if ((p : Nat) : Int) = ((N + 1 : Nat) : Int) then _ else _) = _
    rw [if_neg (by omega)]
    exact h.S0 p (by omega)
  · rw [hf.S]
    show (if (1 : Int) = ((N + 1 : Nat) : Int) then _ else _) = _
    rw [if_neg (by omega)]
    exact hb
  · rw [hf.F, fup_same, fup_off _ _ hne]
  · rw [hf.F, fup_off _ _ hne]
    exact ho.lone
  · intro k g r e
    rw [hf.F, fup_off _ _ hne] at e
    obtain ⟨q1, q2, q3, q4⟩ := ho.pg k g r e
    exact ⟨q1, q2, by rw [hf.pl]; exact q3, by rw [hf.u0 g ⟨k, r, e⟩, q4]; rfl⟩
  · rw [hf.nF b hne]; exact hn
  · have := hf.nFn; omega
/-- the child's program is put -/
theorem Mf.put {m m1 m2 : MS} {N b nb B0 : Nat} (h : Mf m N b nb) (h1 : 1 ≤ N) (hu : Unm m m1 nb 5) (hp : PutsTo B0 nb (pgF (progB loopL)) m1 5 m2) (hnd : m2.pl.Nodup) (hB : ∀ g, g ∈ m.pl → g < B0) : Mp m2 (N + 1) := by
  have hF0 : ∀ k, (k < 0 ∨ 5 ≤ k) → m.F nb k = none := fun k hk => by
    rw [h.F]
    cases e : m.F b k with
    | none => rfl
    | some x =>
      obtain ⟨q1, q2, -⟩ := h.pg k x.1 x.2 e
      omega
  obtain ⟨f, ho⟩ := put_own hu hp hnd hB hF0 h.nFn
  have hpl : ∀ g, g ∈ m.pl → g ∈ m2.pl ∧ m2.d g = m.d g := fun g hg => ⟨f.pl g (by rw [hu.pl]; exact hg), by rw [(f.old g (hB g hg)).1, hu.d]⟩
  have eF : ∀ b', b' ≠ nb → m2.F b' = m.F b' ∧ m2.nF b' = m.nF b' := fun b' hb' => by
    obtain ⟨q1, q2⟩ := f.oth b' hb'
    exact ⟨by rw [q1, hu.F, fup_off _ _ hb'], by rw [q2, hu.nF]⟩
  have eS : m2.S = m.S := by rw [f.S, hu.S]
  refine ⟨fun p p1 p2 => ?_, fun p hp => by rw [eS]; exact h.S0 p hp, by rw [f.nS, hu.nS]; exact h.nS, by rw [f.len, hu.pl]; have := h.len; omega, ⟨b, by rw [eS]; exact h.sb, ⟨?_, ?_, ?_, ?_, ?_⟩, ?_⟩⟩
  · rcases Nat.lt_or_ge N p with q | q
    · obtain rfl : p = N + 1 := by omega
      exact ⟨nb, by rw [eS]; exact h.Sn, ho.w0, ho.w1⟩
    · obtain ⟨b', q1, q2, q3, q4⟩ := h.S p p1 q
      exact ⟨b', by rw [eS]; exact q1, word_keep q3 (eF b' q2).1 hpl, word_keep q4 (eF b' q2).1 hpl⟩
  · rw [(eF b h.ne).1]; exact h.lone
  · intro k g r e
    rw [(eF b h.ne).1] at e
    obtain ⟨q1, q2, q3, q4⟩ := h.pg k g r e
    refine ⟨q1, q2, (hpl g q3).1, ?_⟩
    rw [(f.old g (hB g q3)).2, hu.u0 g ⟨k, r, q1, q2, by rw [h.F]; exact e⟩, q4]
    rfl
  · rw [(eF b h.ne).2]; have := h.nF; omega
  · obtain ⟨b', q1, q2, q3, q4⟩ := h.S 1 (by decide) h1
    have q1 : m.S 1 = some b' := q1
    rw [h.sb] at q1
    injection q1 with q1
    subst q1
    exact word_keep q3 (eF b h.ne).1 hpl
  · obtain ⟨b', q1, q2, q3, q4⟩ := h.S 1 (by decide) h1
    have q1 : m.S 1 = some b' := q1
    rw [h.sb] at q1
    injection q1 with q1
    subst q1
    exact word_keep q4 (eF b h.ne).1 hpl
  · rw [(eF b h.ne).2]; exact h.nF
/-- the first process's program is put -/
theorem mp_one {m m1 m2 : MS} {b B0 : Nat} (hS : ∀ p : Nat, m.S p = if p = 1 then some b else none) (hnS : m.nS ≤ 1) (hpl : m.pl = []) (hF : ∀ k, m.F b k = none) (hn : m.nF b = 0) (hu : Unm m m1 b 5) (hp : PutsTo B0 b (pgF (progB loopL)) m1 5 m2) (hnd : m2.pl.Nodup) : Mp m2 1 := by
  obtain ⟨f, ho⟩ := put_own hu hp hnd (fun g hg => by rw [hpl] at hg; cases hg) (fun k _ => hF k) (by omega)
  have eS : ∀ p : Nat, m2.S p = if p = 1 then some b else none := fun p => by rw [f.S, hu.S]; exact hS p
  have hb : m2.S 1 = some b := by have := eS 1; rw [if_pos rfl] at this; exact this
  refine ⟨fun p p1 p2 => ?_, fun p hp => by rw [eS, if_neg (by omega)], by rw [f.nS, hu.nS]; exact hnS, by rw [f.len, hu.pl, hpl]; decide, ⟨b, hb, ho, by rw [f.nF, hu.nF, hn]; decide⟩⟩
  obtain rfl : p = 1 := by omega
  exact ⟨b, hb, ho.w0, ho.w1⟩
end Go.Proofs.YtnbhohaphmilmaaGreatDoor
namespace Go.Proofs.YtnbhohaphmilmaaGreatDoor
open Go.RowKit
set_option linter.unusedVariables false
set_option linter.unusedSimpArgs false
/-- the tasks of two runs differ in where they run alone -/
def SameV (l l' : List Tk) : Prop := l'.length = l.length ∧ ∀ (i : Nat) (x : Tk), l'[i]? = some x → ∃ y, l[i]? = some y ∧ y.t = x.t ∧ y.v = x.v ∧ y.rd = x.rd
theorem SameV.refl (l : List Tk) : SameV l l := ⟨rfl, fun i x h => ⟨x, h, rfl, rfl, rfl⟩⟩
theorem SameV.trans {a b c : List Tk} (h : SameV a b) (k : SameV b c) : SameV a c := ⟨k.1.trans h.1, fun i x hx => by
  obtain ⟨y, hy, e1, e2, e3⟩ := k.2 i x hx
  obtain ⟨z, hz, f1, f2, f3⟩ := h.2 i y hy
  exact ⟨z, hz, f1.trans e1, f2.trans e2, f3.trans e3⟩⟩
theorem SameV.set {l : List Tk} {i : Nat} {x : Tk} (hx : l[i]? = some x) (c : Int) : SameV l (l.set i { x with cpu := c }) := ⟨by simp, fun j y hy => by
  rw [List.getElem?_set] at hy
  split at hy
  · rename_i e
    subst e
    split at hy
    · injection hy with hy
      subst hy
      exact ⟨x, hx, rfl, rfl, rfl⟩
    · cases hy
  · exact ⟨y, hy, rfl, rfl, rfl⟩⟩
theorem fill1_same (l : List Tk) (c : Int) : SameV l (fill1 l c) := by
  cases h1 : onG l c with
  | some i => rw [fill1_busy h1]; exact SameV.refl _
  | none =>
    cases h2 : bestG l l.length with
    | none => rw [fill1_none h1 h2]; exact SameV.refl _
    | some b =>
      have hb := (bestG_lt l _ b h2).2
      rw [fill1_some h1 h2 (List.getElem?_eq_getElem hb)]
      exact SameV.set (List.getElem?_eq_getElem hb) c
theorem fillG_same (l : List Tk) : ∀ m, SameV l (fillG l m)
  | 0 => SameV.refl _
  | m + 1 => (fillG_same l m).trans (fill1_same _ _)
/-- virtual times lie between 0 and b -/
def VOk (b : Int) (l : List Tk) : Prop := ∀ (i : Nat) (x : Tk), l[i]? = some x → 0 ≤ x.v ∧ x.v ≤ b
theorem VOk.same {b : Int} {l l' : List Tk} (h : VOk b l) (hs : SameV l l') : VOk b l' := fun i x hx => by
  obtain ⟨y, hy, -, e, -⟩ := hs.2 i x hx
  rw [← e]
  exact h i y hy
theorem VOk.mono {b b' : Int} {l : List Tk} (h : VOk b l) (hb : b ≤ b') : VOk b' l := fun i x hx => ⟨(h i x hx).1, by have := (h i x hx).2; omega⟩
theorem VOk.tick {b : Int} {l : List Tk} (h : VOk b l) (c : Int) (m : Nat) : VOk (b + 104857) (tickL l c m) := by
  unfold tickL
  cases ho : onG l c with
  | none => exact (h.mono (by omega)).same (fillG_same l m)
  | some i =>
    refine VOk.same ?_ (fillG_same _ m)
    obtain ⟨x, hx, -⟩ := onG_some ho
    unfold stepAt
    rw [hx]
    intro j y hy
    have hy : (l.set i { x with v := x.v + 104857, cpu := -1 })[j]? = some y := hy
    rw [List.getElem?_set] at hy
    split at hy
    · split at hy
      · injection hy with hy
        subst hy
        have := h i x hx
        exact ⟨by show 0 ≤ x.v + 104857; omega, by show x.v + 104857 ≤ b + 104857; omega⟩
      · cases hy
    · have := h j y hy
      omega
/-- all processors tick, from the first on -/
def tickAll (l : List Tk) (m : Nat) : Nat → List Tk
  | 0 => l
  | c + 1 => tickL (tickAll l m c) c m
theorem VOk.all {b : Int} {l : List Tk} (h : VOk b l) (m : Nat) : ∀ c : Nat, VOk (b + c * 104857) (tickAll l m c)
  | 0 => h.mono (by omega)
  | c + 1 => ((h.all m c).tick c m).mono (by push_cast; omega)
theorem tickL_len (l : List Tk) (c : Int) (m : Nat) : (tickL l c m).length = l.length := by
  unfold tickL
  cases ho : onG l c with
  | none => exact fillG_len l m
  | some i =>
    show (fillG (stepAt l i) m).length = l.length
    rw [fillG_len]
    unfold stepAt
    cases l[i]? <;> simp
end Go.Proofs.YtnbhohaphmilmaaGreatDoor
namespace Go.Proofs.YtnbhohaphmilmaaGreatDoor
open Go.RowKit
set_option linter.unusedVariables false
set_option linter.unusedSimpArgs false
/-- the tasks at first, and n more -/
def entered (nc : Nat) : Nat → List Tk
  | 0 => [⟨1, 0, true, 0⟩]
  | n + 1 => enterL (entered nc n) ((n + 2 : Nat) : Int) nc
def ticked (nc n : Nat) : Nat → List Tk
  | 0 => entered nc n
  | r + 1 => tickAll (ticked nc n r) nc nc
/-- a processor's step: who has it has one more -/
def stepN (l : List Tk) (m : Nat → Nat) (c : Nat) : Nat → Nat := match onG l c with
  | none => m
  | some i => match l[i]? with
    | none => m
    | some x => fun p => if (p : Int) = x.t then m p + 1 else m p
def stepsN (l : List Tk) (m : Nat → Nat) : Nat → Nat → Nat
  | 0 => m
  | c + 1 => stepN l (stepsN l m c) c
def had (nc n : Nat) : Nat → Nat → Nat
  | 0 => fun _ => 0
  | r + 1 => stepsN (ticked nc n r) (had nc n r) nc
/-- who has a processor is one of the processes -/
def onOk (l : List Tk) (N c : Nat) : Bool := match onG l c with
  | none => true
  | some i => match l[i]? with
    | none => true
    | some x => decide (1 ≤ x.t) && decide (x.t ≤ (N : Int))
theorem law_go : ∀ nc, 1 ≤ nc → nc ≤ 4 → ∀ n, n < 6 → ∀ p, 1 ≤ p → p ≤ n + 1 → 1 ≤ had nc n (4 * (n + 1)) p ∧ had nc n (4 * (n + 1)) p < 1000 := by
  have h : ∀ nc, nc < 5 → 1 ≤ nc → ∀ n, n < 6 → ∀ p, p < n + 2 → 1 ≤ p → (decide (1 ≤ had nc n (4 * (n + 1)) p) && decide (had nc n (4 * (n + 1)) p < 1000)) = true := by decide +kernel
  intro nc h1 h4 n hn p p1 p2
  have := h nc (by omega) h1 n hn p (by omega) p1
  simpa only [Bool.and_eq_true, decide_eq_true_eq] using this
theorem on_ok {nc n r c : Nat} (h1 : 1 ≤ nc) (h4 : nc ≤ 4) (hn : n < 6) (hr : r < 4 * (n + 1)) (hc : c < nc) {i : Nat} {x : Tk} (ho : onG (ticked nc n r) c = some i) (hx : (ticked nc n r)[i]? = some x) : ∃ p : Nat, x.t = p ∧ 1 ≤ p ∧ p ≤ n + 1 := by
  have h : ∀ nc, nc < 5 → 1 ≤ nc → ∀ n, n < 6 → ∀ r, r < 4 * (n + 1) → ∀ c, c < nc → onOk (ticked nc n r) (n + 1) c = true := by decide +kernel
  have := h nc (by omega) h1 n hn r hr c hc
  unfold onOk at this
  rw [ho] at this
  simp only [hx] at this
  simp only [Bool.and_eq_true, decide_eq_true_eq] at this
  exact ⟨x.t.toNat, by omega, by omega, by omega⟩
theorem entered_ok {nc n : Nat} (h1 : 1 ≤ nc) (h4 : nc ≤ 4) (hn : n < 6) : (entered nc n).length = n + 1 ∧ VOk 0 (entered nc n) ∧ idG (entered nc n) ((n + 2 : Nat) : Int) = none := by
  have h : ∀ nc, nc < 5 → 1 ≤ nc → ∀ n, n < 6 → (entered nc n).length = n + 1 ∧ (entered nc n).all (fun x => x.v == 0) = true ∧ idG (entered nc n) ((n + 2 : Nat) : Int) = none := by decide +kernel
  obtain ⟨h1, h2, h3⟩ := h nc (by omega) h1 n hn
  refine ⟨h1, fun i x hx => ?_, h3⟩
  have := List.all_eq_true.1 h2 x (List.mem_of_getElem? hx)
  simp only [beq_iff_eq] at this
  exact ⟨by omega, by omega⟩
theorem ticked_ok {nc n : Nat} (h1 : 1 ≤ nc) (h4 : nc ≤ 4) (hn : n < 6) : ∀ r : Nat, VOk ((r : Int) * 419428) (ticked nc n r)
  | 0 => by have := (entered_ok h1 h4 hn).2.1; exact this.mono (by omega)
  | r + 1 => by
    have h := (ticked_ok h1 h4 hn r).all nc nc
    exact h.mono (by
      have : (nc : Int) * 104857 ≤ 4 * 104857 := Int.mul_le_mul_of_nonneg_right (by omega) (by decide)
      push_cast
      omega)
end Go.Proofs.YtnbhohaphmilmaaGreatDoor
namespace Go.Proofs.YtnbhohaphmilmaaGreatDoor
open Go.RowKit
set_option linter.unusedVariables false
set_option linter.unusedSimpArgs false
/-- the memory at first: no page, one space -/
def mS0 (sp : Nat) : MS := ⟨.slice none 0 0, [], 1, fun s => if s = 1 then some sp else none, fun _ => 0, fun _ _ => none, fun _ _ => 0, fun _ => 0, fun _ => false⟩
/-- the state at first -/
def sS0 (nc : Nat) (c : Nat → Value) (tag : Nat → Nat) (T cc sp wb : Nat) : KSt := ⟨tag, c, ProcLaw.start, fun _ => OpenLaw.f0, fun _ => 0, some ⟨T, 0, none⟩, cc, [⟨1, 0, true, 0⟩], mS0 sp, fun p => if p = 1 then some wb else none, nc, 0, 48, 8, 0, .slice none 0 0, []⟩
theorem mem0 {w : World} {M so sp : Nat} (mm : Row w M 133 #[.int .i64 48, .int .i64 8, .int .i64 0, .slice none 0 0, .map (some so)]) (om : OMap w so 1 (fun k => if k = 1 then some sp else none)) (im : IMap w sp 0 (fun _ => none)) (h1 : so < M) (h2 : M < sp) : MemG w M so 48 8 (mS0 sp) := by
  refine ⟨mm.cell 0, mm.cell 1, ⟨0, mm.cell 2⟩, mm.cell 3, mm.cell 4, mm.fz, mm.lt, World.ownsRow_nil _ _ _ _, om, fun s b hs => ?_, fun g hg => (by cases hg), by omega, fun b hb => (by cases hb), fun s b hs => ?_, fun g hg => (by cases hg), fun s s' b hs hs' => ?_, List.nodup_nil⟩
  · simp only [mS0] at hs ⊢
    split at hs
    · injection hs with hs; subst hs; exact im
    · cases hs
  · simp only [mS0] at hs ⊢
    split at hs
    · injection hs with hs; subst hs; exact ⟨by omega, by omega, fun e => by cases e⟩
    · cases hs
  · simp only [mS0] at hs hs'
    split at hs
    · split at hs'
      · omega
      · cases hs'
    · cases hs
theorem KS.toKT {w : World} {nc B K P Wh Fi Pr R M so sp : Nat} {c : Nat → Value} (h : KS w nc B K P Wh Fi Pr R M so sp c) (n1 : 1 ≤ nc) (n4 : nc ≤ 4) : ∃ tag T cc wb, KT w ⟨K, Wh, Fi, Pr, R, M, so⟩ (sS0 nc c tag T cc sp wb) ∧ ∀ j, tag j ≠ 0 → B ≤ j := by
  obtain ⟨T, cc, hru, hspT⟩ := h.ru
  obtain ⟨wb, hc63, hwb, hspw⟩ := h.wd
  obtain ⟨T', C, e, hT⟩ := hru.rows (by decide)
  injection e with e
  injection e with e
  subst e
  have hTw : T ≠ wb := fun e => by
    have r1 := hT.row
    have r2 := hwb
    rw [e] at r1
    have r3 : some (Obj.cells C 216) = some (Obj.cells #[.int .i64 1] 3) := r1.symm.trans r2
    injection r3 with r3
    injection r3 with _ r4
    exact absurd r4 (by decide)
  have b := h.kp.b
  have o := h.or
  refine ⟨fun j => if j = K then 1 else if j = Wh then 2 else if j = Fi then 3 else if j = Pr then 4 else if j = R ∨ j = T then 5 else if j = M ∨ j = so ∨ j = sp then 6 else if j = wb then 7 else 0, T, cc, wb, ⟨h.kr, h.c1, h.c4, h.c5, h.c6, h.c7, ⟨h.kp.wh, World.ownsRow_nil _ _ _ _, fun e => by cases e⟩, h.kp.fi, h.kp.pr, hru, mem0 h.mm h.om h.im o.2.2.1 o.2.2.2, fun p q hq => ?_, ?_, ?_, ?_, ?_, fun j hj => ?_, fun j hj => ?_, fun j hj => ?_, ⟨n1, n4⟩, show (4 : Int) ≤ 48 ∧ (48 : Int) ≤ 64 ∧ (0 : Int) ≤ 8 ∧ (8 : Int) ≤ 64 by decide⟩, fun j hj => ?_⟩
  · simp only [sS0] at hq
    split at hq
    · rename_i hp
      injection hq with hq
      subst hp
      subst hq
      refine ⟨⟨1, hc63⟩, by rw [hwb.cell]; rfl, hwb.lt, ?_⟩
      simp only [sS0]
      rw [if_neg (by omega), if_neg (by omega), if_neg (by omega), if_neg (by omega), if_neg (by omega), if_neg (by omega), if_pos trivial]
    · cases hq
  · simp only [sS0]; rw [if_pos trivial]
  · intro j hj
    rcases hj with rfl | e
    · simp only [sS0]; rw [if_neg (by omega), if_pos trivial]
    · cases e
  · simp only [sS0]; rw [if_neg (by omega), if_neg (by omega), if_pos trivial]
  · simp only [sS0]; rw [if_neg (by omega), if_neg (by omega), if_neg (by omega), if_pos trivial]
  · have hj : j = R ∨ j = T := by
      rcases hj with q | ⟨a, q, q2⟩
      · exact .inl q
      · simp only [sS0] at q
        injection q with q
        subst q
        exact .inr q2
    simp only [sS0]
    rw [if_neg (by omega), if_neg (by omega), if_neg (by omega), if_neg (by omega), if_pos hj]
  · have hj : j = M ∨ j = so ∨ j = sp := by
      rcases hj with q | q | q | ⟨x, q⟩ | q
      · exact .inl q
      · exact .inr (.inl q)
      · cases q
      · simp only [sS0, mS0] at q
        split at q
        · injection q with q; exact .inr (.inr q.symm)
        · cases q
      · cases q
    have n : ¬ (j = R ∨ j = T) := by omega
    simp only [sS0]
    rw [if_neg (by omega), if_neg (by omega), if_neg (by omega), if_neg (by omega), if_neg n, if_pos hj]
  · have l1 := h.kr.lt
    have l2 := hru.lt
    have l3 := hT.row.lt
    have l4 := h.mm.lt
    have l5 := hwb.lt
    obtain ⟨D, ⟨es, ck, hb, _⟩, _⟩ := h.im
    have l6 := (Array.getElem?_eq_some_iff.1 hb).1
    simp only [sS0]
    rw [if_neg (by omega), if_neg (by omega), if_neg (by omega), if_neg (by omega), if_neg (by omega), if_neg (by omega), if_neg (by omega)]
  · rcases Nat.lt_or_ge j B with q | q
    · exfalso
      apply hj
      simp only
      rw [if_neg (by omega), if_neg (by omega), if_neg (by omega), if_neg (by omega), if_neg (by omega), if_neg (by omega), if_neg (by omega)]
    · exact q
end Go.Proofs.YtnbhohaphmilmaaGreatDoor
namespace Go.Proofs.YtnbhohaphmilmaaGreatDoor
open Go.RowKit
set_option linter.unusedVariables false
set_option linter.unusedSimpArgs false
set_option maxRecDepth 100000 in
theorem far_is {a b : Int} (a0 : 0 ≤ a) (a1 : a < 1000000000) (b0 : 0 ≤ b) (b1 : b < 1000000000) (w : World) : Calls Tryz.prog 105 #[.int .u32 a, .int .u32 b] w fun e w' => e = .returned (.int .i64 (b - a)) ∧ w = w' := by
  have e1 : wrap64 (wrap32 ((b - a) % 4294967296)) = b - a := by unfold wrap64 wrap32; omega
  go_enter Tryz.func105, Tryz.ntmps105
  go_wp2_with fail
  go_ret
  refine ⟨?_, rfl⟩
  show Ending.returned (.int .i64 (wrap64 (wrap32 ((b - a) % 4294967296)))) = _
  rw [e1]
set_option maxRecDepth 100000 in
theorem clone0_is (w : World) : Calls Tryz.prog 106 #[.slice none 0 0] w fun e w' => e = .returned (.slice none 0 0) ∧ w = w' := by
  have he : (binOp .eql 190 (.slice none 0 0) (.slice none 0 0)).run Tryz.prog w = .ok (.bool true) w := by kernel_rfl
  go_enter Tryz.func106, Tryz.ntmps106
  go_wp2_with fail
  go_ret
  exact ⟨rfl, rfl⟩
set_option maxRecDepth 100000 in
set_option maxHeartbeats 400000 in
theorem wstep0_is {w : World} {Wh : Nat} {a b : Int} (h : Row w Wh 192 #[.int .u32 a, .slice none 0 0]) (a0 : 0 ≤ a) (ab : a ≤ b) (b1 : b < 1000000000) : Calls Tryz.prog 48 #[.pointer (some ⟨Wh, 0, none⟩), .int .u32 b] w fun e w' => e = .returned (.tuple #[.slice none 0 0, .int .i64 0]) ∧ Row w' Wh 192 #[.int .u32 b, .slice none 0 0] ∧ Upd (fun j => j = Wh) w w' := by
  have c0 := h.cell 0
  have c1 := h.cell 1
  have fz := h.fz
  have HF := Lib.hid (far_is a0 (by omega) (by omega : 0 ≤ b) b1 w)
  have i0 : ¬ b - a < 0 := by omega
  have HH := Lib.hid h
  clear h
  go_enter Tryz.func48, Tryz.ntmps48
  go_upto_region 6 with (go_at_call 105; refine HF.out.mono ?_; rintro e1 w1 ⟨rfl, rfl⟩)
  refine wp_loop_rounds 1 ?_
  rw [rounds_succ]
  have i1 : decide ((0 : Int) < 0) = false := by decide
  go_upto_region 6 with fail
  go_quiet (fail)
  have HR := Lib.hid (HH.out.keep (below_drewN (Below.refl _ _) nq))
  have HU : Hid (Upd (fun j => j = Wh) w (w.drewN nq)) := Lib.hid (Upd.drewN _ _)
  clear c0 c1 fz HF HH
  generalize w.drewN nq = wd at *
  have c0 := HR.out.cell 0
  have c1 := HR.out.cell 1
  have fz := HR.out.fz
  have HC := Lib.hid (clone0_is wd)
  go_wp2_with (go_at_call 106; refine HC.out.mono ?_; rintro e2 w2 ⟨rfl, rfl⟩)
  go_ret2
  have e1 := HR.out.setCell 1 (.slice none 0 0)
  have r1 := HR.out.setRow ((#[.int .u32 a, .slice none 0 0] : Array Value).setIfInBounds 1 (.slice none 0 0))
  have e2 := r1.setCell 0 (.int .u32 b)
  refine ⟨rfl, ?_, (HU.out.trans (Upd.set _ _ rfl)).trans (Upd.set _ _ rfl)⟩
  rw [e1, e2]
  exact r1.setRow _
end Go.Proofs.YtnbhohaphmilmaaGreatDoor
namespace Go.Proofs.YtnbhohaphmilmaaGreatDoor
open Go.RowKit
set_option linter.unusedVariables false
set_option linter.unusedSimpArgs false
section
variable {w w0 w1 w2 : World} {k : KC} {s s0 s' : KSt} {p : Nat}
/-- another run, with what may be said of the rest -/
theorem KG.run {ad' : Option Addr} {cap' : Nat} {l' : List Tk} {tk' : Int} (h : KG s0 k w w1 s) (hr : RunG w2 k.R ad' cap' s.nc tk' (onePin s.nc) l') (hu : Upd (rS k.R s.ad) w1 w2) (hB : ∀ j, rS k.R ad' j → rS k.R s.ad j ∨ w1.heap.size ≤ j) : ∃ tag', KG s0 k w w2 { s with ad := ad', cap := cap', l := l', tk := tk', tag := tag' } :=
  ⟨_, h.step (h.kt.run hr hu hB) hu (fun j e => by rw [h.kt.tR j e]; decide) (fun j e => by
    rcases Nat.lt_or_ge j w1.heap.size with q | q
    · have e : tg s.tag w1.heap.size (rS k.R ad') 5 j ≠ 0 := e
      rw [tg_old q] at e; exact .inl e
    · exact .inr q)⟩
/-- another wheel -/
theorem KG.whl {nw' : Int} {v' : Value} {l' : List (Int × Int)} (h : KG s0 k w w1 s) (hw : WhlG w2 k.Wh nw' v' l') (hu : Upd (wB k.Wh s.wv) w1 w2) (hB : ∀ j, wB k.Wh v' j → wB k.Wh s.wv j ∨ w1.heap.size ≤ j) : ∃ tag', KG s0 k w w2 { s with wn := nw', wv := v', wl := l', tag := tag' } :=
  ⟨_, h.step (h.kt.whl hw hu hB) hu (fun j e => by rw [h.kt.tWh j e]; decide) (fun j e => by
    rcases Nat.lt_or_ge j w1.heap.size with q | q
    · have e : tg s.tag w1.heap.size (wB k.Wh v') 2 j ≠ 0 := e
      rw [tg_old q] at e; exact .inl e
    · exact .inr q)⟩
/-- a cell of the kernel behind its pointers, no task's directory -/
theorem KG.cell (h : KG s0 k w w1 s) {i : Nat} (h8 : 8 ≤ i) (hi : i < 655) (hd : ∀ p : Nat, i ≠ 8 + p * 38 + 17) (v : Value) : KG s0 k w (w1.setCell ⟨k.K, i, none⟩ v) { s with c := upV s.c i v } := by
  have hu : Upd (fun j => j = k.K) w1 (w1.setCell ⟨k.K, i, none⟩ v) := Upd.set _ _ rfl
  have hc : ∀ j, j ≠ i → upV s.c i v j = s.c j := fun j hj => by unfold upV; rw [if_neg hj]
  refine h.step (h.kt.cells (h.kt.kr.set hi v) hu (fun j hj => hc j (by omega)) (fun _ _ => rfl) (fun j hj => h.kt.tz j (Nat.le_trans hu.size hj)) (fun p b hb => ?_)) hu (fun j e => by rw [e, h.kt.tK]; decide) (fun j e => .inl e)
  obtain ⟨⟨cp, h1⟩, h2, h3, h4⟩ := h.kt.cw p b hb
  have hbK : b ≠ k.K := fun e => by rw [e, h.kt.tK] at h4; exact absurd h4 (by decide)
  exact ⟨⟨cp, by rw [hc _ (fun e => hd p e.symm)]; exact h1⟩, (hu.cell h3 hbK).trans h2, Nat.lt_of_lt_of_le h3 hu.size, h4⟩
/-- what Tick asks for -/
structure MayTick (s : KSt) (nw : Int) (b : Int) : Prop where
  c0 : s.c 0 = .int .i64 s.nc
  c9 : s.c 654 = .int .u32 nw
  wv : s.wv = .slice none 0 0
  wl : s.wl = []
  n0 : 0 ≤ s.wn
  n1 : s.wn ≤ nw
  n2 : nw < 100000000
  t0 : 0 ≤ s.tk
  t1 : s.tk < 900000
  v : VOk b s.l
  b1 : b < 100000000000
set_option maxRecDepth 100000 in
set_option maxHeartbeats 2000000 in
theorem ktick_is (h : KT w k s) {nw b : Int} (hm : MayTick s nw b) : Calls Tryz.prog 17 #[.pointer (some ⟨k.K, 0, none⟩)] w fun e w' => e = .returned (.tuple #[]) ∧ ∃ tag', KG s k w w' { s with c := upV s.c 654 (.int .u32 (nw + 1)), wn := nw + 1, l := tickAll s.l s.nc s.nc, tk := s.tk + s.nc, tag := tag' } := by
  have y1 : (nw + 1) % 4294967296 = nw + 1 := by have := hm.n0; have := hm.n1; have := hm.n2; omega
  have q9 : w.cell? ⟨k.K, 654, none⟩ = some (.int .u32 nw) := by rw [h.kr.cell (by decide), hm.c9]
  have f9 := h.kr.fz 654
  have HG0 := Lib.hid (h.start.cell (i := 654) (by decide) (by decide) (fun p => by omega) (.int .u32 (nw + 1)))
  have HM := Lib.hid hm
  clear h hm
  go_enter Tryz.func17, Tryz.ntmps17
  go_upto_region 1 with fail
  generalize hW1 : w.setCell ⟨k.K, 654, none⟩ (.int .u32 (nw + 1)) = W1 at *
  clear hW1 q9 f9 y1
  have HG1 := Lib.hid (HG0.out.keep (Below.refl _ _).drew)
  have HWR : Hid (Row W1.drew k.Wh 192 #[.int .u32 s.wn, .slice none 0 0]) := Lib.hid (by
    have := HG1.out.kt.wh.row
    rw [show ({ s with c := upV s.c 654 (.int .u32 (nw + 1)) } : KSt).wv = .slice none 0 0 from HM.out.wv] at this
    exact this)
  have HWS := Lib.hid (wstep0_is HWR.out HM.out.n0 (show s.wn ≤ nw + 1 by have := HM.out.n1; omega) (by have := HM.out.n2; omega))
  have hkr := HG1.out.kt.kr
  have d5 : W1.drew.cell? ⟨k.K, 5, none⟩ = some (.pointer (some ⟨k.Wh, 0, none⟩)) := by rw [hkr.cell (by decide), HG1.out.kt.c5]
  have d9 : W1.drew.cell? ⟨k.K, 654, none⟩ = some (.int .u32 (nw + 1)) := by
    rw [hkr.cell (by decide)]
    rfl
  have HD0 : Hid (W1.drew.cell? ⟨k.K, 5, none⟩ = some (.pointer (some ⟨k.Wh, 0, none⟩)) ∧ W1.drew.cell? ⟨k.K, 654, none⟩ = some (.int .u32 (nw + 1))) := Lib.hid ⟨d5, d9⟩
  have hWn : k.Wh ≠ k.K := fun e => by
    have a := HG1.out.kt.tK
    have b := HG1.out.kt.tWh k.Wh (.inl rfl)
    rw [e, a] at b
    exact absurd b (by decide)
  have HKK : Hid (∀ w2, Upd (fun j => j = k.Wh) W1.drew w2 → w2.cell? ⟨k.K, 5, none⟩ = some (.pointer (some ⟨k.Wh, 0, none⟩)) ∧ w2.cell? ⟨k.K, 654, none⟩ = some (.int .u32 (nw + 1))) := Lib.hid fun w2 hu => ⟨(hu.cell hkr.lt (Ne.symm hWn)).trans d5, (hu.cell hkr.lt (Ne.symm hWn)).trans d9⟩
  clear hkr d5 d9 hWn
  go_region_held3 (fun wx => wx.cell? ⟨k.K, 5, none⟩ = some (.pointer (some ⟨k.Wh, 0, none⟩)) ∧ wx.cell? ⟨k.K, 654, none⟩ = some (.int .u32 (nw + 1))) (first | assumption | exact HD0.out | go_keep)
    (first | (go_at_call 48; (with_reducible refine HWS.out.mono ?_); rintro e2 w2 ⟨rfl, hr2, hu2⟩; have hS := HKK.out w2 hu2; have HR2 := Lib.hid hr2; have HU2 := Lib.hid hu2; clear hr2 hu2) | fail)
  obtain ⟨t2, hg2⟩ := HG1.out.whl (w2 := w2) (nw' := nw + 1) (v' := s.wv) (l' := s.wl) (by
    rw [HM.out.wv, HM.out.wl]
    exact ⟨HR2.out, World.ownsRow_nil _ _ _ _, fun e => by cases e⟩) (HU2.out.mono fun j _ e => .inl e) (fun j e => .inl e)
  have HG2 := Lib.hid hg2
  clear hg2 hS HD0 HKK HR2 HU2 HWS HWR HG1 HG0
  have d0 : w2.cell? ⟨k.K, 0, none⟩ = some (.int .i64 s.nc) := by
    rw [HG2.out.kt.kr.cell (by decide)]
    show some (upV s.c 654 (.int .u32 (nw + 1)) 0) = _
    unfold upV; rw [if_neg (by decide), HM.out.c0]
  go_wp2_with fail
  refine wp_loop_rounds 1 ?_
  rw [rounds_succ]
  go_wp2_with fail
  go_loopw [40] (fun kv wr => ∃ c : Nat, c ≤ s.nc ∧ kv = .int .i64 c ∧ Hid (∃ tag', KG s k w wr { s with c := upV s.c 654 (.int .u32 (nw + 1)), wn := nw + 1, l := tickAll s.l s.nc c, tk := s.tk + c, tag := tag' })) (fun kv _ => s.nc - (intOf kv).toNat)
  case atStart => exact ⟨0, Nat.zero_le _, rfl, Lib.hid ⟨t2, by have := HG2.out; simpa [tickAll] using this⟩⟩
  case round =>
    obtain ⟨c, hc0, rfl, HR⟩ := hrel
    by_cases hc : c < s.nc
    · have i1 : (c : Int) < s.nc := by omega
      obtain ⟨tg', hg⟩ := HR.out
      have HG := Lib.hid hg
      have cn := hg.kt.cn
      have d4 : wr.cell? ⟨k.K, 4, none⟩ = some (.pointer (some ⟨k.R, 0, none⟩)) := by rw [hg.kt.kr.cell (by decide), hg.kt.c4]
      have HT := Lib.hid (tickG_is hg.kt.ru hc (by exact cn.2) (by have := HM.out.t0; show 0 ≤ s.tk + (c : Int); omega) (by have := HM.out.t1; have h4 : s.nc ≤ 4 := cn.2; show s.tk + (c : Int) < 1000000; omega) (fun i x hx => by
        have := HM.out.v.all s.nc c i x hx
        have h4 : s.nc ≤ 4 := cn.2
        have := HM.out.b1
        omega))
      have i4 : (s.nc : Int) ≤ 4 := by have h4 : s.nc ≤ 4 := cn.2; omega
      clear hg HR cn
      go_wp2_with (go_at_call 50; refine HT.out.mono ?_; rintro e3 w3 ⟨rfl, hr3, hu3⟩; have hg3 := HG.out.run hr3 hu3 (fun j e => .inl e); have HG3 := Lib.hid hg3; clear hr3 hu3 hg3)
      go_roundw
      case rel => exact ⟨c + 1, by omega, by go_num, by
        obtain ⟨t3, h3⟩ := HG3.out
        refine Lib.hid ⟨t3, ?_⟩
        have e : s.tk + ((c + 1 : Nat) : Int) = s.tk + (c : Int) + 1 := by push_cast; omega
        rw [e]
        exact h3⟩
      case measure => simp [intOf]; omega
    · obtain rfl : c = s.nc := by omega
      go_wp2_with fail
      (try simp only [Exit.inBlock, Exit.then]); first | (refine bodyPost_ret (results_none rfl _ _ _) rfl ?_) | (refine bodyPost_end (results_none rfl _ _ _) rfl ?_)
      exact ⟨rfl, HR.out⟩
end
end Go.Proofs.YtnbhohaphmilmaaGreatDoor
