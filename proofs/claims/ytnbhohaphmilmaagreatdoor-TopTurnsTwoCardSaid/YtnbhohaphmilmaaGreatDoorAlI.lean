/- The memory while processes are made, each with a program of its own. No walk here. The walk of ringtop.rvProgram. The walk of ringtop.rvProgram. -/
import Derived.Test.YtnbhohaphmilmaaGreatDoorKerTk
import Derived.Test.YtnbhohaphmilmaaGreatDoorAlG
namespace Go.Proofs.YtnbhohaphmilmaaGreatDoor
open Go.RowKit
set_option linter.unusedVariables false
set_option linter.unusedSimpArgs false
/-- an instruction as a word -/
def insW (x : CodeLaw.Ins) : Nat := (CodeLaw.encI x).1.toNat
theorem progB_get : ∀ (l : List CodeLaw.Ins) {i t : Nat} {x : CodeLaw.Ins}, l[i]? = some x → t < 4 → (progB l)[i * 4 + t]? = (wordB (CodeLaw.encI x).1)[t]?
  | [], i, t, x, h, _ => by cases h
  | y :: l, 0, t, x, h, ht => by
    injection h with h
    subst h
    unfold progB
    rw [List.flatMap_cons, Nat.zero_mul, Nat.zero_add, List.getElem?_append_left (by simpa [wordB] using ht)]
  | y :: l, i + 1, t, x, h, ht => by
    have h : l[i]? = some x := h
    have ih := progB_get l h ht
    unfold progB at ih ⊢
    rw [List.flatMap_cons, List.getElem?_append_right (by simp [wordB]; omega)]
    have e : (i + 1) * 4 + t - (wordB (CodeLaw.encI y).1).length = i * 4 + t := by simp [wordB]; omega
    rw [e]
    exact ih
theorem pad_pg (L : List Int) (j : Nat) {o : Nat} (ho : o < 16) : padF (pgB L j) o = (L[16 * j + o]?).getD 0 := by
  unfold padF pgB
  rw [List.getD_eq_getElem?_getD, List.getElem?_take, if_pos ho, List.getElem?_drop]
theorem word_putL {m m1 : MS} {b B0 : Nat} {l : List CodeLaw.Ins} (hl : PrgA l) (f : PutFacts B0 b (pgF (progB l)) m1 5 m) {i : Nat} {x : CodeLaw.Ins} (hx : l[i]? = some x) : CpuLaw.WordAt m b (4 * i) (insW x) := by
  have hi : i < l.length := (List.getElem?_eq_some_iff.1 hx).1
  have l16 := hl.len.2
  obtain ⟨g, -, hg, hF, hd, -⟩ := f.pg (i / 4) (by omega)
  have hj : i / 4 < 4 := by omega
  rw [show pgF (progB l) (i / 4) = (5, pgB (progB l) (i / 4)) from if_pos hj] at hF hd
  obtain ⟨-, e0, e1⟩ := hl.encs i x hx
  obtain ⟨n, hn⟩ : ∃ n : Nat, (CodeLaw.encI x).1 = n := ⟨(CodeLaw.encI x).1.toNat, by omega⟩
  have hb : ∀ t, t < 4 → m.d g (4 * (i % 4) + t) = ((wordB (n : Int))[t]?).getD 0 := fun t ht => by
    rw [hd]
    show padF (pgB (progB l) (i / 4)) _ = _
    rw [pad_pg _ _ (by omega), show 16 * (i / 4) + (4 * (i % 4) + t) = i * 4 + t by omega, progB_get l hx ht, hn]
  have w : insW x = n := by unfold insW; rw [hn]; exact Int.toNat_natCast n
  rw [w]
  refine ⟨((i / 4 : Nat) : Int), 5, g, 4 * (i % 4), n % 256, n / 256 % 256, n / 65536 % 256, n / 16777216, by omega, by omega, hF, hg, by decide +kernel, by omega, by omega, by omega, ?_, ?_, ?_, ?_, by omega, by omega, by omega, by omega, by omega⟩
  · have := hb 0 (by decide)
    rw [Nat.add_zero] at this
    rw [this]
    show (n : Int) % 256 = _
    omega
  · rw [hb 1 (by decide)]
    show (n : Int) / 256 % 256 = _
    omega
  · rw [hb 2 (by decide)]
    show (n : Int) / 65536 % 256 = _
    omega
  · rw [hb 3 (by decide)]
    show (n : Int) / 16777216 = _
    omega
/-- a space with a program and a page of data, its own -/
structure SpOk (m : MS) (b : Nat) (l : List CodeLaw.Ins) (d : Nat → Nat) : Prop where
  lone : Lone (m.F b)
  pg : ∀ k g r, m.F b k = some (g, r) → 0 ≤ k ∧ k < 5 ∧ g ∈ m.pl ∧ m.u g = 1
  nF : m.nF b ≤ 10
  wd : ∀ (i : Nat) (x : CodeLaw.Ins), l[i]? = some x → CpuLaw.WordAt m b (4 * i) (insW x)
  dat : ∃ g4, m.F b 4 = some (g4, 3) ∧ m.d g4 = fun i => (d i : Int)
theorem SpOk.keep {m m' : MS} {b : Nat} {l : List CodeLaw.Ins} {d : Nat → Nat} (h : SpOk m b l d) (hF : m'.F b = m.F b) (hn : m'.nF b = m.nF b) (hpl : ∀ k g r, m.F b k = some (g, r) → g ∈ m'.pl ∧ m'.d g = m.d g ∧ m'.u g = m.u g) : SpOk m' b l d := by
  refine ⟨by rw [hF]; exact h.lone, fun k g r e => ?_, by rw [hn]; exact h.nF, fun i x hx => ?_, ?_⟩
  · rw [hF] at e
    obtain ⟨q1, q2, q3, q4⟩ := h.pg k g r e
    obtain ⟨p1, p2, p3⟩ := hpl k g r e
    exact ⟨q1, q2, p1, by rw [p3]; exact q4⟩
  · obtain ⟨pg, r, g, o, x0, x1, x2, x3, h0, h1, h2, h3, h4, h5, h6, h7, h8, h9, h10, h11, h12⟩ := (h.wd i x hx).at'
    obtain ⟨hg, hd, -⟩ := hpl pg g r h2
    exact ⟨pg, r, g, o, x0, x1, x2, x3, h0, h1, by rw [hF]; exact h2, hg, h4, h5, h6, h7, by rw [hd]; exact h8, by rw [hd]; exact h9, by rw [hd]; exact h10, by rw [hd]; exact h11, h12⟩
  · obtain ⟨g4, q1, q2⟩ := h.dat
    exact ⟨g4, by rw [hF]; exact q1, by rw [(hpl 4 g4 3 q1).2.1]; exact q2⟩
theorem put_spok {m m1 m2 : MS} {b B0 : Nat} {l : List CodeLaw.Ins} (hl : PrgA l) (hu : Unm m m1 b 5) (hp : PutsTo B0 b (pgF (progB l)) m1 5 m2) (hnd : m2.pl.Nodup) (hB : ∀ g, g ∈ m.pl → g < B0) (hF : ∀ k, (k < 0 ∨ 5 ≤ k) → m.F b k = none) (hn : m.nF b ≤ 5) :
    PutFacts B0 b (pgF (progB l)) m1 5 m2 ∧ SpOk m2 b l (fun _ => 0) ∧ ∀ k g r, m2.F b k = some (g, r) → B0 ≤ g := by
  have f := PutsTo.facts (fun g hg => hB g (by rw [← hu.pl]; exact hg)) hp hnd
  have e1 : ∀ k, (k < 0 ∨ 5 ≤ k) → m2.F b k = none := fun k hk => by
    rw [f.fr k (by omega), hu.F, fup_same, if_neg (by omega)]
    exact hF k hk
  have k5 : ∀ k g r, m2.F b k = some (g, r) → 0 ≤ k ∧ k < 5 := fun k g r h1 => by
    rcases Int.lt_or_le k 0 with q | q
    · rw [e1 k (.inl q)] at h1; cases h1
    · rcases Int.lt_or_le k 5 with q2 | q2
      · exact ⟨q, q2⟩
      · rw [e1 k (.inr q2)] at h1; cases h1
  have pg : ∀ k g r, m2.F b k = some (g, r) → B0 ≤ g ∧ g ∈ m2.pl ∧ m2.u g = 1 := fun k g r h1 => by
    have k0 := k5 k g r h1
    have a1 : ((k.toNat : Nat) : Int) = k := by omega
    obtain ⟨g', hB', hg', hF', -, hu'⟩ := f.pg k.toNat (by omega)
    rw [a1, h1] at hF'
    injection hF' with hF'
    injection hF' with hF' _
    subst hF'
    exact ⟨hB', hg', hu'⟩
  refine ⟨f, ⟨fun k k' g r r' h1 h2 => ?_, fun k g r h1 => ?_, ?_, fun i x hx => word_putL hl f hx, ?_⟩, fun k g r h1 => (pg k g r h1).1⟩
  · have k0 := k5 k g r h1
    have k1 := k5 k' g r' h2
    have a1 : ((k.toNat : Nat) : Int) = k := by omega
    have a2 : ((k'.toNat : Nat) : Int) = k' := by omega
    have := f.inj k.toNat k'.toNat g r r' (by omega) (by omega) (by rw [a1]; exact h1) (by rw [a2]; exact h2)
    omega
  · exact ⟨(k5 k g r h1).1, (k5 k g r h1).2, (pg k g r h1).2⟩
  · rw [f.nF, hu.nF]; omega
  · obtain ⟨g4, -, -, h4, hd, -⟩ := f.pg 4 (by decide)
    refine ⟨g4, h4, hd.trans ?_⟩
    funext j
    show ([] : List Int).getD j 0 = _
    simp
section
variable {m m' m1 m2 : MS} {N b nb B0 : Nat} {P : Nat → List CodeLaw.Ins}
/-- spaces have no page in common -/
def NoShare (m : MS) (N : Nat) : Prop := ∀ (p q : Nat) b b' k k' g r r', 1 ≤ p → p ≤ N → 1 ≤ q → q ≤ N → p ≠ q → m.S p = some b → m.S q = some b' → m.F b k = some (g, r) → m.F b' k' = some (g, r') → False
/-- the memory of N processes, each with its program -/
structure MpA (m : MS) (N : Nat) (P : Nat → List CodeLaw.Ins) (D : Nat → Nat → Nat) : Prop where
  S : ∀ p : Nat, 1 ≤ p → p ≤ N → ∃ b, m.S p = some b ∧ SpOk m b (P p) (D p)
  S0 : ∀ p : Nat, N < p → m.S p = none
  nS : m.nS ≤ N
  len : m.pl.length ≤ 5 * N
  nF1 : ∀ b, m.S 1 = some b → m.nF b ≤ 5
  ap : NoShare m N
def noD : Nat → Nat → Nat := fun _ _ => 0
theorem MpA.fork {D : Nat → Nat → Nat} (h : MpA m N P D) (h1 : 1 ≤ N) (h6 : N + 1 ≤ 16) : ∃ b, MayFork m 1 b (N + 1) := by
  obtain ⟨b, hb, ho⟩ := h.S 1 (by decide) h1
  have hb : m.S 1 = some b := hb
  exact ⟨b, hb, by decide, by omega, by omega, h.S0 (N + 1) (by omega), fun j a1 a2 => by obtain ⟨b', q, -⟩ := h.S j a1 (by omega); exact ⟨b', q⟩, by have := h.nS; omega, ho.lone, fun k g r e => by
    obtain ⟨-, -, q1, q2⟩ := ho.pg k g r e
    exact ⟨q1, by rw [q2]; decide, by rw [q2]; decide⟩, by have := h.nF1 b hb; omega⟩
/-- a fork's memory before the child's program is put -/
structure MfA (m : MS) (N : Nat) (P : Nat → List CodeLaw.Ins) (b nb : Nat) (m0 : MS) : Prop where
  base : MpA m0 N P noD
  sb : m0.S 1 = some b
  hf : Forked m0 m 1 (N + 1 : Nat) b nb
  hn : ∀ p, m0.S p ≠ some nb
theorem MfA.mayput (h : MfA m N P b nb m1) (h1 : 1 ≤ N) : m.S (N + 1 : Nat) = some nb ∧ Lone (m.F nb) ∧ (∀ k g r, m.F nb k = some (g, r) → 0 ≤ k ∧ k < 5 ∧ g ∈ m.pl ∧ m.u g = 2) ∧ m.pl.length ≤ 5 * N ∧ m.nF nb ≤ 5 := by
  obtain ⟨b', hb', ho⟩ := h.base.S 1 (by decide) h1
  have hb' : m1.S 1 = some b' := hb'
  rw [h.sb] at hb'
  injection hb' with hb'
  subst hb'
  have eF : m.F nb = m1.F b := by rw [h.hf.F, fup_same]
  refine ⟨by rw [h.hf.S]; exact if_pos rfl, by rw [eF]; exact ho.lone, fun k g r e => ?_, by rw [h.hf.pl]; exact h.base.len, by have := h.hf.nFn; have := h.base.nF1 b h.sb; omega⟩
  rw [eF] at e
  obtain ⟨q1, q2, q3, q4⟩ := ho.pg k g r e
  exact ⟨q1, q2, by rw [h.hf.pl]; exact q3, by rw [h.hf.u0 g ⟨k, r, e⟩, q4]; rfl⟩
/-- the child's program is put: a space that was there is as it was -/
theorem MfA.old (h : MfA m N P b nb m1) (h1 : 1 ≤ N) {m2 m3 : MS} {l : List CodeLaw.Ins} (hu : Unm m m2 nb 5) (f : PutFacts B0 nb (pgF (progB l)) m2 5 m3) (hB : ∀ g, g ∈ m.pl → g < B0) {p : Nat} {b' : Nat} (p1 : 1 ≤ p) (p2 : p ≤ N) (hS : m1.S p = some b') : m3.F b' = m1.F b' ∧ m3.nF b' = m1.nF b' ∧ ∀ k g r, m1.F b' k = some (g, r) → g < B0 ∧ g ∈ m3.pl ∧ m3.d g = m1.d g ∧ m3.u g = m1.u g := by
  have hne : b' ≠ nb := fun e => h.hn p (by rw [hS, e])
  have eF : m3.F b' = m1.F b' := by rw [(f.oth b' hne).1, hu.F, fup_off _ _ hne, h.hf.F, fup_off _ _ hne]
  have eF1 : m.F nb = m1.F b := by rw [h.hf.F, fup_same]
  refine ⟨eF, by rw [(f.oth b' hne).2, hu.nF, h.hf.nF b' hne], fun k g r e => ?_⟩
  obtain ⟨b2, hb2, ho⟩ := h.base.S p p1 p2
  rw [hS] at hb2
  injection hb2 with hb2
  subst hb2
  obtain ⟨q1, q2, q3, q4⟩ := ho.pg k g r e
  have hg : g ∈ m.pl := by rw [h.hf.pl]; exact q3
  have hlt := hB g hg
  refine ⟨hlt, f.pl g (by rw [hu.pl]; exact hg), by rw [(f.old g hlt).1, hu.d, h.hf.d], ?_⟩
  rw [(f.old g hlt).2]
  by_cases ep : p = 1
  · subst ep
    have e1 : b' = b := by
      have hS : m1.S 1 = some b' := hS
      rw [h.sb] at hS
      injection hS with hS
      exact hS.symm
    subst e1
    rw [hu.u0 g ⟨k, r, q1, q2, by rw [eF1]; exact e⟩, h.hf.u0 g ⟨k, r, e⟩]
    omega
  · have hno : ¬ ∃ k r, m1.F b k = some (g, r) := fun ⟨k', r', e'⟩ => h.base.ap p 1 b' b k k' g r r' p1 p2 (by decide) h1 ep hS h.sb e e'
    rw [hu.u1 g (fun ⟨j, r', _, _, e'⟩ => hno ⟨j, r', by rw [← eF1]; exact e'⟩), h.hf.u1 g hno]
theorem MfA.put (h : MfA m N P b nb m1) (h1 : 1 ≤ N) {m2 m3 : MS} (hl : PrgA (P (N + 1))) (hu : Unm m m2 nb 5) (hp : PutsTo B0 nb (pgF (progB (P (N + 1)))) m2 5 m3) (hnd : m3.pl.Nodup) (hB : ∀ g, g ∈ m.pl → g < B0) : MpA m3 (N + 1) P noD := by
  obtain ⟨q1, q2, q3, q4, q5⟩ := h.mayput h1
  have hF0 : ∀ k, (k < 0 ∨ 5 ≤ k) → m.F nb k = none := fun k hk => by
    cases e : m.F nb k with
    | none => rfl
    | some x =>
      obtain ⟨a1, a2, -⟩ := q3 k x.1 x.2 e
      omega
  obtain ⟨f, ho, hnew⟩ := put_spok hl hu hp hnd hB hF0 q5
  have eS : ∀ p : Nat, p ≠ N + 1 → m3.S p = m1.S p := fun p hp => by
    rw [f.S, hu.S, h.hf.S]
    exact if_neg (by omega)
  have eSn : m3.S (N + 1 : Nat) = some nb := by rw [f.S, hu.S]; exact q1
  refine ⟨fun p p1 p2 => ?_, fun p hp => ?_, ?_, ?_, fun b' hb' => ?_, ?_⟩
  · rcases Nat.lt_or_ge N p with q | q
    · obtain rfl : p = N + 1 := by omega
      exact ⟨nb, eSn, ho⟩
    · obtain ⟨b', a1, a2⟩ := h.base.S p p1 q
      obtain ⟨o1, o2, o3⟩ := h.old h1 hu f hB p1 q a1
      exact ⟨b', by rw [eS p (by omega)]; exact a1, a2.keep o1 o2 (fun k g r e => (o3 k g r e).2)⟩
  · rw [eS p (by omega)]; exact h.base.S0 p (by omega)
  · rw [f.nS, hu.nS, h.hf.nS]; have := h.base.nS; omega
  · rw [f.len, hu.pl]; omega
  · have e1 := eS 1 (by omega)
    have hb' : m3.S ((1 : Nat) : Int) = some b' := hb'
    rw [e1] at hb'
    rw [(h.old h1 hu f hB (p := 1) (by decide) h1 hb').2.1]
    exact h.base.nF1 b' hb'
  · intro p q b1 b2 k k' g r r' p1 p2 a1 a2 hne s1 s2 e1 e2
    by_cases ep : p = N + 1
    · subst ep
      rw [eSn] at s1
      injection s1 with s1
      subst s1
      rw [eS q (by omega)] at s2
      obtain ⟨o1, o2, o3⟩ := h.old h1 hu f hB a1 (by omega) s2
      rw [o1] at e2
      have := hnew k g r e1
      have := (o3 k' g r' e2).1
      omega
    · rw [eS p ep] at s1
      obtain ⟨o1, o2, o3⟩ := h.old h1 hu f hB p1 (by omega) s1
      rw [o1] at e1
      by_cases eq : q = N + 1
      · subst eq
        rw [eSn] at s2
        injection s2 with s2
        subst s2
        have := hnew k' g r' e2
        have := (o3 k g r e1).1
        omega
      · rw [eS q eq] at s2
        obtain ⟨v1, v2, v3⟩ := h.old h1 hu f hB a1 (by omega) s2
        rw [v1] at e2
        exact h.base.ap p q b1 b2 k k' g r r' p1 (by omega) a1 (by omega) hne s1 s2 e1 e2
/-- the first process's program is put -/
theorem mpA_one (hl : PrgA (P 1)) (hS : ∀ p : Nat, m.S p = if p = 1 then some b else none) (hnS : m.nS ≤ 1) (hpl : m.pl = []) (hF : ∀ k, m.F b k = none) (hn : m.nF b = 0) (hu : Unm m m1 b 5) (hp : PutsTo B0 b (pgF (progB (P 1))) m1 5 m2) (hnd : m2.pl.Nodup) : MpA m2 1 P noD := by
  obtain ⟨f, ho, -⟩ := put_spok hl hu hp hnd (fun g hg => by rw [hpl] at hg; cases hg) (fun k _ => hF k) (by omega)
  have eS : ∀ p : Nat, m2.S p = if p = 1 then some b else none := fun p => by rw [f.S, hu.S]; exact hS p
  have hb : m2.S ((1 : Nat) : Int) = some b := by have := eS 1; rw [if_pos rfl] at this; exact this
  refine ⟨fun p p1 p2 => ?_, fun p hp => by rw [eS, if_neg (by omega)], by rw [f.nS, hu.nS]; exact hnS, by rw [f.len, hu.pl, hpl]; decide, fun b' hb' => ?_, fun p q _ _ _ _ _ _ _ p1 p2 q1 q2 hne => by omega⟩
  · obtain rfl : p = 1 := by omega
    exact ⟨b, hb, ho⟩
  · have hb' : m2.S ((1 : Nat) : Int) = some b' := hb'
    rw [hb] at hb'
    injection hb' with hb'
    subst hb'
    rw [f.nF, hu.nF, hn]
    decide
end
end Go.Proofs.YtnbhohaphmilmaaGreatDoor
namespace Go.Proofs.YtnbhohaphmilmaaGreatDoor
open Go.RowKit Go.Deep
set_option linter.unusedVariables false
set_option linter.unusedSimpArgs false
def insC (x : CodeLaw.Ins) : Array Value := #[.int .i64 x.op, .int .i64 x.a, .int .i64 x.b, .int .i64 x.c]
def appIns := Builtin.append_ #[44, 44] 44
theorem appIns_eq : Builtin.append_ #[44, 44] 44 = appIns := rfl
theorem infoIns4 : (Tryz.prog.info? 89).map (fun i => (i.zero, i.size, i.bytes)) = some (some (.agg #[.int .i64 0, .int .i64 0, .int .i64 0, .int .i64 0]), 4, 32) := by kernel_rfl
/-- instructions in memory of one's own -/
def InsO (B : Nat) (w : World) (v : Value) (l : List CodeLaw.Ins) : Prop := w.ownsRow B 89 4 v l.length (l.flatMap fun x => (insC x).toList)
theorem InsO.push {w : World} {B : Nat} {v : Value} {l : List CodeLaw.Ins} (h : InsO B w v l) (hB : B ≤ w.heap.size) (x : CodeLaw.Ins) (h64 : l.length < 100000) :
    ∃ p c w', (appIns #[v, .slice (some ⟨w.heap.size, 0, none⟩) 1 1]).run Tryz.prog (w.alloc (.cells (insC x) 89)) = .ok (.slice p (l.length + 1) c) w' ∧ InsO B w' (.slice p (l.length + 1) c) (l ++ [x]) ∧ Below B w w' := by
  have hal := (Below.refl B w).alloc hB (.cells (insC x) 89)
  obtain ⟨i0, hi, hz0, hz1, hz2⟩ := info_parts infoIns4
  obtain ⟨v', w', hr, ho, hg, -⟩ := run_append_fresh (P := Tryz.prog) (w.alloc (.cells (insC x) 89)) B 44 44 89 i0 _ 4 32 Tryz.underlying44 hi hz0 hz1 hz2 rfl (by decide) v l.length _ (owns_keep h (Go.Joins.below_alloc1 w _)) ⟨w.heap.size, 0, none⟩ 1 1 [.int .i64 x.op, .int .i64 x.a, .int .i64 x.b, .int .i64 x.c] rfl (cells_new w [.int .i64 x.op, .int .i64 x.a, .int .i64 x.b, .int .i64 x.c] 89) (by intro u hu; simp at hu; rcases hu with rfl | rfl | rfl | rfl <;> rfl) (by unfold maxLen; omega) (by omega) (Nat.le_trans hB hal.size)
  have ho' : InsO B w' v' (l ++ [x]) := by
    unfold InsO
    rw [List.length_append, List.flatMap_append]
    exact ho
  obtain ⟨p, c, hv⟩ := own_form ho
  subst hv
  exact ⟨p, c, w', hr, ho', hal.trans ((Below.refl B _).grown hg (Nat.le_trans hB hal.size) (fun g hgg => (h.lt g hgg).1))⟩
theorem insC_get : ∀ (l : List CodeLaw.Ins) {i j : Nat} {x : CodeLaw.Ins}, l[i]? = some x → j < 4 → (l.flatMap fun x => (insC x).toList)[i * 4 + j]? = (insC x)[j]?
  | [], i, j, x, h, _ => by cases h
  | y :: t, 0, j, x, h, hj => by
    injection h with h
    subst h
    rw [List.flatMap_cons, Nat.zero_mul, Nat.zero_add, List.getElem?_append_left (by simpa [insC] using hj), Array.getElem?_toList]
  | y :: t, i + 1, j, x, h, hj => by
    have h : t[i]? = some x := h
    rw [List.flatMap_cons, List.getElem?_append_right (by simp [insC]; omega)]
    have e : (i + 1) * 4 + j - (insC y).toList.length = i * 4 + j := by simp [insC]; omega
    rw [e]
    exact insC_get t h hj
theorem insC_len (l : List CodeLaw.Ins) : (l.flatMap fun x => (insC x).toList).length = l.length * 4 := by
  induction l with
  | nil => rfl
  | cons a t ih => rw [List.flatMap_cons, List.length_append, ih]; simp [insC]; omega
theorem InsO.ins {w : World} {B : Nat} {v : Value} {l : List CodeLaw.Ins} (h : InsO B w v l) (h0 : 0 < l.length) : ∃ b cap, v = .slice (some ⟨b, 0, none⟩) l.length cap ∧ InsL w v l ∧ B ≤ b ∧ b < w.heap.size := by
  rcases id h.2 with ⟨e, hn⟩ | ⟨g, cap, cur, rfl, hB, hg, -⟩
  · omega
  · refine ⟨g, cap, rfl, ⟨g, cap, rfl, fun i x hx => ?_⟩, hB, (h.lt g rfl).2⟩
    have hc : ∀ j, j < 4 → w.cell? ⟨g, i * 4 + j, none⟩ = (insC x)[j]? := fun j hj => by
      have hj2 : j < (insC x).size := hj
      have e := insC_get l hx hj
      have := h.cells (g := g) rfl (i * 4 + j) ((insC x)[j]'hj2) (by rw [e]; exact Array.getElem?_eq_getElem hj2)
      rw [Addr.add_lit, Nat.zero_add] at this
      rw [this, Array.getElem?_eq_getElem hj2]
    exact ⟨hc 0 (by decide), hc 1 (by decide), hc 2 (by decide), hc 3 (by decide)⟩
def bdIN (ps : Array (Nat × Value)) : Sem Value := Instr.build 89 ps
theorem bd_IN (ps : Array (Nat × Value)) : Instr.build 89 ps = bdIN ps := rfl
theorem bdIN_ac (w : World) (n a c : Int) : (bdIN #[(0, .int .i64 n), (1, .int .i64 a), (3, .int .i64 c)]).run Tryz.prog w = .ok (.agg #[.int .i64 n, .int .i64 a, .int .i64 0, .int .i64 c]) w := by kernel_rfl
theorem bdIN_abc (w : World) (n a b c : Int) : (bdIN #[(0, .int .i64 n), (1, .int .i64 a), (2, .int .i64 b), (3, .int .i64 c)]).run Tryz.prog w = .ok (.agg #[.int .i64 n, .int .i64 a, .int .i64 b, .int .i64 c]) w := by kernel_rfl
theorem bdIN_ab (w : World) (n a b : Int) : (bdIN #[(0, .int .i64 n), (1, .int .i64 a), (2, .int .i64 b)]).run Tryz.prog w = .ok (.agg #[.int .i64 n, .int .i64 a, .int .i64 b, .int .i64 0]) w := by kernel_rfl
theorem bdIN_c (w : World) (n c : Int) : (bdIN #[(0, .int .i64 n), (3, .int .i64 c)]).run Tryz.prog w = .ok (.agg #[.int .i64 n, .int .i64 0, .int .i64 0, .int .i64 c]) w := by kernel_rfl
theorem ld_IN (v : Value) : Instr.loadAt 89 v = ldR 89 v := rfl
def eightC (a b q o : Int) : Array Value := #[.int .i64 2, .int .i64 a, .int .i64 0, .int .i64 q, .int .i64 14, .int .i64 a, .int .i64 b, .int .i64 3, .int .i64 5, .int .i64 a, .int .i64 b, .int .i64 0, .int .i64 7, .int .i64 a, .int .i64 b, .int .i64 0, .int .i64 11, .int .i64 a, .int .i64 b, .int .i64 0, .int .i64 15, .int .i64 a, .int .i64 0, .int .i64 o, .int .i64 17, .int .i64 a, .int .i64 0, .int .i64 o, .int .i64 21, .int .i64 a, .int .i64 b, .int .i64 4]
theorem ld8 (w : World) (a b q o : Int) {r : Nat} (hr : r < 8) : ∃ x, x ∈ eight a b q o ∧ (ldR 89 (.pointer (some ⟨w.heap.size, r * 4, none⟩))).run Tryz.prog (w.alloc (.cells (eightC a b q o) 89)) = .ok (.agg (insC x)) (w.alloc (.cells (eightC a b q o) 89)) := by
  have h := (row_new w 89 (eightC a b q o)).ld (o := r * 4) (n := 4) (U := 89) (by show r * 4 + 4 ≤ 32; omega) Tryz.underlying89 rfl (by kernel_rfl)
  have hh : r = 0 ∨ r = 1 ∨ r = 2 ∨ r = 3 ∨ r = 4 ∨ r = 5 ∨ r = 6 ∨ r = 7 := by omega
  rcases hh with rfl | rfl | rfl | rfl | rfl | rfl | rfl | rfl
  · exact ⟨⟨2, a, 0, q⟩, by simp [eight], h⟩
  · exact ⟨⟨14, a, b, 3⟩, by simp [eight], h⟩
  · exact ⟨⟨5, a, b, 0⟩, by simp [eight], h⟩
  · exact ⟨⟨7, a, b, 0⟩, by simp [eight], h⟩
  · exact ⟨⟨11, a, b, 0⟩, by simp [eight], h⟩
  · exact ⟨⟨15, a, 0, o⟩, by simp [eight], h⟩
  · exact ⟨⟨17, a, 0, o⟩, by simp [eight], h⟩
  · exact ⟨⟨21, a, b, 4⟩, by simp [eight], h⟩
end Go.Proofs.YtnbhohaphmilmaaGreatDoor
namespace Go.Proofs.YtnbhohaphmilmaaGreatDoor
open Go.RowKit Go.Deep
set_option linter.unusedVariables false
set_option linter.unusedSimpArgs false
theorem u64_mod2 (k n : Int) (h0 : 0 < n) (h9 : n < 100000) : ∃ r : Nat, (r : Int) < n ∧ wrap64 ((IntKind.u64.wrap k).tmod n) = r := by
  have hk : 0 ≤ IntKind.u64.wrap k := by
    have e : IntKind.u64.wrap k = k % 18446744073709551616 := by simp [IntKind.wrap, IntKind.signed, IntKind.bits]
    rw [e]
    exact Int.emod_nonneg _ (by decide)
  rw [Int.tmod_eq_emod_of_nonneg hk]
  have h1 := Int.emod_nonneg (IntKind.u64.wrap k) (show n ≠ 0 by omega)
  have h2 := Int.emod_lt_of_pos (IntKind.u64.wrap k) h0
  rw [IntWalk.wrap64_in _ (by omega)]
  exact ⟨((IntKind.u64.wrap k) % n).toNat, by omega, by omega⟩
theorem rest2_is (w : World) (k : Int) {n : Int} (h0 : 0 < n) (h9 : n < 100000) : Calls Tryz.prog 6 #[.int .i64 k, .int .i64 n] w fun e w' => ∃ r : Nat, (r : Int) < n ∧ e = .returned (.int .i64 r) ∧ w' = w := by
  obtain ⟨r, hr, er⟩ := u64_mod2 k n h0 h9
  have hw : IntKind.u64.wrap n = n := IntWalk.u64_in n (by omega)
  have hn : ¬ n = 0 := by omega
  have HR := Lib.hid hr
  go_enter Tryz.func6, Tryz.ntmps6
  go_wp2_with fail
  go_ret
  exact ⟨r, HR.out, by rw [er]; rfl, rfl⟩
theorem int_cell {w1 : World} {sp : Option Addr} {cap : Nat} {xs : List Int} (h : xs = [] ∨ ∃ b off, sp = some ⟨b, off, none⟩ ∧ b < w1.heap.size ∧ ∀ i, i < xs.length → w1.cell? ⟨b, off + i, none⟩ = some (.int .i64 (xs.getD i 0))) {i : Nat} (hi : i < xs.length) : ∃ b off, sp = some ⟨b, off, none⟩ ∧ ∀ wx, Below w1.heap.size w1 wx → ∃ x : Int, wx.cell? ⟨b, off + i, none⟩ = some (.int .i64 x) := by
  rcases h with e | ⟨b, off, e, hlt, hc⟩
  · rw [e] at hi; exact absurd hi (Nat.not_lt_zero _)
  · exact ⟨b, off, e, fun wx hb => ⟨xs.getD i 0, (hb.cell (p := ⟨b, off + i, none⟩) hlt).trans (hc i hi)⟩⟩
theorem body_of {a b o : Nat} {q : Int} {x : CodeLaw.Ins} (h : 1 ≤ a ∧ a ≤ 7 ∧ 1 ≤ b ∧ b ≤ 7) (ho : o < 13 ∧ o % 4 = 0) (h0 : -500 ≤ q) (h5 : q < 500) (hx : x ∈ eight a b q (64 + (o : Int))) : BodyOk x := ⟨a, b, o, q, h.1, h.2.1, h.2.2.1, h.2.2.2, h0, h5, ho.1, ho.2, hx⟩
attribute [local go_sem ↓] bd_IN appIns_eq ld_IN
set_option maxRecDepth 100000 in
set_option maxHeartbeats 1000000 in
theorem rvprog_is (w : World) {pv : Value} {pl : List Int} (hpl : At (Value.int .i64) 0 w pv pl) : Calls Tryz.prog 10 #[pv] w fun e w' => ∃ b cap l, e = .returned (.slice (some ⟨b, 0, none⟩) l.length cap) ∧ PrgOk l ∧ InsL w' (.slice (some ⟨b, 0, none⟩) l.length cap) l ∧ w.heap.size ≤ b ∧ b < w'.heap.size ∧ Below w.heap.size w w' := by
  obtain ⟨sp0, cp, rfl, hlc, hcm, hcell⟩ := hpl
  have hcp63 : (cp : Int) ≤ 9223372036854775807 := by have := hcm; unfold maxLen at this; omega
  have HCELL := Lib.hid hcell
  obtain ⟨L, hL⟩ : ∃ L, L = pl.length := ⟨_, rfl⟩
  rw [← hL]
  have HLL := Lib.hid hL
  have hLc : L ≤ cp := by omega
  clear hcell hcm hlc hL
  have b1 := bdIN_ac
  have b2 := bdIN_abc
  have b3 := bdIN_ab
  have b4 := bdIN_c
  go_enter Tryz.func10, Tryz.ntmps10
  go_upto_region 2 with fail
  obtain ⟨m, hm⟩ : ∃ m, m = min L 15 := ⟨_, rfl⟩
  go_cut [13, 14, 15] from 9 to 15 (fun s41 s42 s43 wx => s41 = .slice sp0 m cp ∧ s42 = .int .i64 m ∧ s43 = .int .i64 0 ∧ wx = w)
  case first =>
    rcases Nat.lt_or_ge 15 L with h2 | h2
    · have i1 : (15 : Int) < L := by omega
      have i2 : (15 : Int) ≤ cp := by omega
      go_wp2_with fail
      all_goals (go_meet; case rel => exact ⟨by congr 1; omega, by congr 1; omega, rfl, rfl⟩)
    · have i1 : ¬ (15 : Int) < L := by omega
      have i2 : (L : Int) ≤ cp := by omega
      go_wp2_with fail
      all_goals (go_meet; case rel => exact ⟨by congr 1; omega, by congr 1; omega, rfl, rfl⟩)
  case rest =>
    obtain ⟨rfl, rfl, rfl, hwc⟩ := hcut
    subst hwc
    obtain ⟨w1, rfl⟩ : ∃ x : World, x = wc := ⟨_, rfl⟩
    have HM : Hid (m ≤ 15 ∧ m ≤ pl.length) := Lib.hid ⟨by omega, by have := HLL.out; omega⟩
    have hm15 : (m : Int) ≤ 15 := by omega
    clear hm
    go_wp2_with fail
    go_loopw [3, 15] (fun ov kv wr => ∃ (i : Nat) (p : Option Addr) (c : Nat), i ≤ m ∧ kv = .int .i64 i ∧ ov = .slice p i c ∧ Hid (∃ l : List CodeLaw.Ins, l.length = i ∧ InsO w1.heap.size wr (.slice p i c) l ∧ ∀ x ∈ l, BodyOk x) ∧ Hid (Below w1.heap.size w1 wr)) (fun _ kv _ => m - (intOf kv).toNat)
    case atStart => exact ⟨0, none, 0, Nat.zero_le _, rfl, rfl, Lib.hid ⟨[], rfl, World.ownsRow_nil _ _ _ _, fun x hx => nomatch hx⟩, Lib.hid (Below.refl _ _)⟩
    case round =>
      obtain ⟨i, p, c, hi0, rfl, rfl, HR, HB⟩ := hrel
      by_cases hi : i < m
      · have i1 : (i : Int) < m := by omega
        obtain ⟨pb, po, rfl, hx⟩ := int_cell (cap := cp) HCELL.out (i := i) (by have := HM.out; omega)
        obtain ⟨x, hx⟩ := hx wr HB.out
        have HI : Hid (i < m) := Lib.hid hi
        clear hi hi0
        go_upto_region 5 with fail
        clear hx
        go_upto_region 6 with (go_at_call 6; refine (rest_is _ _ (by decide) (by decide)).mono ?_; rintro e1 w6 ⟨ra, (hra : (ra : Int) < 7), rfl, rfl⟩)
        rename_i r0 hr0 K0 A0
        obtain ⟨a, ha⟩ : ∃ a : Nat, (1 : Int) + r0 = a := ⟨1 + r0, by omega⟩
        obtain ⟨b, hb⟩ : ∃ b : Nat, (1 : Int) + ra = b := ⟨1 + ra, by omega⟩
        have HAB : Hid (1 ≤ a ∧ a ≤ 7 ∧ 1 ≤ b ∧ b ≤ 7) := Lib.hid ⟨by omega, by omega, by omega, by omega⟩
        rw [ha, hb]
        clear ha hb hra hr0
        go_upto_region 7 with (go_at_call 6; refine (rest_is _ _ (by decide) (by decide)).mono ?_; rintro e1 w6 ⟨ro, (hro : (ro : Int) < 4), rfl, rfl⟩)
        obtain ⟨o, ho⟩ : ∃ o : Nat, (4 : Int) * ro = o := ⟨4 * ro, by omega⟩
        have HO : Hid (o < 13 ∧ o % 4 = 0) := Lib.hid ⟨by omega, by omega⟩
        rw [ho]
        clear ho hro
        have HL : Hid (∀ (q : Int) (r : Nat), -500 ≤ q → q < 500 → r < 8 → ∃ x p2 c2 w8, BodyOk x ∧ (ldR 89 (.pointer (some ⟨w6.heap.size, r * 4, none⟩))).run Tryz.prog (w6.alloc (.cells (eightC a b q (64 + (o : Int))) 89)) = .ok (.agg (insC x)) (w6.alloc (.cells (eightC a b q (64 + (o : Int))) 89)) ∧ (appIns #[.slice p i c, .slice (some ⟨w6.heap.size + 1, 0, none⟩) 1 1]).run Tryz.prog ((w6.alloc (.cells (eightC a b q (64 + (o : Int))) 89)).alloc (.cells (insC x) 89)) = .ok (.slice p2 (i + 1) c2) w8 ∧ Hid (∃ l : List CodeLaw.Ins, l.length = i + 1 ∧ InsO w1.heap.size w8 (.slice p2 (i + 1) c2) l ∧ ∀ x ∈ l, BodyOk x) ∧ Hid (Below w1.heap.size w1 w8)) := Lib.hid fun q r q0 q5 hr => by
          obtain ⟨x, hx, hld⟩ := ld8 w6 a b q (64 + (o : Int)) hr
          obtain ⟨l, hl, hio, hbo⟩ := HR.out
          have hal := Go.Joins.below_alloc1 w6 (.cells (eightC a b q (64 + (o : Int))) 89)
          have hbx := body_of HAB.out HO.out q0 q5 hx
          have hsz := HB.out.size
          obtain ⟨p2, c2, w8, hap, hio2, hb2⟩ := InsO.push (B := w1.heap.size) (owns_keep hio hal) (Nat.le_trans hsz hal.size) x (by have := HI.out; have := HM.out; omega)
          rw [size_alloc1, hl] at hap
          rw [hl] at hio2
          exact ⟨x, p2, c2, w8, hbx, hld, hap, Lib.hid ⟨l ++ [x], by simp [hl], hio2, fun y hy => by
            rcases List.mem_append.1 hy with hy | hy
            · exact hbo y hy
            · have e : y = x := by simpa using hy
              rw [e]; exact hbx⟩, Lib.hid ((HB.out.trans (hal.mono hsz)).trans hb2)⟩
        go_upto_region 8 with (go_at_call 6; refine (rest2_is _ _ (by decide) (by decide)).mono ?_; rintro e1 w7 ⟨r, hr, rfl, rfl⟩; first | (have hmark := hrq; obtain ⟨x8, p2, c2, w8, hx8, hld, hap, HR8, HB8⟩ := HL2.out r (by omega) (by omega) (by omega); simp only [eightC, insC] at hld hap; have hr8 : (r : Int) < 8 := hr; have hr0 : 0 ≤ (r : Int) := Int.natCast_nonneg r; clear HL HL2 HR) | (have hrq := hr; clear hr; have HL2 := Lib.hid (HL.out ((r : Int) - 500))))
        go_wp2_with fail
        go_roundw
        case rel => exact ⟨i + 1, p2, c2, HI.out, by go_num, rfl, HR8, HB8⟩
        case measure => have := HI.out; simp [intOf]; omega
      · obtain rfl : i = m := by omega
        obtain ⟨l, hl, hio, hbo⟩ := HR.out
        obtain ⟨p2, c2, w8, hap, hio2, hb2⟩ := InsO.push hio HB.out.size ⟨19, 0, 0, -4 * (i : Int)⟩ (by have := HM.out; omega)
        have HP : Hid (PrgOk (l ++ [⟨19, 0, 0, -4 * (i : Int)⟩])) := Lib.hid ⟨l, by rw [hl], by have := HM.out; omega, hbo⟩
        have HIO := Lib.hid hio2
        have HB2 := Lib.hid (HB.out.trans hb2)
        have HL := Lib.hid hl
        rw [hl] at hap
        simp only [insC] at hap
        clear hl hio hbo hio2 hb2
        go_wp2_with fail
        go_ret
        obtain ⟨b, cap, e, h1, h2, h3⟩ := HIO.out.ins (by simp)
        rw [HL.out] at e
        have e2 : (l ++ [(⟨19, 0, 0, -4 * (i : Int)⟩ : CodeLaw.Ins)]).length = i + 1 := by rw [List.length_append, HL.out]; rfl
        rw [e2] at e
        refine ⟨b, cap, _, ?_, HP.out, ?_, h2, h3, HB2.out⟩
        · rw [e2, ← e]; rfl
        · rw [e2, ← e]; rw [HL.out] at h1; exact h1
end Go.Proofs.YtnbhohaphmilmaaGreatDoor
