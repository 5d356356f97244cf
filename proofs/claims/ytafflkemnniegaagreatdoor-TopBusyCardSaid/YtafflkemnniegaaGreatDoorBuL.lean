/- The kernel while processes come, end and sleep: its state, and what each call makes of it. No walk here. The kernel while processes go round: steps and ticks. No walk here. The kernel while processes come, end and sleep: each call, and the clock's tick, and a processor's step. No walk here. -/
import Derived.Test.YtafflkemnniegaaGreatDoorBuA
import Derived.Test.YtafflkemnniegaaGreatDoorBuJ
import Derived.Test.YtafflkemnniegaaGreatDoorSlJ
import Derived.Test.YtafflkemnniegaaGreatDoorKerSt
namespace Go.Proofs.YtafflkemnniegaaGreatDoor
open Go.RowKit
set_option linter.unusedVariables false
set_option linter.unusedSimpArgs false
/-- a process that lives: till when it sleeps, its space -/
structure Pz (s : KSt) (U : Nat → Option Nat) (p n now sp : Nat) : Prop where
  p1 : 1 ≤ p
  p16 : p ≤ 16
  lv : (s.t p).st = 1
  pr : p ≠ 1 → ∃ q m : Nat, (s.t p).par = q ∧ U q = some m ∧ q ≠ p
  sg : ∀ j, j < 18 → s.c (8 + p * 38 + 19 + j) = .int .i64 0
  sl : s.c (8 + p * 38 + 37) = .bool (decide (now < n))
  rg : ∃ g : CpuLaw.G, RegsAt s.c (8 + p * 38 + 1) g ∧ (g.pc = 0 ∨ g.pc = 4)
  sc : s.c (8 + p * 38) = .int .i64 sp
  s1 : 1 ≤ sp
  s16 : sp ≤ 16
  one : ∀ j, j < 38 → (s.c (8 + p * 38 + j)).oneCell' = true
  mo : s.c (8 + p * 38 + 13) = .slice none 0 0 ∨ ∃ b, s.c (8 + p * 38 + 13) = .slice (some ⟨b, 0, none⟩) 0 0
  mt : s.c (8 + p * 38 + 18) = .slice none 0 0
  cw : ∃ b, s.cw p = some b
theorem regs_one {c : Nat → Value} {o : Nat} {g : CpuLaw.G} (h : RegsAt c o g) {j : Nat} (hj : j < 10) : (c (o + j)).oneCell' = true := by
  rw [h j hj]
  have h1 := CpuLaw.cellsA_one g
  rw [Array.all_eq_true] at h1
  have hs : (CpuLaw.cellsA g).size = 10 := rfl
  rw [Array.getElem?_eq_getElem (by rw [hs]; exact hj)]
  exact h1 j (by rw [hs]; exact hj)
section
variable {s s' : KSt} {U U' : Nat → Option Nat} {p n n' now now' sp : Nat}
theorem Pz.turn (h : Pz s U p n now sp) (hc : ∀ j, j < 37 → (j < 1 ∨ 11 ≤ j) → s'.c (8 + p * 38 + j) = s.c (8 + p * 38 + j)) (hrg : ∃ g : CpuLaw.G, RegsAt s'.c (8 + p * 38 + 1) g ∧ (g.pc = 0 ∨ g.pc = 4)) (hsl : s'.c (8 + p * 38 + 37) = .bool (decide (now' < n'))) (hcw : s'.cw p = s.cw p) (hlv : (s'.t p).st = 1) (hpr : p ≠ 1 → ∃ q m : Nat, (s'.t p).par = q ∧ U' q = some m ∧ q ≠ p) : Pz s' U' p n' now' sp := by
  refine ⟨h.p1, h.p16, hlv, hpr, fun j hj => ?_, hsl, hrg, ?_, h.s1, h.s16, fun j hj => ?_, ?_, ?_, ?_⟩
  · have := hc (19 + j) (by omega) (.inr (by omega))
    rw [← Nat.add_assoc] at this
    rw [this]
    exact h.sg j hj
  · have := hc 0 (by decide) (.inl (by decide))
    rw [Nat.add_zero] at this
    rw [this]
    exact h.sc
  · by_cases e : j = 37
    · subst e; rw [hsl]; rfl
    · by_cases q : j < 1 ∨ 11 ≤ j
      · rw [hc j (by omega) q]; exact h.one j hj
      · obtain ⟨g, hg, -⟩ := hrg
        have := regs_one hg (j := j - 1) (by omega)
        rw [show 8 + p * 38 + 1 + (j - 1) = 8 + p * 38 + j by omega] at this
        exact this
  · rw [hc 13 (by decide) (.inr (by decide))]; exact h.mo
  · rw [hc 18 (by decide) (.inr (by decide))]; exact h.mt
  · rw [hcw]; exact h.cw
theorem Pz.move (h : Pz s U p n now sp) (hc : ∀ j, j < 37 → s'.c (8 + p * 38 + j) = s.c (8 + p * 38 + j)) (hsl : s'.c (8 + p * 38 + 37) = .bool (decide (now' < n'))) (hcw : s'.cw p = s.cw p) (hlv : (s'.t p).st = 1) (hpr : p ≠ 1 → ∃ q m : Nat, (s'.t p).par = q ∧ U' q = some m ∧ q ≠ p) : Pz s' U' p n' now' sp := by
  refine h.turn (fun j hj _ => hc j hj) ?_ hsl hcw hlv hpr
  obtain ⟨g, hg, hpc⟩ := h.rg
  refine ⟨g, fun j hj => ?_, hpc⟩
  have := hc (1 + j) (by omega)
  rw [← Nat.add_assoc] at this
  rw [this]
  exact hg j hj
theorem Pz.aw (h : Pz s U p n now sp) (hn : n ≤ now) : Awake s p := ⟨h.p1, h.p16, h.lv, by rw [h.sl, decide_eq_false (by omega)], h.sg⟩
end
/-- the memory: all spaces name the same pages -/
structure Mz (m : MS) (U : Nat → Option Nat) (sp : Nat → Nat) (r : Nat) : Prop where
  S : ∀ p n, U p = some n → ∃ b, m.S (sp p) = some b
  S1 : ∀ (x : Nat) b, 1 ≤ x → m.S x = some b → ∃ p n : Nat, U p = some n ∧ p < 17 ∧ x = sp p
  sp1 : ∀ p n, U p = some n → 1 ≤ sp p
  inj : ∀ p q n m : Nat, U p = some n → U q = some m → sp p = sp q → p = q
  F0 : ∃ F0, Lone F0 ∧ (∀ k g r, F0 k = some (g, r) → g ∈ m.pl ∧ m.u g = (cntU U : Nat)) ∧ ∀ (x : Nat) b, 1 ≤ x → m.S x = some b → m.F b = F0
  nF : ∀ (x : Nat) b, 1 ≤ x → m.S x = some b → m.nF b ≤ 10
  wd : ∀ (x : Nat) b, 1 ≤ x → m.S x = some b → CpuLaw.WordAt m b 0 y0 ∧ CpuLaw.WordAt m b 4 y1
  len : m.pl.length ≤ 5
  nS : m.nS ≤ r + 1
section
variable {m m' : MS} {U : Nat → Option Nat} {sp : Nat → Nat} {r : Nat}
theorem Mz.more (h : Mz m U sp r) : Mz m U sp (r + 1) := ⟨h.S, h.S1, h.sp1, h.inj, h.F0, h.nF, h.wd, h.len, by have := h.nS; omega⟩
theorem Mz.held (h : Mz m U sp r) (h' : Nat → Bool) : Mz { m with h := h' } U sp r := by
  obtain ⟨F0, f1, f2, f3⟩ := h.F0
  refine ⟨h.S, h.S1, h.sp1, h.inj, ⟨F0, f1, f2, f3⟩, h.nF, fun x b x1 hx => ?_, h.len, h.nS⟩
  obtain ⟨w0, w1⟩ := h.wd x b x1 hx
  exact ⟨word_keep w0 rfl (fun g hg => ⟨hg, rfl⟩), word_keep w1 rfl (fun g hg => ⟨hg, rfl⟩)⟩
/-- one sleeps, or wakes -/
theorem Mz.same {p n n' : Nat} (h : Mz m U sp r) (hp : U p = some n) : Mz m (fup U p (some n')) sp r := by
  have key : ∀ q j, fup U p (some n') q = some j → ∃ i, U q = some i := fun q j hq => by
    by_cases e : q = p
    · exact ⟨n, by rw [e, hp]⟩
    · rw [fup_off _ _ e] at hq; exact ⟨j, hq⟩
  have key2 : ∀ q j, U q = some j → ∃ i, fup U p (some n') q = some i := fun q j hq => by
    by_cases e : q = p
    · exact ⟨n', by rw [e, fup_same]⟩
    · exact ⟨j, by rw [fup_off _ _ e]; exact hq⟩
  obtain ⟨F0, f1, f2, f3⟩ := h.F0
  refine ⟨fun q j hq => ?_, fun x b x1 hx => ?_, fun q j hq => ?_, fun q q' j j' hq hq' => ?_, ⟨F0, f1, fun k g r e => ⟨(f2 k g r e).1, by rw [cntU_same hp]; exact (f2 k g r e).2⟩, f3⟩, h.nF, h.wd, h.len, h.nS⟩
  · obtain ⟨i, hi⟩ := key q j hq
    exact h.S q i hi
  · obtain ⟨q, j, h1, h2, h3⟩ := h.S1 x b x1 hx
    obtain ⟨i, hi⟩ := key2 q j h1
    exact ⟨q, i, hi, h2, h3⟩
  · obtain ⟨i, hi⟩ := key q j hq
    exact h.sp1 q i hi
  · obtain ⟨i, hi⟩ := key q j hq
    obtain ⟨i', hi'⟩ := key q' j' hq'
    exact h.inj q q' i i' hi hi'
/-- a space of all pages is there for a process that comes -/
theorem Mz.forked {b nb s1 s2 top : Nat} (h : Mz m U sp r) (hb : m.S s1 = some b) (hs1 : 1 ≤ s1) (hs2 : 1 ≤ s2) (hf : Forked m m' s1 s2 b nb) (hnb : ∀ x, m.S x ≠ some nb) (h0 : m.S s2 = none) (ht : U top = none) (ht17 : top < 17) : Mz m' (fup U top (some 0)) (fup sp top s2) (r + 1) := by
  obtain ⟨F0, f1, f2, f3⟩ := h.F0
  have hbn : b ≠ nb := fun e => hnb s1 (by rw [hb, e])
  have hpl : ∀ g, g ∈ m.pl → g ∈ m'.pl ∧ m'.d g = m.d g := fun g hg => ⟨by rw [hf.pl]; exact hg, by rw [hf.d]⟩
  have hS : ∀ (x : Nat) b', m'.S x = some b' → (x = s2 ∧ b' = nb) ∨ (m.S x = some b' ∧ b' ≠ nb) := fun x b' e => by
    rw [hf.S] at e
    by_cases q : (x : Int) = s2
    · simp only [if_pos q] at e
      injection e with e
      exact .inl ⟨by omega, e.symm⟩
    · simp only [if_neg q] at e
      exact .inr ⟨e, fun e2 => hnb x (by rw [e, e2])⟩
  have hFb : ∀ (x : Nat) b', m.S x = some b' → m'.F b' = m.F b' := fun x b' e => by rw [hf.F, fup_off _ _ (fun e2 => hnb x (by rw [e, e2]))]
  have hFn : m'.F nb = m.F b := by rw [hf.F, fup_same]
  refine ⟨fun p n hp => ?_, fun x b' x1 hx => ?_, fun p n hp => ?_, fun p q n n' hp hq e => ?_, ⟨F0, f1, fun k g r' e => ?_, fun x b' x1 hx => ?_⟩, fun x b' x1 hx => ?_, fun x b' x1 hx => ?_, by rw [hf.pl]; exact h.len, by rw [hf.nS]; have := h.nS; omega⟩
  · by_cases e : p = top
    · subst e
      exact ⟨nb, by rw [fup_same, hf.S]; exact if_pos rfl⟩
    · rw [fup_off _ _ e] at hp
      rw [fup_off _ _ e]
      obtain ⟨b', hb'⟩ := h.S p n hp
      refine ⟨b', ?_⟩
      rw [hf.S]
      show (if ((sp p : Nat) : Int) = ((s2 : Nat) : Int) then _ else _) = _
      rw [if_neg (fun q => by rw [q, h0] at hb'; cases hb')]
      exact hb'
  · rcases hS x b' hx with ⟨rfl, -⟩ | ⟨q, -⟩
    · exact ⟨top, 0, fup_same _ _ _, ht17, by rw [fup_same]⟩
    · obtain ⟨p, n, h1, h2, h3⟩ := h.S1 x b' x1 q
      have : p ≠ top := fun e => by rw [e, ht] at h1; cases h1
      exact ⟨p, n, by rw [fup_off _ _ this]; exact h1, h2, by rw [fup_off _ _ this]; exact h3⟩
  · by_cases e : p = top
    · rw [e, fup_same]; exact hs2
    · rw [fup_off _ _ e] at hp ⊢
      exact h.sp1 p n hp
  · have key : ∀ p n, p ≠ top → fup U top (some 0) p = some n → fup sp top s2 p = sp p ∧ U p = some n ∧ sp p ≠ s2 := fun p n hne hp => by
      rw [fup_off _ _ hne] at hp
      obtain ⟨b', hb'⟩ := h.S p n hp
      exact ⟨fup_off _ _ hne, hp, fun q => by rw [q, h0] at hb'; cases hb'⟩
    by_cases e1 : p = top
    · by_cases e2 : q = top
      · rw [e1, e2]
      · obtain ⟨a1, a2, a3⟩ := key q n' e2 hq
        rw [e1, fup_same, a1] at e
        exact absurd e.symm a3
    · obtain ⟨a1, a2, a3⟩ := key p n e1 hp
      by_cases e2 : q = top
      · rw [e2, fup_same, a1] at e
        exact absurd e a3
      · obtain ⟨b1, b2, b3⟩ := key q n' e2 hq
        rw [a1, b1] at e
        exact h.inj p q n n' a2 b2 e
  · obtain ⟨g1, g2⟩ := f2 k g r' e
    refine ⟨(hpl g g1).1, ?_⟩
    rw [hf.u0 g ⟨k, r', by rw [f3 s1 b hs1 hb]; exact e⟩, g2, cntU_put ht ht17]
    rfl
  · rcases hS x b' hx with ⟨-, rfl⟩ | ⟨q, -⟩
    · rw [hFn]; exact f3 s1 b hs1 hb
    · rw [hFb x b' q]; exact f3 x b' x1 q
  · rcases hS x b' hx with ⟨-, rfl⟩ | ⟨q, q2⟩
    · exact Nat.le_trans hf.nFn (h.nF s1 b hs1 hb)
    · rw [hf.nF b' q2]; exact h.nF x b' x1 q
  · rcases hS x b' hx with ⟨-, rfl⟩ | ⟨q, -⟩
    · obtain ⟨w0, w1⟩ := h.wd s1 b hs1 hb
      exact ⟨word_move w0 hFn hpl, word_move w1 hFn hpl⟩
    · obtain ⟨w0, w1⟩ := h.wd x b' x1 q
      exact ⟨word_move w0 (hFb x b' q) hpl, word_move w1 (hFb x b' q) hpl⟩
/-- a space is dropped -/
theorem Mz.dropped {p n : Nat} {b : Nat} {u' : Nat → Int} (h : Mz m U sp r) (hp : U p = some n) (h17 : p < 17) (hb : m.S (sp p) = some b) (hu : ∀ g, (∃ k r, m.F b k = some (g, r)) → u' g = m.u g - 1) : Mz (m.shared u' (sp p)) (fup U p none) sp r := by
  obtain ⟨F0, f1, f2, f3⟩ := h.F0
  have hS : ∀ (x : Nat) b', (m.shared u' (sp p)).S x = some b' → (x : Int) ≠ (sp p : Int) ∧ m.S x = some b' := fun x b' e => by
    have e : (if (x : Int) = (sp p : Int) then none else m.S x) = some b' := e
    by_cases q : (x : Int) = (sp p : Int)
    · rw [if_pos q] at e; cases e
    · rw [if_neg q] at e; exact ⟨q, e⟩
  have hU : ∀ q j, fup U p none q = some j → q ≠ p ∧ U q = some j := fun q j hq => by
    by_cases e : q = p
    · subst e; rw [fup_same] at hq; cases hq
    · rw [fup_off _ _ e] at hq; exact ⟨e, hq⟩
  refine ⟨fun q j hq => ?_, fun x b' x1 hx => ?_, fun q j hq => h.sp1 q j (hU q j hq).2, fun q q' j j' hq hq' e => h.inj q q' j j' (hU q j hq).2 (hU q' j' hq').2 e, ⟨F0, f1, fun k g r' e => ?_, fun x b' x1 hx => f3 x b' x1 (hS x b' hx).2⟩, fun x b' x1 hx => h.nF x b' x1 (hS x b' hx).2, fun x b' x1 hx => ?_, h.len, h.nS⟩
  · obtain ⟨hne, hq⟩ := hU q j hq
    obtain ⟨b', hb'⟩ := h.S q j hq
    refine ⟨b', ?_⟩
    show (if ((sp q : Nat) : Int) = ((sp p : Nat) : Int) then none else m.S (sp q)) = _
    rw [if_neg (fun e => hne (h.inj q p j n hq hp (by omega)))]
    exact hb'
  · obtain ⟨hne, hx⟩ := hS x b' hx
    obtain ⟨q, j, h1, h2, h3⟩ := h.S1 x b' x1 hx
    have : q ≠ p := fun e => hne (by rw [h3, e])
    exact ⟨q, j, by rw [fup_off _ _ this]; exact h1, h2, h3⟩
  · obtain ⟨g1, g2⟩ := f2 k g r' e
    refine ⟨g1, ?_⟩
    show u' g = _
    rw [hu g ⟨k, r', by rw [f3 _ b (h.sp1 p n hp) hb]; exact e⟩, g2, cntU_del hp h17]
    omega
  · obtain ⟨w0, w1⟩ := h.wd x b' x1 (hS x b' hx).2
    exact ⟨word_keep w0 rfl (fun g hg => ⟨hg, rfl⟩), word_keep w1 rfl (fun g hg => ⟨hg, rfl⟩)⟩
end
end Go.Proofs.YtafflkemnniegaaGreatDoor
namespace Go.Proofs.YtafflkemnniegaaGreatDoor
open Go.RowKit
set_option linter.unusedVariables false
set_option linter.unusedSimpArgs false
theorem Mp.held {m : MS} {N : Nat} (h : Mp m N) (h' : Nat → Bool) : Mp { m with h := h' } N := by
  obtain ⟨b, hb, ho, hn⟩ := h.one
  refine ⟨fun p p1 p2 => ?_, h.S0, h.nS, h.len, ⟨b, hb, ⟨ho.lone, ho.pg, ho.nF, word_keep ho.w0 rfl (fun g hg => ⟨hg, rfl⟩), word_keep ho.w1 rfl (fun g hg => ⟨hg, rfl⟩)⟩, hn⟩⟩
  obtain ⟨b, q1, q2, q3⟩ := h.S p p1 p2
  exact ⟨b, q1, word_keep q2 rfl (fun g hg => ⟨hg, rfl⟩), word_keep q3 rfl (fun g hg => ⟨hg, rfl⟩)⟩
/-- the kernel behind r rounds -/
structure Rn (s : KSt) (nc n r : Nat) (mm : Nat → Nat) : Prop where
  cp : s.nc = nc
  c0 : s.c 0 = .int .i64 nc
  c9 : s.c 654 = .int .u32 r
  wv : s.wv = .slice none 0 0
  wl : s.wl = []
  wn0 : 0 ≤ s.wn
  wn1 : s.wn ≤ r
  t0 : 0 ≤ s.tk
  t1 : s.tk ≤ r * 4
  l : s.l = ticked nc n r
  fr : s.fr = 48
  ps : ∀ p, 1 ≤ p → p ≤ n + 1 → Go1 s p (mm p)
  mp : Mp s.m (n + 1)
theorem Ks.rn {s : KSt} {nc n : Nat} (h : Ks s nc (n + 1)) (hm : Mp s.m (n + 1)) : Rn s nc n 0 (had nc n 0) :=
  ⟨h.cp, h.c0, h.c9, h.wv, h.wl, by rw [h.wn]; decide, by rw [h.wn]; decide, by rw [h.tk]; decide, by rw [h.tk]; decide, h.l, h.fr, h.ps, hm⟩
section
variable {w : World} {k : KC} {s : KSt} {nc n r : Nat} {mm : Nat → Nat}
theorem Rn.turned (h : Rn s nc n r mm) {p : Nat} (p1 : 1 ≤ p) (p2 : p ≤ n + 1) (h15 : n < 15) (h' : Nat → Bool) (tag' : Nat → Nat) : Rn { s with c := putRg s.c (8 + p * 38 + 1) (gOf (mm p + 1)), m := { s.m with h := h' }, tag := tag' } nc n r (fun q : Nat => if (q : Int) = (p : Int) then mm q + 1 else mm q) := by
  have hout : ∀ j, (j < 8 + p * 38 + 1 ∨ 8 + p * 38 + 11 ≤ j) → putRg s.c (8 + p * 38 + 1) (gOf (mm p + 1)) j = s.c j := fun j hj => by unfold putRg; rw [if_neg (by omega)]
  refine ⟨h.cp, (hout 0 (by omega)).trans h.c0, (hout 654 (by omega)).trans h.c9, h.wv, h.wl, h.wn0, h.wn1, h.t0, h.t1, h.l, h.fr, fun q q1 q2 => ?_, h.mp.held h'⟩
  have g := h.ps q q1 q2
  refine ⟨⟨q1, g.aw.p16, g.aw.lv, (hout _ (by omega)).trans g.aw.sl, fun j hj => (hout _ (by omega)).trans (g.aw.sg j hj)⟩, fun j hj => ?_, (hout _ (by omega)).trans g.sp⟩
  by_cases e : q = p
  · subst e
    show putRg s.c (8 + q * 38 + 1) (gOf (mm q + 1)) (8 + q * 38 + 1 + j) = _
    unfold putRg
    rw [if_pos (by omega), if_pos rfl, show 8 + q * 38 + 1 + j - (8 + q * 38 + 1) = j by omega]
  · rw [if_neg (by omega)]
    exact (hout _ (by omega)).trans (g.rg j hj)
/-- a processor's step -/
theorem step_is (h : KT w k s) (hr : Rn s nc n r mm) (n1 : 1 ≤ nc) (n4 : nc ≤ 4) (hn : n < 6) (hr2 : r < 4 * (n + 1)) {c : Nat} (hc : c < nc) :
    Calls Tryz.prog 8 #[.pointer (some ⟨k.K, 0, none⟩), .int .i64 c] w fun e w' => (∃ pv tv : Int, (tv = 0 ∨ (tv = 5 ∧ pv = 0)) ∧ e = .returned (.tuple #[.int .i64 pv, .agg #[.int .i64 tv, .int .u32 0]])) ∧ ∃ s', KG s k w w' s' ∧ Rn s' nc n r (stepN (ticked nc n r) mm c) := by
  have hc' : c < s.nc := by rw [hr.cp]; exact hc
  cases ho : onG s.l c with
  | none =>
    refine (kstep_no h hc' ho).mono ?_
    rintro e w' ⟨rfl, hb⟩
    refine ⟨⟨0, 5, .inr ⟨rfl, rfl⟩, rfl⟩, s, h.start.keep hb, ?_⟩
    rw [hr.l] at ho
    unfold stepN
    rw [ho]
    exact hr
  | some i =>
    obtain ⟨x, hx, -⟩ := onG_some ho
    obtain ⟨p, hp, p1, p2⟩ := on_ok n1 n4 hn hr2 hc (by rw [← hr.l]; exact ho) (by rw [← hr.l]; exact hx)
    have g := hr.ps p p1 p2
    obtain ⟨b, hb, w0, w1⟩ := hr.mp.S p p1 p2
    have hlen : (s.m.pl.length : Int) ≤ s.fr := by rw [hr.fr]; have := hr.mp.len; omega
    have hst : stepN (ticked nc n r) mm c = fun q : Nat => if (q : Int) = (p : Int) then mm q + 1 else mm q := by
      rw [hr.l] at ho hx
      unfold stepN
      rw [ho]
      simp only [hx]
      rw [hp]
    rw [hst]
    by_cases hm : mm p % 2 = 0
    · have hpc : (gOf (mm p)).pc = 0 := if_pos hm
      refine (kstep_yes h hc' ho hx hp (g := gOf (mm p)) (s1 := p) (b := b) (y := y0) (op := 14) (A := 1) (B := 1) (C := 1) ⟨g.aw, g.rg, g.sp, wf_small (by omega), hb, hlen, by rw [hpc]; exact w0, dec_y0, by decide, by decide, .inl rfl⟩).mono ?_
      rintro e w' ⟨rfl, h', tag', hg⟩
      rw [gOf_even hm] at hg
      exact ⟨⟨p, 0, .inl rfl, rfl⟩, _, hg, hr.turned p1 p2 (by omega) h' tag'⟩
    · have hpc : (gOf (mm p)).pc = 4 := if_neg hm
      refine (kstep_yes h hc' ho hx hp (g := gOf (mm p)) (s1 := p) (b := b) (y := y1) (op := 19) (A := 0) (B := 0) (C := -4) ⟨g.aw, g.rg, g.sp, wf_small (by omega), hb, hlen, by rw [hpc]; exact w1, dec_y1, by decide, by decide, .inr rfl⟩).mono ?_
      rintro e w' ⟨rfl, h', tag', hg⟩
      rw [gOf_odd hm] at hg
      exact ⟨⟨p, 0, .inl rfl, rfl⟩, _, hg, hr.turned p1 p2 (by omega) h' tag'⟩
/-- the clock's tick -/
theorem tick_is (h : KT w k s) (hr : Rn s nc n r mm) (n1 : 1 ≤ nc) (n4 : nc ≤ 4) (hn : n < 6) (hr2 : r < 4 * (n + 1)) :
    Calls Tryz.prog 7 #[.pointer (some ⟨k.K, 0, none⟩)] w fun e w' => e = .returned (.tuple #[]) ∧ ∃ s', KG s k w w' s' ∧ Rn s' nc n (r + 1) mm := by
  refine (ktick_is h (nw := r) (b := (r : Int) * 419428) ⟨by rw [hr.cp]; exact hr.c0, hr.c9, hr.wv, hr.wl, hr.wn0, hr.wn1, by omega, hr.t0, by have := hr.t1; omega, by rw [hr.l]; exact ticked_ok n1 n4 hn r, by omega⟩).mono ?_
  rintro e w' ⟨rfl, tag', hg⟩
  have hout : ∀ j, j ≠ 654 → upV s.c 654 (.int .u32 ((r : Int) + 1)) j = s.c j := fun j hj => if_neg hj
  refine ⟨rfl, _, hg, ⟨hr.cp, (hout 0 (by decide)).trans hr.c0, ?_, hr.wv, hr.wl, by show 0 ≤ (r : Int) + 1; omega, by show (r : Int) + 1 ≤ ((r + 1 : Nat) : Int); omega, by show 0 ≤ s.tk + s.nc; have := hr.t0; omega, ?_, ?_, hr.fr, fun q q1 q2 => ?_, hr.mp⟩⟩
  · show upV s.c 654 (.int .u32 ((r : Int) + 1)) 654 = .int .u32 ((r + 1 : Nat) : Int)
    unfold upV
    rw [if_pos rfl]
    rfl
  · show s.tk + s.nc ≤ ((r + 1 : Nat) : Int) * 4
    have := hr.t1
    rw [hr.cp]
    push_cast
    omega
  · show tickAll s.l s.nc s.nc = _
    rw [hr.l, hr.cp]
    rfl
  · have g := hr.ps q q1 q2
    exact ⟨⟨q1, g.aw.p16, g.aw.lv, (hout _ (by omega)).trans g.aw.sl, fun j hj => (hout _ (by omega)).trans (g.aw.sg j hj)⟩, fun j hj => (hout _ (by omega)).trans (g.rg j hj), (hout _ (by omega)).trans g.sp⟩
end
end Go.Proofs.YtafflkemnniegaaGreatDoor
namespace Go.Proofs.YtafflkemnniegaaGreatDoor
open Go.RowKit
set_option linter.unusedVariables false
set_option linter.unusedSimpArgs false
/-- the kernel behind r plays: U tells of each that lives till when it sleeps, sp its space; top: the next number -/
structure Bz (s : KSt) (nc now r top : Nat) (U : Nat → Option Nat) (sp : Nat → Nat) : Prop where
  cp : s.nc = nc
  c0 : s.c 0 = .int .i64 nc
  c9 : s.c 654 = .int .u32 now
  wn0 : 0 ≤ s.wn
  wn1 : s.wn ≤ now
  tk0 : 0 ≤ s.tk
  tk1 : s.tk ≤ now * 4
  fr : s.fr = 48
  full : Full nc s.l
  lm : LM s.l (rdy U now)
  vok : VOk ((now : Int) * 419428) s.l
  ll : s.l.length ≤ r + 1
  wl : WL s.wl U now
  wll : s.wl.length ≤ r
  u1 : ∃ n, U 1 = some n
  ur : ∀ p n, U p = some n → 1 ≤ p ∧ p < top ∧ n ≤ now + 5
  dead : ∀ p, 1 ≤ p → p < top → U p = none → 2 ≤ p ∧ p ≤ 6
  top17 : top ≤ 17
  t1 : ∀ p, 1 ≤ p → p < top → (s.t p).st ≠ 0
  t0 : ∀ p, top ≤ p → (s.t p).st = 0
  ps : ∀ p n, U p = some n → Pz s U p n now (sp p)
  cwn : ∀ p, U p = none → s.cw p = none
  fd : ∀ i, s.fd i = 0
  fs : ∀ k, k < 32 → 0 ≤ (s.fs k).n ∧ (s.fs k).n ≤ 200
  mz : Mz s.m U sp r
section
variable {w : World} {k : KC} {s : KSt} {nc now r top p n : Nat} {U : Nat → Option Nat} {sp : Nat → Nat}
theorem Bz.at (h : Bz s nc now r top U sp) (hp : U p = some n) (hn : n ≤ now) : ∃ i x, idG s.l p = some i ∧ s.l[i]? = some x ∧ x.t = (p : Int) ∧ x.rd = true := by
  have : rdy U now p = some true := by unfold rdy; rw [hp]; simp [hn]
  exact h.lm.yes this
theorem Bz.top0 (h : Bz s nc now r top U sp) (hp : top ≤ p) : U p = none := by
  cases e : U p with
  | none => rfl
  | some n => have := h.ur p n e; omega
/-- as many processors have work as there are processes that do not sleep, or all -/
theorem Bz.busy (h : Bz s nc now r top U sp) : busyN s.l nc = min nc (cntB (fun p => rdy U now p == some true) 17) := by
  rw [h.full.busy, h.lm.count h.full.toPre (n := 17) (fun p hp => by
    cases e : U p with
    | none => exact absurd (show rdy U now p = none by unfold rdy; rw [e]; rfl) hp
    | some n => have := h.ur p n e; have := h.top17; omega)]
theorem wf_any {N : Nat} (h : N < 1000000) : (Lit.int .i64 (N : Nat)).wf = true := by
  have h1 : IntKind.i64.min = -9223372036854775808 := by decide
  have h2 : IntKind.i64.max = 9223372036854775807 := by decide
  simp only [Lit.wf, h1, h2, Bool.and_eq_true, decide_eq_true_eq]
  omega
/-- a process forks -/
theorem fork_bz (h : KT w k s) (hb : Bz s nc now r top U sp) (hp : U p = some n) (hn : n ≤ now) (hc : cntU U < 6) (hr : r < 90) :
    Calls Tryz.prog 6 #[.pointer (some ⟨k.K, 0, none⟩), .int .i64 p, .agg (callT 2)] w fun e w' => e = .returned (.agg (ansV 0 (top : Nat) 0 (.slice none 0 0))) ∧ ∃ s' s2, KG s k w w' s' ∧ Bz s' nc now (r + 1) (top + 1) (fup U top (some 0)) (fup sp top s2) := by
  have P := hb.ps p n hp
  have htop : top ≤ 11 := by have := cntU_top hb.dead hb.top17; omega
  obtain ⟨p1, ptop, -⟩ := hb.ur p n hp
  have hU0 := hb.top0 (Nat.le_refl top)
  obtain ⟨b, hSb⟩ := hb.mz.S p n hp
  obtain ⟨s2, q1, q16, q0, qb⟩ := space_free (U := U) (sp := sp) (S := s.m.S) hb.mz.S1 hb.mz.inj (fun p n e => ⟨(hb.ps p n e).s1, (hb.ps p n e).s16⟩) (by omega)
  obtain ⟨F0, f1, f2, f3⟩ := hb.mz.F0
  obtain ⟨bw, hcw⟩ := P.cw
  have hlt : ∀ x : Int, s.m.S x ≠ some w.heap.size := fun x e => by
    have := h.me.lt (k := w.heap.size) (.inr (.inr (.inr (.inl ⟨x, e⟩))))
    omega
  refine (ask_any h (P.aw hn) (.inr rfl) (P := fun s' e a b => e = 0 ∧ a = (top : Nat) ∧ b = 0 ∧ ∃ s2, Bz s' nc now (r + 1) (top + 1) (fup U top (some 0)) (fup sp top s2)) (fun ok => proc_fork (by omega) (by have := P.p16; omega) ok rfl rfl (kforkC_is (p := p) (c := top) (s1 := (sp p : Nat)) (b := b) (s2 := s2) h ⟨p1, P.p16, P.lv⟩ P.one P.sc ⟨hSb, wf_any (by have := P.s16; omega), q1, q16, q0, qb, by have := hb.mz.nS; omega, by rw [f3 _ b P.s1 hSb]; exact f1, fun k g r e => ?_, by have := hb.mz.nF _ b P.s1 hSb; omega⟩ (by omega) (by omega) (hb.t0 top (Nat.le_refl _)) (fun j j1 j2 => hb.t1 j j1 j2) rfl P.mo hcw P.mt P.sg (hb.cwn top hU0) (hb.lm.no (by unfold rdy; rw [hU0]; rfl)) (by have := hb.ll; omega) (by omega) (fun i _ => hb.fd _) hb.fs ?_))).mono ?_
  · rw [f3 _ b P.s1 hSb] at e
    obtain ⟨g1, g2⟩ := f2 k g r e
    exact ⟨g1, by rw [g2]; omega, by rw [g2]; omega⟩
  · intro m' nb c' tag' ad' cap' gg hnb hf hco h0 hsg hsl hrg hr0 hon h13 h18
    have hnbS : ∀ x : Int, s.m.S x ≠ some nb := fun x e => by
      have := h.me.lt (k := nb) (.inr (.inr (.inr (.inl ⟨x, e⟩))))
      omega
    have hlive : ∀ q, q ≠ top → (ProcLaw.forked s.t top p q) = s.t q := fun q hq => by unfold ProcLaw.forked; exact ProcLaw.updE_other _ _ hq
    refine ⟨rfl, rfl, rfl, s2, ⟨hb.cp, (hco 0 (by omega)).trans hb.c0, (hco 654 (by omega)).trans hb.c9, hb.wn0, hb.wn1, hb.tk0, hb.tk1, hb.fr, ?_, ?_, ?_, ?_, hb.wl.other (fun n e => by rw [hU0] at e; cases e) (fun n e => by injection e with e; omega), by have := hb.wll; show s.wl.length ≤ r + 1; omega, ?_, fun q j hq => ?_, fun q a1 a2 a3 => ?_, by omega, fun q a1 a2 => ?_, fun q a1 => ?_, fun q j hq => ?_, fun q hq => ?_, fun i => ?_, ?_, hb.mz.forked hSb P.s1 q1 hf hnbS q0 hU0 (by omega)⟩⟩
    · show Full nc (enterL s.l top s.nc)
      rw [hb.cp]
      exact (enter_full hb.full.toPre hb.lm (by unfold rdy; rw [hU0]; rfl)).1
    · show LM (enterL s.l top s.nc) _
      rw [hb.cp, rdy_put, decide_eq_true (Nat.zero_le now)]
      exact (enter_full hb.full.toPre hb.lm (by unfold rdy; rw [hU0]; rfl)).2
    · exact hb.vok.enter (by omega) _ _
    · show (enterL s.l top s.nc).length ≤ r + 1 + 1
      unfold enterL
      rw [fillG_len, List.length_append]
      have := hb.ll
      simp
      omega
    · obtain ⟨n1, hn1⟩ := hb.u1
      exact ⟨n1, by rw [fup_off _ _ (by omega)]; exact hn1⟩
    · by_cases e : q = top
      · subst e
        rw [fup_same] at hq
        injection hq with hq
        omega
      · rw [fup_off _ _ e] at hq
        have := hb.ur q j hq
        omega
    · by_cases e : q = top
      · subst e; rw [fup_same] at a3; cases a3
      · rw [fup_off _ _ e] at a3
        exact hb.dead q a1 (by omega) a3
    · show (ProcLaw.forked s.t top p q).st ≠ 0
      by_cases e : q = top
      · subst e; unfold ProcLaw.forked; rw [ProcLaw.updE_same]; exact (by decide : (1 : Int) ≠ 0)
      · rw [hlive q e]; exact hb.t1 q a1 (by omega)
    · show (ProcLaw.forked s.t top p q).st = 0
      rw [hlive q (by omega)]
      exact hb.t0 q (by omega)
    · by_cases e : q = top
      · subst e
        rw [fup_same] at hq
        injection hq with hq
        subst hq
        rw [fup_same]
        refine ⟨by omega, by omega, by show (ProcLaw.forked s.t q p q).st = 1; unfold ProcLaw.forked; rw [ProcLaw.updE_same], fun _ => ⟨p, n, by show (ProcLaw.forked s.t q p q).par = p; unfold ProcLaw.forked; rw [ProcLaw.updE_same], by rw [fup_off _ _ (by omega)]; exact hp, by omega⟩, hsg, ?_, ?_, h0, q1, q16, hon, .inr h13, h18, ⟨gg, fup_same _ _ _⟩⟩
        · show c' _ = _
          rw [hsl, P.sl, decide_eq_false (by omega), decide_eq_false (by omega)]
        · obtain ⟨g, hg, hpc⟩ := P.rg
          refine ⟨⟨fun i => if i < 3 then 0 else g.r i, g.pc, g.ring⟩, fun j hj => ?_, hpc⟩
          show c' (8 + q * 38 + 1 + j) = _
          rw [Nat.add_assoc _ 1 j]
          rcases Nat.lt_or_ge j 3 with q3 | q3
          · rw [hr0 (1 + j) (by omega) (by omega)]
            have : j = 0 ∨ j = 1 ∨ j = 2 := by omega
            rcases this with rfl | rfl | rfl <;> rfl
          · rw [hrg (1 + j) (by omega) (by omega), ← Nat.add_assoc]
            have := hg j hj
            rw [this]
            have : j = 3 ∨ j = 4 ∨ j = 5 ∨ j = 6 ∨ j = 7 ∨ j = 8 ∨ j = 9 := by omega
            rcases this with rfl | rfl | rfl | rfl | rfl | rfl | rfl <;> rfl
      · rw [fup_off _ _ e] at hq
        rw [fup_off _ _ e]
        have Q := hb.ps q j hq
        have hqt := hb.ur q j hq
        refine Q.move (fun i hi => hco _ (by omega)) ((hco _ (by omega)).trans Q.sl) (fup_off _ _ e) (by show (ProcLaw.forked s.t top p q).st = 1; rw [hlive q e]; exact Q.lv) (fun q1' => ?_)
        obtain ⟨a, m, e1, e2, e3⟩ := Q.pr q1'
        refine ⟨a, m, by show (ProcLaw.forked s.t top p q).par = a; rw [hlive q e]; exact e1, ?_, e3⟩
        rw [fup_off _ _ (fun e4 => by rw [e4, hU0] at e2; cases e2)]
        exact e2
    · have : q ≠ top := fun e => by rw [e, fup_same] at hq; cases hq
      rw [fup_off _ _ this] at hq
      show fup s.cw top (some gg) q = none
      rw [fup_off _ _ this]
      exact hb.cwn q hq
    · show OpenLaw.cpD s.fd p top 8 i = 0
      rw [OpenLaw.cpD_at]
      split <;> exact hb.fd _
    · show ∀ k, k < 32 → 0 ≤ (OpenLaw.fkF s.fs (fun i => s.fd (p * 8 + i)) 8 k).n ∧ (OpenLaw.fkF s.fs (fun i => s.fd (p * 8 + i)) 8 k).n ≤ 200
      rw [fk0 _ _ _ (fun i => hb.fd _)]
      exact hb.fs
  · rintro e w' ⟨s', er, a, b', rfl, hg, rfl, rfl, rfl, s2, hB⟩
    exact ⟨rfl, s', s2, hg, hB⟩
end
end Go.Proofs.YtafflkemnniegaaGreatDoor
