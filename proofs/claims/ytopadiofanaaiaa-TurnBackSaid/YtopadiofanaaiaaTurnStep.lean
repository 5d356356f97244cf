/- The walk of turn.step. -/
import Derived.Test.YtopadiofanaaiaaTurnRev
import Derived.Deep.RegionHeld3
namespace Go.Proofs.Ytopadiofanaaiaa.TurnLaw
open Go.RowKit
set_option linter.unusedVariables false

def u32V (n : Nat) : Value := .int .u32 (n : Int)
abbrev U32S (w : World) (v : Value) (l : List Nat) : Prop := At u32V 0 w v l
abbrev U32Row (w : World) (base : Nat) (v : Value) (l : List Nat) : Prop := w.ownsRow base 33 1 v l.length (l.map u32V)
theorem u32S_of {w : World} {base : Nat} {v : Value} {l : List Nat} (h : U32Row w base v l) : U32S w v l := at_of_owned h

/-- what Play holds: the cells, the hands, where each program is; in three blocks -/
structure PS (B : Nat) (w0 w : World) (vc vh va : Value) (cs hs ats : List Nat) : Prop where
  bel : Below B w0 w
  size : B ≤ w.heap.size
  c : U32Row w B vc cs
  h : U32Row w B vh hs
  a : NatRow w B va ats
  ch : Apart vc vh
  ca : Apart vc va
  ha : Apart vh va
section
variable {B : Nat} {w0 w : World} {vc vh va : Value} {cs hs ats : List Nat}
theorem PS.alloc (p : PS B w0 w vc vh va cs hs ats) (o : Obj) : PS B w0 (w.alloc o) vc vh va cs hs ats :=
  ⟨p.bel.alloc p.size o, by have := p.size; simp; omega, p.c.alloc o, p.h.alloc o, p.a.alloc o, p.ch, p.ca, p.ha⟩
theorem PS.drew (p : PS B w0 w vc vh va cs hs ats) : PS B w0 w.drew vc vh va cs hs ats :=
  ⟨p.bel.drew, p.size, p.c.drew, p.h.drew, p.a.drew, p.ch, p.ca, p.ha⟩
theorem PS.setC {g cap : Nat} (p : PS B w0 w (.slice (some ⟨g, 0, none⟩) cs.length cap) vh va cs hs ats) (i x : Nat) : PS B w0 (w.setCell ⟨g, i, none⟩ (.int .u32 x)) (.slice (some ⟨g, 0, none⟩) cs.length cap) vh va (cs.set i x) hs ats := by
  have hst := p.c.stored i (u32V x)
  have h1 := kept_apart p.h hst.2 (v1 := .slice (some ⟨g, 0, none⟩) cs.length cap) (.inl rfl) p.ch
  have h2 := kept_apart p.a hst.2 (v1 := .slice (some ⟨g, 0, none⟩) cs.length cap) (.inl rfl) p.ca
  refine ⟨p.bel.setCell (p.c.lt g rfl).1 _, by have := p.size; simpa using this, ?_, h1.1, h2.1, p.ch, p.ca, p.ha⟩
  have := hst.1
  rw [show (cs.map u32V).set i (u32V x) = (cs.set i x).map u32V from by rw [List.map_set]] at this
  unfold U32Row
  rw [List.length_set]
  exact this
theorem PS.setH {g cap : Nat} (p : PS B w0 w vc (.slice (some ⟨g, 0, none⟩) hs.length cap) va cs hs ats) (i x : Nat) : PS B w0 (w.setCell ⟨g, i, none⟩ (.int .u32 x)) vc (.slice (some ⟨g, 0, none⟩) hs.length cap) va cs (hs.set i x) ats := by
  have hst := p.h.stored i (u32V x)
  have h1 := kept_apart p.c hst.2 (v1 := .slice (some ⟨g, 0, none⟩) hs.length cap) (.inl rfl) p.ch.symm
  have h2 := kept_apart p.a hst.2 (v1 := .slice (some ⟨g, 0, none⟩) hs.length cap) (.inl rfl) p.ha
  refine ⟨p.bel.setCell (p.h.lt g rfl).1 _, by have := p.size; simpa using this, h1.1, ?_, h2.1, p.ch, p.ca, p.ha⟩
  have := hst.1
  rw [show (hs.map u32V).set i (u32V x) = (hs.set i x).map u32V from by rw [List.map_set]] at this
  unfold U32Row
  rw [List.length_set]
  exact this
theorem PS.setA {g cap : Nat} (p : PS B w0 w vc vh (.slice (some ⟨g, 0, none⟩) ats.length cap) cs hs ats) (i x : Nat) : PS B w0 (w.setCell ⟨g, i, none⟩ (.int .i64 x)) vc vh (.slice (some ⟨g, 0, none⟩) ats.length cap) cs hs (ats.set i x) := by
  have hst := p.a.stored i (natV x)
  have h1 := kept_apart p.c hst.2 (v1 := .slice (some ⟨g, 0, none⟩) ats.length cap) (.inl rfl) p.ca.symm
  have h2 := kept_apart p.h hst.2 (v1 := .slice (some ⟨g, 0, none⟩) ats.length cap) (.inl rfl) p.ha.symm
  refine ⟨p.bel.setCell (p.a.lt g rfl).1 _, by have := p.size; simpa using this, h1.1, h2.1, ?_, p.ch, p.ca, p.ha⟩
  have := hst.1
  rw [show (ats.map natV).set i (natV x) = (ats.set i x).map natV from by rw [List.map_set]] at this
  unfold NatRow
  rw [List.length_set]
  exact this
theorem PS.cellC {g cap : Nat} (p : PS B w0 w (.slice (some ⟨g, 0, none⟩) cs.length cap) vh va cs hs ats) {i : Nat} (h : i < cs.length) : w.cell? ⟨g, i, none⟩ = some (.int .u32 (cs.getD i 0 : Nat)) := by
  have := p.c.cellAt i (by omega)
  rw [List.getElem?_map, List.getElem?_eq_getElem h] at this
  simpa [List.getD, h, u32V] using this
theorem hand_cell {g cap : Nat} (p : U32Row w B (.slice (some ⟨g, 0, none⟩) hs.length cap) hs) {i : Nat} (h : i < hs.length) : w.cell? ⟨g, i, none⟩ = some (.int .u32 (hs.getD i 0 : Nat)) := by
  have := p.cellAt i (by omega)
  rw [List.getElem?_map, List.getElem?_eq_getElem h] at this
  simpa [List.getD, h, u32V] using this
theorem PS.cellH {g cap : Nat} (p : PS B w0 w vc (.slice (some ⟨g, 0, none⟩) hs.length cap) va cs hs ats) {i : Nat} (h : i < hs.length) : w.cell? ⟨g, i, none⟩ = some (.int .u32 (hs.getD i 0 : Nat)) := by
  have := p.h.cellAt i (by omega)
  rw [List.getElem?_map, List.getElem?_eq_getElem h] at this
  simpa [List.getD, h, u32V] using this
theorem PS.cellA {g cap : Nat} (p : PS B w0 w vc vh (.slice (some ⟨g, 0, none⟩) ats.length cap) cs hs ats) {i : Nat} (h : i < ats.length) : w.cell? ⟨g, i, none⟩ = some (.int .i64 (ats.getD i 0 : Nat)) := by
  have := p.a.cellAt i (by omega)
  rw [List.getElem?_map, List.getElem?_eq_getElem h] at this
  simpa [List.getD, h, natV] using this
end

theorem u32_sum (a b : Nat) : ((a : Int) + b) % 4294967296 = (((a + b) % 4294967296 : Nat) : Int) := by omega
theorem u32_one (b : Nat) : (b : Int) % 4294967296 = ((b % 4294967296 : Nat) : Int) := by omega
def stepC (cs : List Nat) (h k c b : Nat) : List Nat :=
  if k = 2 ∨ k = 5 then cs.set c h else if k = 4 then cs.set c ((cs.getD c 0 + b) % 4294967296) else if k = 6 then (if cs.getD c 0 = h then cs.set c (b % 4294967296) else cs) else cs
def stepH (cs : List Nat) (h k c b : Nat) : Nat :=
  if k = 2 then h else if k = 3 then (h + b) % 4294967296 else cs.getD c 0
theorem stepC_length (cs : List Nat) (h k c b : Nat) : (stepC cs h k c b).length = cs.length := by
  unfold stepC; (repeat' split) <;> simp
theorem set_same {l : List Nat} {i : Nat} (h : i < l.length) : l.set i (l.getD i 0) = l := by
  apply List.ext_getElem (by simp)
  intro j h1 h2
  rw [List.getElem_set]
  by_cases e : i = j
  · subst e; simp [List.getD, h]
  · simp [e]
set_option maxRecDepth 100000 in
set_option maxHeartbeats 400000 in
theorem step1_is {B : Nat} {w0 w : World} {va : Value} {cs hs ats : List Nat} {gc gh cc ch : Nat} {c i b : Nat} (p : PS B w0 w (.slice (some ⟨gc, 0, none⟩) cs.length cc) (.slice (some ⟨gh, 0, none⟩) hs.length ch) va cs hs ats) (hc : c < cs.length) (hi : i < hs.length) (hn : cs.length ≤ 4) (hb : b ≤ 1048576)
    (hcv : ∀ x ∈ cs, x < 4294967296) (hhv : ∀ x ∈ hs, x < 4294967296) {k : Nat} (hk : k = 1 ∨ k = 2 ∨ k = 3 ∨ k = 4 ∨ k = 5 ∨ k = 6) :
    Calls Try.prog 35 #[.slice (some ⟨gc, 0, none⟩) cs.length cc, .pointer (some ⟨gh, i, none⟩), .agg #[.int .i64 k, .int .i64 c, .int .i64 b]] w fun e w' => e = .returned (.tuple #[]) ∧ PS B w0 w' (.slice (some ⟨gc, 0, none⟩) cs.length cc) (.slice (some ⟨gh, 0, none⟩) hs.length ch) va (stepC cs (hs.getD i 0) k c b) (hs.set i (stepH cs (hs.getD i 0) k c b)) ats := by
  have p1 := fun o => p.alloc o
  have g1 := fun o => (p1 o).cellC hc
  have g2 := fun o => (p1 o).cellH hi
  have f1 := fun o => (p1 o).c.frozenAt c
  have f2 := fun o => (p1 o).h.frozenAt i
  have q3 := fun u o => (kept_apart p.h (p.c.stored c u).2 (v1 := .slice (some ⟨gc, 0, none⟩) cs.length cc) (.inl rfl) p.ch).1.alloc o
  have g3 := fun u o => hand_cell (q3 u o) hi
  have f3 := fun u o => (q3 u o).frozenAt i
  have hne : gc ≠ gh := fun e => p.ch gc rfl (by rw [e]; rfl)
  have hne' : gh ≠ gc := fun e => hne e.symm
  have hcl := (p.c.lt gc rfl).2
  have hhl := (p.h.lt gh rfl).2
  have hwas : cs.getD c 0 < 4294967296 := hcv _ (by simp [List.getD, hc])
  have hhand : hs.getD i 0 < 4294967296 := hhv _ (by simp [List.getD, hi])
  have hsame := set_same hc
  have hsameh := set_same hi
  have HG : Hid (∀ was hand : Nat, was = cs.getD c 0 → hand = hs.getD i 0 → stepC cs (hs.getD i 0) k c b = (if k = 2 ∨ k = 5 then cs.set c hand else if k = 4 then cs.set c ((was + b) % 4294967296) else if k = 6 then (if was = hand then cs.set c (b % 4294967296) else cs) else cs) ∧ stepH cs (hs.getD i 0) k c b = (if k = 2 then hand else if k = 3 then (hand + b) % 4294967296 else was)) := by
    intro was hand h1 h2
    rw [h1, h2]
    exact ⟨rfl, rfl⟩
  obtain ⟨C', hC'⟩ : ∃ x, x = stepC cs (hs.getD i 0) k c b := ⟨_, rfl⟩
  obtain ⟨H', hH'⟩ : ∃ x, x = stepH cs (hs.getD i 0) k c b := ⟨_, rfl⟩
  rw [← hC', ← hH']
  obtain ⟨was, hw⟩ : ∃ x, x = cs.getD c 0 := ⟨_, rfl⟩
  obtain ⟨hand, hh⟩ : ∃ x, x = hs.getD i 0 := ⟨_, rfl⟩
  have HG2 := HG.out was hand hw hh
  rw [← hC', ← hH'] at HG2
  rw [← hw] at g1 hwas hsame
  rw [← hh] at g2 g3 hhand hsameh
  have hci : (c : Int) < cs.length := by omega
  have hni : (cs.length : Int) ≤ 4 := by omega
  have P1 := Lib.hid p
  have HS := Lib.hid hsame
  have HSH := Lib.hid hsameh
  have HG3 := Lib.hid HG2
  have HK := Lib.hid hk
  clear p p1 q3 hw hh hcv hhv hsame hsameh HG hC' hH' hb hwas hhand HG2
  rcases hk with rfl | rfl | rfl | rfl | rfl | rfl
  · go_enter Try.func35, Try.ntmps35
    go_wp2
    go_end0
    exact ⟨rfl, by have := HG3.out; simp at this; rw [this.1, this.2]; exact (P1.out.setH i was).alloc _⟩
  · go_enter Try.func35, Try.ntmps35
    go_wp2
    go_end0
    refine ⟨rfl, ?_⟩
    have := HG3.out
    simp at this
    rw [this.1, this.2, HSH.out]
    exact (P1.out.setC c hand).alloc _
  · go_enter Try.func35, Try.ntmps35
    go_wp2
    go_region
    go_wp2
    go_end0
    refine ⟨rfl, ?_⟩
    have := HG3.out
    simp only [reduceIte] at this
    simp at this
    rw [this.1, this.2, u32_sum hand b]
    exact ((P1.out.setH i _).alloc _).drew
  · go_enter Try.func35, Try.ntmps35
    go_wp2
    go_region
    go_wp2
    go_end0
    refine ⟨rfl, ?_⟩
    have := HG3.out
    simp at this
    rw [this.1, this.2, u32_sum was b]
    exact (((P1.out.setC c _).setH i _).alloc _).drew
  · go_enter Try.func35, Try.ntmps35
    go_wp2
    go_end0
    refine ⟨rfl, ?_⟩
    have := HG3.out
    simp at this
    rw [this.1, this.2]
    exact ((P1.out.setC c _).setH i _).alloc _
  · by_cases hwh : was = hand
    · have hb1 : ((was : Int) == (hand : Int)) = true := by simp; omega
      go_enter Try.func35, Try.ntmps35
      go_wp2
      go_end0
      refine ⟨rfl, ?_⟩
      have := HG3.out
      simp [hwh] at this
      rw [this.1, this.2, u32_one b]
      exact ((P1.out.setC c _).setH i _).alloc _
    · have hb1 : ((was : Int) == (hand : Int)) = false := by simp; omega
      go_enter Try.func35, Try.ntmps35
      go_wp2
      go_end0
      refine ⟨rfl, ?_⟩
      have := HG3.out
      simp [hwh] at this
      rw [this.1, this.2]
      exact (P1.out.setH i _).alloc _
end Go.Proofs.Ytopadiofanaaiaa.TurnLaw
