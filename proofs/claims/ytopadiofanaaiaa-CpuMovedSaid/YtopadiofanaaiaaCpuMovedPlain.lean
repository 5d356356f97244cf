/- CpuMoved in plain numbers: a step does the same wherever the program stands. -/
import Derived.Test.YtopadiofanaaiaaCpuLaws
namespace Go.Proofs.Ytopadiofanaaiaa.CpuLaw
open Go.RowKit
set_option linter.unusedVariables false
set_option linter.unusedSimpArgs false
/-- a room that stands at a place -/
def mA (by' n : Nat) (f : Nat → Nat) : M := ⟨by', n, f, 4⟩
theorem up_up (a k p : Nat) : up (up a p) k = up (up a k) p := by unfold up; omega
theorem idx_moved {p n : Nat} {f : Nat → Nat} {y : Nat} (hp : p < 4294967296) (hy : y < 4294967296) : idx (mA p n f) (up y p) = idx (mA 0 n f) y := by
  show ((y + p) % 4294967296 + 4294967296 - p) % 4294967296 = (y + 4294967296 - 0) % 4294967296
  omega
theorem can_moved {p n : Nat} {f : Nat → Nat} {y : Nat} {want : Int} (hp : p < 4294967296) (hy : y < 4294967296) : can (mA p n f) (up y p) want ↔ can (mA 0 n f) y want := by
  unfold can
  rw [idx_moved hp hy]
  rfl
theorem byte_moved {p n : Nat} {f : Nat → Nat} {y : Nat} (hp : p < 4294967296) (hy : y < 4294967296) : byteAt (mA p n f) (up y p) = byteAt (mA 0 n f) y := by
  unfold byteAt
  rw [idx_moved hp hy]
  rfl
theorem first4_map {α β : Type} (g : α → β) (p0 p1 p2 p3 q0 q1 q2 q3 : Prop) [Decidable p0] [Decidable p1] [Decidable p2] [Decidable p3] [Decidable q0] [Decidable q1] [Decidable q2] [Decidable q3] (h0 : p0 ↔ q0) (h1 : p1 ↔ q1) (h2 : p2 ↔ q2) (h3 : p3 ↔ q3) (f0 f1 f2 f3 r : α) :
    first4 p0 p1 p2 p3 (g f0) (g f1) (g f2) (g f3) (g r) = g (first4 q0 q1 q2 q3 f0 f1 f2 f3 r) := by
  unfold first4
  by_cases c0 : q0
  · rw [if_pos (h0.2 c0), if_pos c0]
    by_cases c1 : q1
    · rw [if_pos (h1.2 c1), if_pos c1]
      by_cases c2 : q2
      · rw [if_pos (h2.2 c2), if_pos c2]
        by_cases c3 : q3
        · rw [if_pos (h3.2 c3), if_pos c3]
        · rw [if_neg (fun h => c3 (h3.1 h)), if_neg c3]
      · rw [if_neg (fun h => c2 (h2.1 h)), if_neg c2]
    · rw [if_neg (fun h => c1 (h1.1 h)), if_neg c1]
  · rw [if_neg (fun h => c0 (h0.1 h)), if_neg c0]
theorem fetch_moved {p n : Nat} {f : Nat → Nat} {a : Nat} {want : Int} (hp : p < 4294967296) (hp4 : p % 4 = 0) (ha : a < 4294967296) : (fetchF (mA p n f) (up a p) want).1 = (fetchF (mA 0 n f) a want).1 ∧ (fetchF (mA p n f) (up a p) want).2.1 = (fetchF (mA 0 n f) a want).2.1 := by
  have h4 : up a p % 4 = a % 4 := by unfold up; omega
  have u1 := up_up a 1 p
  have u2 := up_up a 2 p
  have u3 := up_up a 3 p
  have w0 := byte_moved (n := n) (f := f) hp ha
  have w1 := byte_moved (n := n) (f := f) hp (up_lt a 1)
  have w2 := byte_moved (n := n) (f := f) hp (up_lt a 2)
  have w3 := byte_moved (n := n) (f := f) hp (up_lt a 3)
  have c0 := can_moved (n := n) (f := f) (want := want) hp ha
  have c1 := can_moved (n := n) (f := f) (want := want) hp (up_lt a 1)
  have c2 := can_moved (n := n) (f := f) (want := want) hp (up_lt a 2)
  have c3 := can_moved (n := n) (f := f) (want := want) hp (up_lt a 3)
  have hw : wordAt (mA p n f) (up a p) = wordAt (mA 0 n f) a := by
    unfold wordAt
    rw [u1, u2, u3, w0, w1, w2, w3]
  unfold fetchF
  rw [h4]
  by_cases q : a % 4 = 0
  · rw [if_pos q, if_pos q, u1, u2, u3, hw]
    unfold first4
    by_cases d0 : can (mA 0 n f) a want
    · rw [if_pos (c0.2 d0), if_pos d0]
      by_cases d1 : can (mA 0 n f) (up a 1) want
      · rw [if_pos (c1.2 d1), if_pos d1]
        by_cases d2 : can (mA 0 n f) (up a 2) want
        · rw [if_pos (c2.2 d2), if_pos d2]
          by_cases d3 : can (mA 0 n f) (up a 3) want
          · rw [if_pos (c3.2 d3), if_pos d3]; exact ⟨rfl, rfl⟩
          · rw [if_neg (fun h => d3 (c3.1 h)), if_neg d3]; exact ⟨rfl, rfl⟩
        · rw [if_neg (fun h => d2 (c2.1 h)), if_neg d2]; exact ⟨rfl, rfl⟩
      · rw [if_neg (fun h => d1 (c1.1 h)), if_neg d1]; exact ⟨rfl, rfl⟩
    · rw [if_neg (fun h => d0 (c0.1 h)), if_neg d0]; exact ⟨rfl, rfl⟩
  · rw [if_neg q, if_neg q]; exact ⟨rfl, rfl⟩
/-- the same registers, elsewhere -/
structure Moved (p : Nat) (g g' : G) : Prop where
  r : ∀ i, g'.r i = g.r i
  pc : g'.pc = up g.pc p
  ring : g'.ring = g.ring
def Allowed (op : Int) : Prop := op ≤ 14 ∨ 19 ≤ op ∧ op ≤ 21
theorem Moved.next {p : Nat} {g g' : G} (h : Moved p g g') : Moved p (nextG g) (nextG g') := ⟨h.r, by show up g'.pc 4 = up (up g.pc 4) p; rw [h.pc, up_up], h.ring⟩
theorem Moved.setR {p : Nat} {g g' : G} (h : Moved p g g') (k x : Nat) : Moved p (setR g k x) (setR g' k x) := by
  refine ⟨fun i => ?_, h.pc, h.ring⟩
  show (if i = k then x else g'.r i) = if i = k then x else g.r i
  rw [h.r]
theorem jumpF20 (g : G) (pc A B k : Nat) : jumpF g pc 20 A B k = (if g.r A = 0 then ⟨g.r, up pc k, g.ring⟩ else g) := by rw [jumpF, if_neg (by decide), if_pos rfl]
theorem jumpF21 (g : G) (pc A B k : Nat) : jumpF g pc 21 A B k = (if g.r A < g.r B then ⟨g.r, up pc k, g.ring⟩ else g) := by rw [jumpF, if_neg (by decide), if_neg (by decide), if_pos rfl]
theorem jump_moved {p : Nat} {g g' : G} (h : Moved p g g') {pc : Nat} {op : Int} (ho : op = 19 ∨ op = 20 ∨ op = 21) (A B k : Nat) : Moved p (jumpF g pc op A B k) (jumpF g' (up pc p) op A B k) := by
  have hj : Moved p ⟨g.r, up pc k, g.ring⟩ ⟨g'.r, up (up pc p) k, g'.ring⟩ := ⟨h.r, up_up _ _ _, h.ring⟩
  rcases ho with rfl | rfl | rfl
  · exact hj
  · rw [jumpF20, jumpF20, h.r]
    by_cases q : g.r A = 0
    · rw [if_pos q, if_pos q]; exact hj
    · rw [if_neg q, if_neg q]; exact h
  · rw [jumpF21, jumpF21, h.r, h.r]
    by_cases q : g.r A < g.r B
    · rw [if_pos q, if_pos q]; exact hj
    · rw [if_neg q, if_neg q]; exact h
theorem other_moved {p : Nat} {g g' : G} (h : Moved p g g') (op : Int) (A B : Nat) (C : Int) : Moved p (otherF g op A B C) (otherF g' op A B C) := by
  unfold otherF
  rw [h.r, h.r]
  repeat' split
  all_goals first | exact h.setR _ _ | exact h
theorem exec_moved {p : Nat} {g g' : G} {m m' : M} (h : Moved p g g') {op : Int} (ho : Allowed op) (A B : Nat) (C : Int) : (execF g' m' op A B C).t = (execF g m op A B C).t ∧ Moved p (execF g m op A B C).g (execF g' m' op A B C).g ∧ (execF g m op A B C).m = m ∧ (execF g' m' op A B C).m = m' := by
  unfold execF
  by_cases c1 : 5 ≤ op ∧ op ≤ 13
  · rw [if_pos c1, if_pos c1, h.r, h.r]
    by_cases c2 : op = 8 ∧ g.r B = 0
    · rw [if_pos c2, if_pos c2]; exact ⟨rfl, h, rfl, rfl⟩
    · rw [if_neg c2, if_neg c2]; exact ⟨rfl, h.next.setR _ _, rfl, rfl⟩
  · have c2 : ¬ (15 ≤ op ∧ op ≤ 18 ∨ op = 25) := by unfold Allowed at ho; omega
    rw [if_neg c1, if_neg c1, if_neg c2, if_neg c2]
    by_cases c3 : 19 ≤ op ∧ op ≤ 23
    · rw [if_pos c3, if_pos c3, h.pc]
      exact ⟨rfl, jump_moved h.next (by unfold Allowed at ho; omega) _ _ _, rfl, rfl⟩
    · rw [if_neg c3, if_neg c3]
      exact ⟨rfl, other_moved h.next _ _ _ _, rfl, rfl⟩
theorem step_moved {p n : Nat} {f : Nat → Nat} {g g' : G} (hp : p < 4294967296) (hp4 : p % 4 = 0) (hg : g.pc < 4294967296) (h : Moved p g g') (hw : (fetchF (mA 0 n f) g.pc 4).2.1 = 0 → (CodeLaw.decR (fetchF (mA 0 n f) g.pc 4).1).2 = 0 → Allowed (CodeLaw.decR (fetchF (mA 0 n f) g.pc 4).1).1.op) :
    (stepF g' (mA p n f)).t = (stepF g (mA 0 n f)).t ∧ Moved p (stepF g (mA 0 n f)).g (stepF g' (mA p n f)).g ∧ (stepF g (mA 0 n f)).m = mA 0 n f ∧ (stepF g' (mA p n f)).m = mA p n f := by
  obtain ⟨f1, f2⟩ := fetch_moved (n := n) (f := f) (want := 4) hp hp4 hg
  unfold stepF
  rw [h.pc, f1, f2]
  by_cases c0 : (fetchF (mA 0 n f) g.pc 4).2.1 = 0
  · rw [if_pos c0, if_pos c0]
    by_cases c1 : (CodeLaw.decR (fetchF (mA 0 n f) g.pc 4).1).2 = 0 ∧ (CodeLaw.decR (fetchF (mA 0 n f) g.pc 4).1).1.op ≠ 1 ∧ (CodeLaw.decR (fetchF (mA 0 n f) g.pc 4).1).1.op ≠ 26
    · rw [if_pos c1, if_pos c1]
      exact exec_moved h (hw c0 c1.1) _ _ _
    · rw [if_neg c1, if_neg c1]; exact ⟨rfl, h, rfl, rfl⟩
  · rw [if_neg c0, if_neg c0]; exact ⟨rfl, h, rfl, rfl⟩
/-- a word of four bytes -/
def wordOf (f : Nat → Nat) (j : Nat) : Nat := f j + f (j + 1) * 256 + f (j + 2) * 65536 + f (j + 3) * 16777216
theorem idx00 {n : Nat} {f : Nat → Nat} {a : Nat} (h : a < 4294967296) : idx (mA 0 n f) a = a := by
  show (a + 4294967296 - 0) % 4294967296 = a
  omega
theorem fetch_word {n k : Nat} {f : Nat → Nat} {a : Nat} (hn : n = 4 * k) (hk : n < 4294967296) (ha : a < 4294967296) (h : (fetchF (mA 0 n f) a 4).2.1 = 0) : ∃ j, j < k ∧ (fetchF (mA 0 n f) a 4).1 = wordOf f (4 * j) := by
  have e0 : idx (mA 0 n f) a = a := idx00 ha
  unfold fetchF at *
  by_cases q : a % 4 = 0
  · rw [if_pos q] at *
    unfold first4 at *
    by_cases d0 : can (mA 0 n f) a 4
    · have hlt : a < n := by have := d0.1; rw [e0] at this; exact this
      have u1 : up a 1 = a + 1 := by unfold up; omega
      have u2 : up a 2 = a + 2 := by unfold up; omega
      have u3 : up a 3 = a + 3 := by unfold up; omega
      have c : ∀ k, a + k < n → can (mA 0 n f) (a + k) 4 := fun k hk' => ⟨by rw [idx00 (by omega)]; exact hk', by show bits .andNot .i64 4 4 = 0; decide⟩
      rw [u1, u2, u3, if_pos d0, if_pos (c 1 (by omega)), if_pos (c 2 (by omega)), if_pos (c 3 (by omega))]
      refine ⟨a / 4, by omega, ?_⟩
      show wordAt (mA 0 n f) a = _
      unfold wordAt wordOf byteAt
      rw [u1, u2, u3, e0, idx00 (by omega), idx00 (by omega), idx00 (by omega), show 4 * (a / 4) = a by omega]
      rfl
    · rw [if_neg d0] at h
      exact absurd (show (2 : Int) = 0 from h) (by decide)
  · rw [if_neg q] at h
    exact absurd (show (2 : Int) = 0 from h) (by decide)
/-- the instruction that a word gives -/
def bad (d : CodeLaw.Ins × Int) : Bool := d.2 != 0 || (decide (15 ≤ d.1.op) && decide (d.1.op ≤ 18)) || decide (22 ≤ d.1.op)
def pick (x : Int) : CodeLaw.Ins := if bad (CodeLaw.decR x) = true then ⟨14, x % 8, x / 8 % 8, 1⟩ else (CodeLaw.decR x).1
theorem pick_enc {x : Int} (h0 : 0 ≤ x) (h1 : x < 4294967296) : (CodeLaw.encI (pick x)).2 = 0 ∧ Allowed (pick x).op := by
  unfold pick
  by_cases hb : bad (CodeLaw.decR x) = true
  · rw [if_pos hb]
    refine ⟨?_, .inl (show (14 : Int) ≤ 14 by decide)⟩
    have hi : CodeLaw.inF (x % 8) (x / 8 % 8) 1 := by unfold CodeLaw.inF; omega
    show (CodeLaw.encR 14 (x % 8) (x / 8 % 8) 1).2 = 0
    have hf : CodeLaw.fldS 14 = 7 := by decide +kernel
    rw [CodeLaw.encR_ok (by decide) hi (by
      unfold CodeLaw.okF
      rw [hf]
      have e1 : bits .and .i64 7 1 = 1 := by decide
      have e2 : bits .and .i64 7 2 = 2 := by decide
      have e4 : bits .and .i64 7 4 = 4 := by decide
      rw [e1, e2, e4]
      simp)]
  · rw [if_neg hb]
    have hb' : bad (CodeLaw.decR x) = false := by simpa using hb
    simp only [bad, Bool.or_eq_false_iff, Bool.and_eq_false_iff, bne_eq_false_iff_eq, decide_eq_false_iff_not] at hb'
    obtain ⟨⟨he, h1⟩, h2⟩ := hb'
    refine ⟨by rw [CodeLaw.forth he], ?_⟩
    unfold Allowed
    omega
end Go.Proofs.Ytopadiofanaaiaa.CpuLaw
