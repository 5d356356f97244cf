/- Orders of steps: how many there are, and which is the k-th: in plain numbers. No program here. -/
import Derived.Test.YtopadiofanaaiaaBits
namespace Go.Proofs.Ytopadiofanaaiaa.TurnLaw

def cStep (s : Nat × Nat) (k : Nat) : Nat × Nat := (s.1 * (s.2 + 1) / (k + 1), s.2 + 1)
def steps (s : Nat × Nat) (j : Nat) : Nat × Nat := (List.range j).foldl cStep s
def cAll (l : List Nat) : Nat × Nat := l.foldl steps (1, 0)
def countR (l : List Nat) : Nat := (cAll l).1
theorem steps_zero (s : Nat × Nat) : steps s 0 = s := rfl
theorem steps_succ (s : Nat × Nat) (j : Nat) : steps s (j + 1) = cStep (steps s j) j := by
  unfold steps; rw [List.range_succ, List.foldl_append]; rfl
theorem steps_all (s : Nat × Nat) (j : Nat) : (steps s j).2 = s.2 + j := by
  induction j with
  | zero => rfl
  | succ j ih => rw [steps_succ, cStep]; simp only; omega
theorem cAll_next {l : List Nat} {i : Nat} (h : i < l.length) : cAll (l.take (i + 1)) = steps (cAll (l.take i)) (l.getD i 0) := by
  unfold cAll
  rw [List.take_succ_eq_append_getElem h, List.foldl_append]
  simp [List.getD, h]
theorem cAll_all (l : List Nat) : (cAll l).2 = l.sum := by
  have h : ∀ (l : List Nat) (s : Nat × Nat), (l.foldl steps s).2 = s.2 + l.sum := by
    intro l
    induction l with
    | nil => intro s; simp
    | cons x t ih => intro s; rw [List.foldl_cons, ih, steps_all]; simp; omega
  have := h l (1, 0)
  simpa [cAll] using this
theorem step_bound {s : Nat × Nat} {k : Nat} (h : s.1 ≤ 12 ^ s.2) (h2 : s.2 + 1 ≤ 12) : (cStep s k).1 ≤ 12 ^ (cStep s k).2 := by
  unfold cStep
  simp only
  refine Nat.le_trans (Nat.div_le_self _ _) ?_
  rw [Nat.pow_succ]
  exact Nat.mul_le_mul h h2
theorem steps_bound {s : Nat × Nat} (h : s.1 ≤ 12 ^ s.2) : ∀ j, s.2 + j ≤ 12 → (steps s j).1 ≤ 12 ^ (steps s j).2 := by
  intro j
  induction j with
  | zero => intro _; exact h
  | succ j ih =>
    intro hj
    rw [steps_succ]
    exact step_bound (ih (by omega)) (by rw [steps_all]; omega)
theorem cAll_bound (l : List Nat) : l.sum ≤ 12 → (cAll l).1 ≤ 12 ^ (cAll l).2 := by
  have h : ∀ (l : List Nat) (s : Nat × Nat), s.1 ≤ 12 ^ s.2 → s.2 + l.sum ≤ 12 → (l.foldl steps s).1 ≤ 12 ^ (l.foldl steps s).2 := by
    intro l
    induction l with
    | nil => intro s hs _; exact hs
    | cons x t ih =>
      intro s hs hl
      rw [List.foldl_cons]
      simp only [List.sum_cons] at hl
      exact ih _ (steps_bound hs x (by omega)) (by rw [steps_all]; omega)
  intro hl
  exact h l (1, 0) (by decide) (by simpa using hl)
theorem take_sum_le (l : List Nat) (i : Nat) : (l.take i).sum ≤ l.sum := by
  conv => rhs; rw [← List.take_append_drop i l, List.sum_append]
  omega
theorem take_sum_next {l : List Nat} {i : Nat} (h : i < l.length) : (l.take (i + 1)).sum = (l.take i).sum + l.getD i 0 := by
  rw [List.take_succ_eq_append_getElem h, List.sum_append]
  simp [List.getD, h]

/-- one less of the i-th -/
def dec (l : List Nat) (i : Nat) : List Nat := l.set i (l.getD i 0 - 1)
/-- who does the next step of the k-th order, and which order is left -/
def pick (l : List Nat) : List Nat → Nat → Option (Nat × Nat)
  | [], _ => none
  | i :: t, k => if l.getD i 0 = 0 then pick l t k else if countR (dec l i) ≤ k then pick l t (k - countR (dec l i)) else some (i, k)
def atF : Nat → List Nat → Nat → List Nat
  | 0, _, _ => []
  | f + 1, l, k => match pick l (List.range l.length) k with
    | none => []
    | some (i, k') => i :: atF f (dec l i) k'
def atR (l : List Nat) (k : Nat) : List Nat := atF 13 l k
theorem dec_sum {l : List Nat} {i : Nat} (h : l.getD i 0 ≠ 0) : (dec l i).sum + 1 = l.sum := by
  induction l generalizing i with
  | nil => simp at h
  | cons x t ih =>
    cases i with
    | zero => simp [dec] at h ⊢; omega
    | succ i =>
      have := ih (i := i) (by simpa using h)
      simp [dec] at this ⊢; omega
theorem dec_length (l : List Nat) (i : Nat) : (dec l i).length = l.length := by simp [dec]
theorem pick_in {l : List Nat} : ∀ {is : List Nat} {k i k' : Nat}, pick l is k = some (i, k') → i ∈ is ∧ l.getD i 0 ≠ 0 := by
  intro is
  induction is with
  | nil => intro k i k' h; cases h
  | cons j t ih =>
    intro k i k' h
    rw [pick] at h
    by_cases h0 : l.getD j 0 = 0
    · rw [if_pos h0] at h
      exact ⟨List.mem_cons_of_mem _ (ih h).1, (ih h).2⟩
    · rw [if_neg h0] at h
      by_cases hc : countR (dec l j) ≤ k
      · rw [if_pos hc] at h
        exact ⟨List.mem_cons_of_mem _ (ih h).1, (ih h).2⟩
      · rw [if_neg hc] at h
        simp only [Option.some.injEq, Prod.mk.injEq] at h
        rw [← h.1]
        exact ⟨List.mem_cons_self, h0⟩
end Go.Proofs.Ytopadiofanaaiaa.TurnLaw
