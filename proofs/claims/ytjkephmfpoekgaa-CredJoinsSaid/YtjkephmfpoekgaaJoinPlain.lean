/- Plain law: a group put into its place among the groups of a credential. -/
import Derived.Test.YtjkephmfpoekgaaCreds
import Derived.Test.YtjkephmfpoekgaaSort
namespace Go.Proofs.Ytjkephmfpoekgaa.CredLaw
open Go.RowKit SortLaw
set_option linter.unusedVariables false
set_option linter.unusedSimpArgs false
def Asc (l : List Int) : Prop := (∀ i, i < l.length → 0 ≤ l.getD i 0 ∧ l.getD i 0 ≤ 99) ∧ ∀ i, i + 1 < l.length → l.getD i 0 < l.getD (i + 1) 0
theorem asc_cons {x : Int} {t : List Int} : Asc (x :: t) ↔ (0 ≤ x ∧ x ≤ 99) ∧ Asc t ∧ (t = [] ∨ x < t.getD 0 0) := by
  constructor
  · rintro ⟨h1, h2⟩
    refine ⟨by simpa using h1 0 (by simp), ⟨fun i hi => by simpa using h1 (i + 1) (by simp; omega), fun i hi => by simpa using h2 (i + 1) (by simp; omega)⟩, ?_⟩
    cases t with
    | nil => exact .inl rfl
    | cons y s => exact .inr (by simpa using h2 0 (by simp))
  · rintro ⟨hx, ⟨h1, h2⟩, h3⟩
    refine ⟨fun i hi => ?_, fun i hi => ?_⟩
    · cases i with
      | zero => simpa using hx
      | succ i => simpa using h1 i (by simp at hi; omega)
    · cases i with
      | zero =>
        rcases h3 with rfl | h3
        · simp at hi
        · simpa using h3
      | succ i => simpa using h2 i (by simp at hi; omega)
theorem chkP_some (l : List Int) : ∀ q, chkP (some q) l = 0 ↔ Asc l ∧ (l = [] ∨ q < l.getD 0 0) := by
  induction l with
  | nil => intro q; exact ⟨fun _ => ⟨⟨fun i hi => absurd hi (by simp), fun i hi => absurd hi (by simp)⟩, .inl rfl⟩, fun _ => rfl⟩
  | cons x t ih =>
    intro q
    rw [chkP, asc_cons]
    by_cases h1 : x < 0 ∨ 99 < x
    · rw [if_pos h1]
      constructor
      · intro h; cases h
      · rintro ⟨⟨h, -⟩, -⟩; omega
    · rw [if_neg h1]
      by_cases h2 : x ≤ q
      · simp only [if_pos h2]
        constructor
        · intro h; cases h
        · rintro ⟨-, h | h⟩
          · cases h
          · simp at h; omega
      · simp only [if_neg h2]
        rw [ih]
        constructor
        · rintro ⟨h, h3⟩; exact ⟨⟨by omega, h, h3⟩, .inr (by simp; omega)⟩
        · rintro ⟨⟨-, h, h3⟩, -⟩; exact ⟨h, h3⟩
theorem chkP_asc (l : List Int) : chkP none l = 0 ↔ Asc l := by
  cases l with
  | nil => exact ⟨fun _ => ⟨fun i hi => absurd hi (by simp), fun i hi => absurd hi (by simp)⟩, fun _ => rfl⟩
  | cons x t =>
    rw [chkP, asc_cons]
    by_cases h1 : x < 0 ∨ 99 < x
    · rw [if_pos h1]
      constructor
      · intro h; cases h
      · rintro ⟨h, -⟩; omega
    · rw [if_neg h1]
      show chkP (some x) t = 0 ↔ _
      rw [chkP_some]
      exact ⟨fun h => ⟨by omega, h⟩, fun h => h.2⟩
theorem put_end (xs : List Int) (x : Int) : put xs x xs.length = xs ++ [x] := by simp [put]
theorem put_mem {xs : List Int} {x g : Int} {j : Nat} : (put xs x j).contains g = (g == x || xs.contains g) := by
  have h : g ∈ put xs x j ↔ g = x ∨ g ∈ xs := by
    unfold put
    rw [List.mem_append, List.mem_cons]
    constructor
    · rintro (h | h | h)
      · exact .inr (List.mem_of_mem_take h)
      · exact .inl h
      · exact .inr (List.mem_of_mem_drop h)
    · rintro (h | h)
      · exact .inr (.inl h)
      · rw [← List.take_append_drop j xs, List.mem_append] at h
        rcases h with h | h
        · exact .inl h
        · exact .inr (.inr h)
  cases h1 : (put xs x j).contains g
  · have h2 : ¬ (g = x ∨ g ∈ xs) := by rw [← h]; simpa using h1
    simp only [not_or] at h2
    simp [h2.1, h2.2]
  · have h2 : g = x ∨ g ∈ xs := by rw [← h]; simpa using h1
    rcases h2 with h2 | h2 <;> simp [h2]
theorem put_asc {xs : List Int} {x : Int} {j : Nat} (h : Asc xs) (hx : 0 ≤ x ∧ x ≤ 99) (hn : xs.contains x = false) (hs : Still xs x j) : Asc (put xs x j) := by
  obtain ⟨hj, hlo, hhi⟩ := hs
  have hne : ∀ i, i < xs.length → xs.getD i 0 ≠ x := by
    intro i hi e
    have : x ∈ xs := by rw [← e]; simp [List.getD, hi]
    have : xs.contains x = true := by simpa using this
    rw [this] at hn; cases hn
  refine ⟨fun i hi => ?_, fun i hi => ?_⟩
  · rw [put_length] at hi
    rcases Nat.lt_trichotomy i j with q | q | q
    · rw [put_low _ _ hj q]; exact h.1 i (by omega)
    · subst q; rw [put_at _ _ hj]; exact hx
    · rw [put_high _ _ hj q]; exact h.1 _ (by omega)
  · rw [put_length] at hi
    rcases Nat.lt_trichotomy (i + 1) j with q | q | q
    · rw [put_low _ _ hj q, put_low _ _ hj (by omega)]; exact h.2 i (by omega)
    · subst q
      rw [put_at _ _ hj, put_low _ _ hj (by omega)]
      have := hne i (by omega)
      rcases hlo with h0 | h0
      · omega
      · rw [Nat.add_sub_cancel] at h0; omega
    · rcases Nat.lt_or_ge j i with q2 | q2
      · rw [put_high _ _ hj q, put_high _ _ hj q2]
        have := h.2 (i - 1) (by omega)
        rwa [show i - 1 + 1 = i by omega] at this
      · obtain rfl : i = j := by omega
        rw [put_at _ _ hj, put_high _ _ hj (by omega), Nat.add_sub_cancel]
        exact hhi i (Nat.le_refl _) (by omega)
/-- what Join hands back when it does -/
def Joined (c : C) (a : Int) (d : C) : Prop := chkC c = 0 ∧ bits .and .i64 c.caps 8 ≠ 0 ∧ ((inC c a = true ∧ d = c) ∨ (inC c a = false ∧ c.xs.length < 4 ∧ ∃ j, Still c.xs a j ∧ d = { c with xs := put c.xs a j }))
theorem joined_ok {c d : C} {a : Int} (ha : 0 ≤ a ∧ a ≤ 99) (h : Joined c a d) : chkC d = 0 ∧ inC d a = true ∧ (∀ b, inC d b = (inC c b || a == b)) ∧ d.caps = c.caps := by
  obtain ⟨hc, hk, ⟨hi, rfl⟩ | ⟨hi, h4, j, hs, rfl⟩⟩ := h
  · refine ⟨hc, hi, fun b => ?_, rfl⟩
    by_cases e : a = b
    · subst e; simp [hi]
    · simp [e]
  · obtain ⟨h1, h2, h3, h5⟩ := (chkC_zero c).1 hc
    have hn : c.xs.contains a = false := by
      unfold inC at hi
      revert hi; cases c.xs.contains a <;> simp
    refine ⟨(chkC_zero _).2 ⟨h1, ?_, ?_, h5⟩, ?_, fun b => ?_, rfl⟩
    · show (put c.xs a j).length ≤ 4
      rw [put_length]; omega
    · show chkP none (put c.xs a j) = 0
      exact (chkP_asc _).2 (put_asc ((chkP_asc _).1 h3) ha hn hs)
    · unfold inC
      show (a == c.group || (put c.xs a j).contains a) = true
      rw [put_mem]; simp
    · unfold inC
      show (b == c.group || (put c.xs a j).contains b) = ((b == c.group || c.xs.contains b) || a == b)
      rw [put_mem]
      have : (b == a) = (a == b) := by rw [Bool.eq_iff_iff]; simp only [beq_iff_eq]; exact eq_comm
      rw [this]
      cases (b == c.group) <;> cases (a == b) <;> cases c.xs.contains b <;> rfl
end Go.Proofs.Ytjkephmfpoekgaa.CredLaw
