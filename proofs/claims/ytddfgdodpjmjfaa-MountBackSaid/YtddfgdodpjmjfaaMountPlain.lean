/- Mounts: what is seen where: in plain numbers. No program here. -/
import Derived.Test.YtddfgdodpjmjfaaBits
namespace Go.Proofs.Ytddfgdodpjmjfaa.MountLaw

structure Mt where
  a : Int
  r : Int
  deriving DecidableEq
abbrev m0 : Mt := ⟨0, 0⟩
def stepR (l : List Mt) (n : Int) : Option Int := (l.find? (fun m => m.a == n)).map (·.r)
def downR (l : List Mt) : Nat → Int → Option Int
  | 0, _ => none
  | f + 1, n => match stepR l n with
    | none => some n
    | some x => downR l f x
def inode (n : Int) : Prop := 1 ≤ n ∧ n ≤ 32
instance (n : Int) : Decidable (inode n) := by unfold inode; infer_instance
/-- what slices.IndexFunc answers -/
def FindIs (l : List Mt) (x : Int) (r : Int) : Prop := (r = -1 ∧ ∀ j, j < l.length → (l.getD j m0).a ≠ x) ∨ ∃ k : Nat, r = k ∧ k < l.length ∧ (l.getD k m0).a = x ∧ ∀ j, j < k → (l.getD j m0).a ≠ x
theorem step_none {l : List Mt} {x : Int} (h : ∀ j, j < l.length → (l.getD j m0).a ≠ x) : stepR l x = none := by
  unfold stepR
  rw [List.find?_eq_none.2]
  · rfl
  · intro m hm
    obtain ⟨j, hj, rfl⟩ := List.mem_iff_getElem.1 hm
    have := h j hj
    simp [List.getD, hj] at this
    simpa using this
theorem step_some {l : List Mt} {x : Int} {k : Nat} (hk : k < l.length) (hx : (l.getD k m0).a = x) (h : ∀ j, j < k → (l.getD j m0).a ≠ x) : stepR l x = some (l.getD k m0).r := by
  unfold stepR
  have : l.find? (fun m => m.a == x) = some (l.getD k m0) := by
    rw [List.find?_eq_some_iff_getElem]
    refine ⟨by simpa using hx, k, hk, by simp [List.getD, hk], fun j hj => ?_⟩
    have := h j hj
    simp [List.getD, Nat.lt_trans hj hk] at this
    simpa using this
  rw [this]; rfl
theorem step_mem {l : List Mt} {x y : Int} (h : stepR l x = some y) : ∃ j, j < l.length ∧ (l.getD j m0).r = y := by
  unfold stepR at h
  cases hf : l.find? (fun m => m.a == x) with
  | none => rw [hf] at h; cases h
  | some m =>
    rw [hf] at h
    obtain ⟨j, hj, e⟩ := List.mem_iff_getElem.1 (List.mem_of_find?_eq_some hf)
    refine ⟨j, hj, ?_⟩
    simp at h
    simp [List.getD, hj, e, h]
theorem down_end {l : List Mt} {f : Nat} {n : Int} (h : stepR l n = none) : downR l (f + 1) n = some n := by rw [downR, h]
theorem down_go {l : List Mt} {f : Nat} {n x : Int} (h : stepR l n = some x) : downR l (f + 1) n = downR l f x := by rw [downR, h]
theorem down_stops {l : List Mt} : ∀ {f : Nat} {n x : Int}, downR l f n = some x → stepR l x = none := by
  intro f
  induction f with
  | zero => intro n x h; cases h
  | succ f ih =>
    intro n x h
    cases hs : stepR l n with
    | none => rw [down_end hs] at h; cases h; exact hs
    | some y => rw [down_go hs] at h; exact ih h

structure Good (l : List Mt) : Prop where
  len : l.length ≤ 8
  a : ∀ i, i < l.length → inode (l.getD i m0).a
  r : ∀ i, i < l.length → inode (l.getD i m0).r
  once : ∀ i, i < l.length → ∀ j, j < i → (l.getD j m0).a ≠ (l.getD i m0).a
  ends : ∀ i, i < l.length → downR l (l.length + 1) (l.getD i m0).a ≠ none
theorem down_in {l : List Mt} (hg : Good l) : ∀ {f : Nat} {n x : Int}, inode n → downR l f n = some x → inode x := by
  intro f
  induction f with
  | zero => intro n x _ h; cases h
  | succ f ih =>
    intro n x hn h
    cases hs : stepR l n with
    | none => rw [down_end hs] at h; cases h; exact hn
    | some y =>
      rw [down_go hs] at h
      obtain ⟨j, hj, e⟩ := step_mem hs
      exact ih (e ▸ hg.r j hj) h
theorem down_some {l : List Mt} (hg : Good l) (n : Int) : ∃ x, downR l (l.length + 1) n = some x := by
  cases hs : stepR l n with
  | none => exact ⟨n, down_end hs⟩
  | some y =>
    have : ∃ i, i < l.length ∧ (l.getD i m0).a = n := by
      unfold stepR at hs
      cases hf : l.find? (fun m => m.a == n) with
      | none => rw [hf] at hs; cases hs
      | some m =>
        obtain ⟨j, hj, e⟩ := List.mem_iff_getElem.1 (List.mem_of_find?_eq_some hf)
        have h2 := List.find?_some hf
        exact ⟨j, hj, by simp [List.getD, hj, e]; simpa using h2⟩
    obtain ⟨i, hi, rfl⟩ := this
    cases hd : downR l (l.length + 1) (l.getD i m0).a with
    | none => exact absurd hd (hg.ends i hi)
    | some x => exact ⟨x, rfl⟩
/-- where one comes to -/
def to (l : List Mt) (n : Int) : Int := (downR l (l.length + 1) n).getD 0
theorem to_is {l : List Mt} (hg : Good l) (n : Int) : downR l (l.length + 1) n = some (to l n) := by
  obtain ⟨x, hx⟩ := down_some hg n
  rw [to, hx]; rfl
theorem to_in {l : List Mt} (hg : Good l) {n : Int} (hn : inode n) : inode (to l n) := down_in hg hn (to_is hg n)

/-- the numbers from 1 to n that come to x -/
def upto (n : Nat) : List Int := (List.range n).map (fun i => ((i + 1 : Nat) : Int))
def seen (l : List Mt) (x : Int) (n : Nat) : List Int := (upto n).filter (fun k => to l k == x)
theorem upto_succ (n : Nat) : upto (n + 1) = upto n ++ [((n + 1 : Nat) : Int)] := by simp [upto, List.range_succ]
theorem seen_yes {l : List Mt} {x : Int} {n : Nat} (h : to l ((n + 1 : Nat) : Int) = x) : seen l x (n + 1) = seen l x n ++ [((n + 1 : Nat) : Int)] := by
  unfold seen; rw [upto_succ, List.filter_append]; simp at h; simp [h]
theorem seen_no {l : List Mt} {x : Int} {n : Nat} (h : to l ((n + 1 : Nat) : Int) ≠ x) : seen l x (n + 1) = seen l x n := by
  unfold seen; rw [upto_succ, List.filter_append]; simp at h; simp [h]
theorem seen_len (l : List Mt) (x : Int) (n : Nat) : (seen l x n).length ≤ n := by
  have := List.length_filter_le (fun k => to l k == x) (upto n)
  simpa [seen, upto] using this
theorem seen_has {l : List Mt} {n : Nat} (h : n < 32) : (seen l ((n + 1 : Nat) : Int) 32).contains ((n + 1 : Nat) : Int) = (to l ((n + 1 : Nat) : Int) == ((n + 1 : Nat) : Int)) := by
  rw [Bool.eq_iff_iff, List.contains_iff_mem, seen, List.mem_filter]
  constructor
  · intro h; exact h.2
  · intro h2
    refine ⟨?_, h2⟩
    unfold upto
    exact List.mem_map.2 ⟨n, List.mem_range.2 h, rfl⟩
/-- how many of 1 to 32 come below n + 1 -/
def below (l : List Mt) (n : Nat) : Nat := (upto 32).countP (fun k => decide (to l k ≤ n))
theorem count_next (g : Int → Int) (n M : Int) (hM : M = n + 1) (u : List Int) : u.countP (fun k => decide (g k ≤ M)) = u.countP (fun k => decide (g k ≤ n)) + u.countP (fun k => g k == M) := by
  induction u with
  | nil => rfl
  | cons x t ih =>
    by_cases h1 : g x ≤ n
    · rw [List.countP_cons_of_pos (by simp; omega), List.countP_cons_of_pos (by simpa using h1), List.countP_cons_of_neg (by simp; omega), ih]; omega
    · by_cases h3 : g x = M
      · rw [List.countP_cons_of_pos (by simp; omega), List.countP_cons_of_neg (by simpa using h1), List.countP_cons_of_pos (by simpa using h3), ih]; omega
      · rw [List.countP_cons_of_neg (by simp; omega), List.countP_cons_of_neg (by simpa using h1), List.countP_cons_of_neg (by simpa using h3), ih]
theorem below_next (l : List Mt) (n : Nat) : below l (n + 1) = below l n + (seen l ((n + 1 : Nat) : Int) 32).length := by
  unfold below seen
  rw [← List.countP_eq_length_filter]
  exact count_next (to l) n ((n + 1 : Nat) : Int) (by omega) (upto 32)
theorem below_none {l : List Mt} (hg : Good l) : below l 0 = 0 := by
  unfold below
  rw [List.countP_eq_zero]
  intro k hk
  obtain ⟨i, hi, rfl⟩ := List.mem_map.1 hk
  have := to_in hg (n := ((i + 1 : Nat) : Int)) ⟨by omega, by have := List.mem_range.1 hi; omega⟩
  intro h
  have h := of_decide_eq_true h
  have := this.1
  omega
theorem below_all {l : List Mt} (hg : Good l) : below l 32 = 32 := by
  unfold below
  rw [List.countP_eq_length.2]
  · rfl
  · intro k hk
    obtain ⟨i, hi, rfl⟩ := List.mem_map.1 hk
    have := to_in hg (n := ((i + 1 : Nat) : Int)) ⟨by omega, by have := List.mem_range.1 hi; omega⟩
    have := this.2
    exact decide_eq_true (by omega)
end Go.Proofs.Ytddfgdodpjmjfaa.MountLaw
