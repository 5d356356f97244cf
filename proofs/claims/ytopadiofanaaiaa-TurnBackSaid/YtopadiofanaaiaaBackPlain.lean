/- Orders and their numbers: the number of the k-th order is k; they rise together. Plain numbers. -/
import Derived.Test.YtopadiofanaaiaaAddPlain
namespace Go.Proofs.Ytopadiofanaaiaa.TurnLaw
set_option linter.unusedVariables false

def pad4 (l : List Nat) : List Nat := [l.getD 0 0, l.getD 1 0, l.getD 2 0, l.getD 3 0]
def cnt4 (o : List Nat) : List Nat := [o.count 0, o.count 1, o.count 2, o.count 3]
/-- the number of an order, the steps that are left given -/
def ofR : List Nat → List Nat → Nat
  | _, [] => 0
  | L, who :: t => sumTo L who + ofR (dec L who) t
def cmpL : List Nat → List Nat → Int
  | [], [] => 0
  | [], _ :: _ => -1
  | _ :: _, [] => 1
  | x :: s, y :: t => if x < y then -1 else if y < x then 1 else cmpL s t
theorem pad4_get (l : List Nat) {i : Nat} (h : i < 4) : (pad4 l).getD i 0 = l.getD i 0 := by
  have : i = 0 ∨ i = 1 ∨ i = 2 ∨ i = 3 := by omega
  rcases this with rfl | rfl | rfl | rfl <;> rfl
theorem pad4_count {l : List Nat} (h : l.length ≤ 4) : countR (pad4 l) = countR l := by
  match l, h with
  | [], _ => rfl
  | [a], _ => rfl
  | [a, b], _ => rfl
  | [a, b, c], _ => rfl
  | [a, b, c, d], _ => rfl
  | _ :: _ :: _ :: _ :: _ :: _, h => simp at h
theorem pad4_dec (l : List Nat) {i : Nat} (h : i < 4) : dec (pad4 l) i = pad4 (dec l i) := by
  have hg := fun j => @dec_get l i j
  unfold pad4
  rw [hg 0, hg 1, hg 2, hg 3]
  have : i = 0 ∨ i = 1 ∨ i = 2 ∨ i = 3 := by omega
  rcases this with rfl | rfl | rfl | rfl <;> simp [dec]
theorem pad4_sumTo {l : List Nat} (h : l.length ≤ 4) : ∀ i, i ≤ 4 → sumTo (pad4 l) i = sumTo l i := by
  intro i
  induction i with
  | zero => intro _; rfl
  | succ i ih =>
    intro hi
    rw [sumTo, sumTo, ih (by omega), pad4_get l (by omega), pad4_dec l (by omega), pad4_count (by rw [dec_length]; exact h)]
theorem cnt4_at {l : List Nat} {k f : Nat} (hs : small l) (hk : k < countR l) (hf : l.sum < f) : cnt4 (atF f l k) = pad4 l := by
  unfold cnt4 pad4
  rw [atF_count f l k hs hk hf 0, atF_count f l k hs hk hf 1, atF_count f l k hs hk hf 2, atF_count f l k hs hk hf 3]
theorem of_at : ∀ (f : Nat) (l : List Nat) (k : Nat), small l → k < countR l → l.sum < f → ofR (pad4 l) (atF f l k) = k := by
  intro f
  induction f with
  | zero => intro l k _ _ h; omega
  | succ f ih =>
    intro l k hs hk hf
    rcases at_step hs hk with ⟨h0, hk0, hp⟩ | ⟨who, k', h1, h2, hp, h3, h4⟩
    · rw [atF_none hp, hk0]; rfl
    · have h14 : who < 4 := Nat.lt_of_lt_of_le h1 hs.1
      rw [atF_some hp, ofR, pad4_sumTo hs.1 who (by omega), pad4_dec l h14, ih _ _ (small_dec hs) h3 (by have := dec_sum h2; omega)]
      omega
theorem sumTo_le_of {l : List Nat} {i j : Nat} (h : i ≤ j) : sumTo l i ≤ sumTo l j := by
  induction j with
  | zero => have : i = 0 := by omega
            subst this; exact Nat.le_refl _
  | succ j ih =>
    rcases Nat.lt_or_ge i (j + 1) with hl | hl
    · exact Nat.le_trans (ih (by omega)) (sumTo_mono j)
    · have : i = j + 1 := by omega
      subst this; exact Nat.le_refl _
theorem cmp_at : ∀ (f : Nat) (l : List Nat) (i k : Nat), small l → i < countR l → k < countR l → l.sum < f → (cmpL (atF f l i) (atF f l k) < 0 ↔ i < k) := by
  intro f
  induction f with
  | zero => intro l i k _ _ _ h; omega
  | succ f ih =>
    intro l i k hs hi hk hf
    rcases at_step hs hi with ⟨h0, hi0, hp⟩ | ⟨who, i', h1, h2, hp, h3, h4⟩
    · rcases at_step hs hk with ⟨_, hk0, hq⟩ | ⟨who', k', g1, g2, hq, g3, g4⟩
      · rw [atF_none hp, atF_none hq, cmpL]; omega
      · have := dec_sum g2; omega
    · rcases at_step hs hk with ⟨h0, hk0, hq⟩ | ⟨who', k', g1, g2, hq, g3, g4⟩
      · have := dec_sum h2; omega
      · rw [atF_some hp, atF_some hq, cmpL]
        have n1 := sumTo_next h2
        have n2 := sumTo_next g2
        by_cases c1 : who < who'
        · rw [if_pos c1]
          have := sumTo_le_of (l := l) (show who + 1 ≤ who' from c1)
          omega
        · rw [if_neg c1]
          by_cases c2 : who' < who
          · rw [if_pos c2]
            have := sumTo_le_of (l := l) (show who' + 1 ≤ who from c2)
            omega
          · rw [if_neg c2]
            have he : who = who' := by omega
            subst he
            rw [ih _ _ _ (small_dec hs) h3 g3 (by have := dec_sum h2; omega)]
            omega
theorem at_lt {f : Nat} {l : List Nat} {k : Nat} (hs : small l) : ∀ x ∈ atF f l k, x < 4 := by
  induction f generalizing l k with
  | zero => intro x hx; exact absurd hx List.not_mem_nil
  | succ f ih =>
    intro x hx
    cases hp : pick l (List.range l.length) k with
    | none => rw [atF_none hp] at hx; exact absurd hx List.not_mem_nil
    | some q =>
      obtain ⟨who, k'⟩ := q
      rw [atF_some hp] at hx
      have h1 : who < l.length := by simpa using (pick_in hp).1
      rcases List.mem_cons.1 hx with rfl | h
      · exact Nat.lt_of_lt_of_le h1 hs.1
      · exact ih (small_dec hs) x h
theorem cnt4_take {o : List Nat} {k : Nat} (h : k < o.length) (h4 : o.getD k 0 < 4) : cnt4 (o.take (k + 1)) = (cnt4 (o.take k)).set (o.getD k 0) ((cnt4 (o.take k)).getD (o.getD k 0) 0 + 1) := by
  rw [List.take_succ_eq_append_getElem h]
  have hg : o[k] = o.getD k 0 := by simp [List.getD, h]
  rw [hg]
  generalize o.getD k 0 = x at *
  unfold cnt4
  simp only [List.count_append, List.count_singleton]
  have : x = 0 ∨ x = 1 ∨ x = 2 ∨ x = 3 := by omega
  rcases this with rfl | rfl | rfl | rfl <;> simp
theorem cnt4_drop {o : List Nat} {k : Nat} (h : k < o.length) (h4 : o.getD k 0 < 4) : cnt4 (o.drop (k + 1)) = dec (cnt4 (o.drop k)) (o.getD k 0) := by
  rw [drop_getD h]
  generalize o.getD k 0 = x at *
  unfold cnt4 dec
  simp only [List.count_cons]
  have : x = 0 ∨ x = 1 ∨ x = 2 ∨ x = 3 := by omega
  rcases this with rfl | rfl | rfl | rfl <;> simp
theorem cnt4_sum (o : List Nat) : (cnt4 o).sum ≤ o.length := by
  induction o with
  | nil => simp [cnt4]
  | cons x t ih =>
    unfold cnt4 at ih ⊢
    simp only [List.count_cons, List.sum_cons, List.sum_nil, List.length_cons] at ih ⊢
    by_cases h0 : x = 0
    · subst h0; simp; omega
    · by_cases h1 : x = 1
      · subst h1; simp; omega
      · by_cases h2 : x = 2
        · subst h2; simp; omega
        · by_cases h3 : x = 3
          · subst h3; simp; omega
          · simp [h0, h1, h2, h3]; omega
theorem cnt4_pos {o : List Nat} {k : Nat} (h : k < o.length) (h4 : o.getD k 0 < 4) : (cnt4 (o.drop k)).getD (o.getD k 0) 0 ≠ 0 := by
  rw [drop_getD h]
  generalize o.getD k 0 = x at *
  unfold cnt4
  have : x = 0 ∨ x = 1 ∨ x = 2 ∨ x = 3 := by omega
  rcases this with rfl | rfl | rfl | rfl <;> simp
theorem ofR_drop {o : List Nat} {k : Nat} (L : List Nat) (h : k < o.length) : ofR L (o.drop k) = sumTo L (o.getD k 0) + ofR (dec L (o.getD k 0)) (o.drop (k + 1)) := by
  rw [drop_getD h, ofR]
end Go.Proofs.Ytopadiofanaaiaa.TurnLaw
