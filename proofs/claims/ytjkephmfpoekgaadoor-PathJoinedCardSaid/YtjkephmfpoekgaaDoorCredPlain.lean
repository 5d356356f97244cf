/- Who asks, and what he may: in plain numbers. No program here. -/
import Derived.Test.YtjkephmfpoekgaaDoorBits
namespace Go.Proofs.YtjkephmfpoekgaaDoor.CredLaw

structure C where
  user : Int
  group : Int
  xs : List Int
  caps : Int
  level : Int
  kind : Int

def chkP : Option Int → List Int → Int
  | _, [] => 0
  | p, x :: t => if x < 0 ∨ 99 < x then 1 else match p with
    | none => chkP (some x) t
    | some q => if x ≤ q then 3 else chkP (some x) t
def ids (c : C) : Prop := 0 ≤ c.user ∧ c.user ≤ 99 ∧ 0 ≤ c.group ∧ c.group ≤ 99
instance (c : C) : Decidable (ids c) := by unfold ids; infer_instance
def fits (c : C) : Prop := 0 ≤ c.caps ∧ c.caps ≤ 127 ∧ 0 ≤ c.level ∧ c.level ≤ 7 ∧ 0 ≤ c.kind ∧ c.kind ≤ 255
instance (c : C) : Decidable (fits c) := by unfold fits; infer_instance
def chkC (c : C) : Int := if ids c then (if c.xs.length > 4 then 2 else if chkP none c.xs = 0 then (if fits c then 0 else 1) else chkP none c.xs) else 1

theorem chkC_zero (c : C) : chkC c = 0 ↔ (ids c ∧ c.xs.length ≤ 4 ∧ chkP none c.xs = 0 ∧ fits c) := by
  unfold chkC
  by_cases h1 : ids c
  · rw [if_pos h1]
    by_cases h2 : c.xs.length > 4
    · rw [if_pos h2]; constructor
      · intro h; cases h
      · intro h; omega
    · rw [if_neg h2]
      by_cases h3 : chkP none c.xs = 0
      · rw [if_pos h3]
        by_cases h4 : fits c
        · rw [if_pos h4]; exact ⟨fun _ => ⟨h1, by omega, h3, h4⟩, fun _ => rfl⟩
        · rw [if_neg h4]; constructor
          · intro h; cases h
          · intro h; exact absurd h.2.2.2 h4
      · rw [if_neg h3]; exact ⟨fun h => absurd h h3, fun h => absurd h.2.2.1 h3⟩
  · rw [if_neg h1]; constructor
    · intro h; cases h
    · intro h; exact absurd h.1 h1

def prev (l : List Int) (k : Nat) : Option Int := if k = 0 then none else some (l.getD (k - 1) 0)
theorem drop_at (l : List Int) (k : Nat) (h : k < l.length) : l.drop k = l.getD k 0 :: l.drop (k + 1) := by
  rw [List.drop_eq_getElem_cons h]; simp [List.getD, h]
theorem chkP_out {l : List Int} {k : Nat} (h : k < l.length) (hc : chkP none l = chkP (prev l k) (l.drop k)) (hb : l.getD k 0 < 0 ∨ 99 < l.getD k 0) : chkP none l = 1 := by
  rw [hc, drop_at l k h]
  cases prev l k <;> rw [chkP, if_pos hb]
theorem chkP_back {l : List Int} {k : Nat} (h : k + 1 < l.length) (hc : chkP none l = chkP (prev l (k + 1)) (l.drop (k + 1))) (hb : ¬ (l.getD (k + 1) 0 < 0 ∨ 99 < l.getD (k + 1) 0)) (hle : l.getD (k + 1) 0 ≤ l.getD k 0) : chkP none l = 3 := by
  rw [hc, drop_at l _ h, prev, if_neg (by omega), chkP, if_neg hb]
  simp only [Nat.add_sub_cancel]
  rw [if_pos hle]
theorem chkP_next0 {l : List Int} (h : 0 < l.length) (hb : ¬ (l.getD 0 0 < 0 ∨ 99 < l.getD 0 0)) : chkP none l = chkP (prev l 1) (l.drop 1) := by
  have hd := drop_at l 0 h
  rw [List.drop_zero] at hd
  conv => lhs; rw [hd]
  rw [chkP, if_neg hb]
  rfl
theorem chkP_next {l : List Int} {k : Nat} (h : k + 1 < l.length) (hc : chkP none l = chkP (prev l (k + 1)) (l.drop (k + 1))) (hb : ¬ (l.getD (k + 1) 0 < 0 ∨ 99 < l.getD (k + 1) 0)) (hle : ¬ l.getD (k + 1) 0 ≤ l.getD k 0) : chkP none l = chkP (prev l (k + 2)) (l.drop (k + 2)) := by
  rw [hc, drop_at l _ h, prev, if_neg (by omega), chkP, if_neg hb]
  simp only [Nat.add_sub_cancel]
  rw [if_neg hle, prev, if_neg (by omega)]
  rfl
theorem chkP_end {l : List Int} (hc : chkP none l = chkP (prev l l.length) (l.drop l.length)) : chkP none l = 0 := by
  rw [hc, List.drop_length]; rfl
theorem chkC_ids {c : C} (h : ¬ ids c) : chkC c = 1 := by rw [chkC, if_neg h]
theorem chkC_long {c : C} (h : ids c) (h2 : c.xs.length > 4) : chkC c = 2 := by rw [chkC, if_pos h, if_pos h2]
theorem chkC_more {c : C} (h : ids c) (h2 : ¬ c.xs.length > 4) (h3 : ¬ chkP none c.xs = 0) : chkC c = chkP none c.xs := by rw [chkC, if_pos h, if_neg h2, if_neg h3]
theorem chkC_fits {c : C} (h : ids c) (h2 : ¬ c.xs.length > 4) (h3 : chkP none c.xs = 0) (h4 : ¬ fits c) : chkC c = 1 := by rw [chkC, if_pos h, if_neg h2, if_pos h3, if_neg h4]
theorem chkC_ok {c : C} (h : ids c) (h2 : ¬ c.xs.length > 4) (h3 : chkP none c.xs = 0) (h4 : fits c) : chkC c = 0 := by rw [chkC, if_pos h, if_neg h2, if_pos h3, if_pos h4]
end Go.Proofs.YtjkephmfpoekgaaDoor.CredLaw
