/- Limits in a tree of boxes: in plain numbers. No program here. A box is a row of three numbers: whose it is within, how much it has, how much it may have. -/
import Derived.Test.YtgdihccmkleimaaBoxPlain
namespace Go.Proofs.Ytgdihccmkleimaa.LimitLaw
open BoxLaw (Rg)
abbrev r0 : Rg := ⟨0, 0, 0⟩

def kidsL : List Rg → Int → Int
  | [], _ => 0
  | r :: t, k => (if r.a = k then r.b else 0) + kidsL t k

def okUp (j : Nat) (r : Rg) : Bool := decide (-1 ≤ r.a) && decide (r.a < j)
def okNum (r : Rg) : Bool := decide (0 ≤ r.n) && decide (r.n ≤ 1000000) && decide (0 ≤ r.b) && decide (r.b ≤ r.n)
theorem okUp_iff (j : Nat) (r : Rg) : okUp j r = true ↔ (-1 ≤ r.a ∧ r.a < j) := by simp [okUp]
theorem okNum_iff (r : Rg) : okNum r = true ↔ (0 ≤ r.n ∧ r.n ≤ 1000000 ∧ 0 ≤ r.b ∧ r.b ≤ r.n) := by simp [okNum, and_assoc]

def chk1 (j : Nat) : List Rg → Int
  | [] => 0
  | r :: t => if okUp j r then (if okNum r then chk1 (j + 1) t else 1) else 3
def over (l : List Rg) (i : Nat) : Bool := decide ((l.getD i r0).b < kidsL l i)
def chk2 (l : List Rg) : Int := if (List.range l.length).any (over l) then 20 else 0
def chkT (l : List Rg) : Int := if l.length > 12 then 2 else if chk1 0 l = 0 then chk2 l else chk1 0 l

structure Good (l : List Rg) : Prop where
  up : ∀ j, j < l.length → -1 ≤ (l.getD j r0).a ∧ (l.getD j r0).a < j
  num : ∀ j, j < l.length → 0 ≤ (l.getD j r0).n ∧ (l.getD j r0).n ≤ 1000000 ∧ 0 ≤ (l.getD j r0).b ∧ (l.getD j r0).b ≤ (l.getD j r0).n
theorem chk1_zero : ∀ (l : List Rg) (j : Nat), chk1 j l = 0 ↔ (∀ i, i < l.length → okUp (j + i) (l.getD i r0) = true ∧ okNum (l.getD i r0) = true) := by
  intro l
  induction l with
  | nil => intro j; simp [chk1]
  | cons r t ih =>
    intro j
    simp only [chk1]
    by_cases h1 : okUp j r = true
    · rw [if_pos h1]
      by_cases h2 : okNum r = true
      · rw [if_pos h2, ih]
        constructor
        · intro h i hi
          cases i with
          | zero => exact ⟨h1, h2⟩
          | succ i =>
            have := h i (by simpa using hi)
            rw [show j + 1 + i = j + (i + 1) from by omega] at this
            simpa using this
        · intro h i hi
          have := h (i + 1) (by simpa using hi)
          rw [show j + (i + 1) = j + 1 + i from by omega] at this
          simpa using this
      · rw [if_neg h2]
        constructor
        · intro h; cases h
        · intro h; exact absurd (h 0 (by simp)).2 h2
    · rw [if_neg h1]
      constructor
      · intro h; cases h
      · intro h; exact absurd (h 0 (by simp)).1 h1
theorem chk1_good (l : List Rg) : chk1 0 l = 0 ↔ Good l := by
  rw [chk1_zero]
  constructor
  · intro h
    exact ⟨fun j hj => by have := (okUp_iff _ _).1 (h j hj).1; rw [Nat.zero_add] at this; exact this, fun j hj => (okNum_iff _).1 (h j hj).2⟩
  · intro h i hi
    rw [Nat.zero_add]
    exact ⟨(okUp_iff _ _).2 (h.up i hi), (okNum_iff _).2 (h.num i hi)⟩
def Held (l : List Rg) : Prop := ∀ i, i < l.length → kidsL l i ≤ (l.getD i r0).b
theorem chk2_zero (l : List Rg) : chk2 l = 0 ↔ Held l := by
  unfold chk2 Held
  by_cases h : (List.range l.length).any (over l) = true
  · rw [if_pos h]
    constructor
    · intro h; cases h
    · intro hh
      obtain ⟨i, hi, hv⟩ := List.any_eq_true.1 h
      simp [over] at hv hi
      have := hh i hi
      simp [List.getD] at this
      omega
  · rw [if_neg h]
    refine ⟨fun _ i hi => ?_, fun _ => rfl⟩
    rcases Int.lt_or_le (l.getD i r0).b (kidsL l i) with hlt | hle
    · exact absurd (List.any_eq_true.2 ⟨i, by simpa using hi, by simp only [over, decide_eq_true_eq]; exact hlt⟩) h
    · exact hle
theorem chkT_zero (l : List Rg) : chkT l = 0 ↔ (l.length ≤ 12 ∧ Good l ∧ Held l) := by
  unfold chkT
  by_cases h : l.length > 12
  · rw [if_pos h]
    constructor
    · intro h; cases h
    · intro ⟨h', _⟩; omega
  · rw [if_neg h]
    by_cases h1 : chk1 0 l = 0
    · rw [if_pos h1, chk2_zero]
      exact ⟨fun hh => ⟨by omega, (chk1_good l).1 h1, hh⟩, fun hh => hh.2.2⟩
    · rw [if_neg h1]
      exact ⟨fun hh => absurd hh h1, fun hh => absurd ((chk1_good l).2 hh.2.1) h1⟩

/-! ### the way up from a box -/
def chain (l : List Rg) : Nat → Int → List Nat
  | 0, _ => []
  | f + 1, k => if k < 0 then [] else k.toNat :: chain l f (l.getD k.toNat r0).a

def addTo (S : List Nat) (n : Int) : Nat → List Rg → List Rg
  | _, [] => []
  | j, r :: t => (if j ∈ S then ⟨r.a, r.b + n, r.n⟩ else r) :: addTo S n (j + 1) t
theorem addTo_length (S : List Nat) (n : Int) : ∀ (l : List Rg) (j : Nat), (addTo S n j l).length = l.length := by
  intro l; induction l with
  | nil => intro j; rfl
  | cons r t ih => intro j; simp [addTo, ih]
theorem addTo_get (S : List Nat) (n : Int) : ∀ (l : List Rg) (j i : Nat), i < l.length → (addTo S n j l).getD i r0 = if j + i ∈ S then ⟨(l.getD i r0).a, (l.getD i r0).b + n, (l.getD i r0).n⟩ else l.getD i r0 := by
  intro l; induction l with
  | nil => intro j i h; simp at h
  | cons r t ih =>
    intro j i h
    cases i with
    | zero => simp [addTo]
    | succ i =>
      have := ih (j + 1) i (by simpa using h)
      rw [show j + 1 + i = j + (i + 1) from by omega] at this
      simpa [addTo] using this

def cnt (S : List Nat) (k : Int) : Nat → List Rg → Int
  | _, [] => 0
  | j, r :: t => (if j ∈ S ∧ r.a = k then 1 else 0) + cnt S k (j + 1) t
theorem kids_addTo (S : List Nat) (n k : Int) : ∀ (l : List Rg) (j : Nat), kidsL (addTo S n j l) k = kidsL l k + n * cnt S k j l := by
  intro l; induction l with
  | nil => intro j; simp [addTo, kidsL, cnt]
  | cons r t ih =>
    intro j
    simp only [addTo, kidsL, cnt, ih]
    by_cases h1 : j ∈ S
    · by_cases h2 : r.a = k
      · simp only [if_pos h1, if_pos h2, if_pos (And.intro h1 h2), Int.mul_add]; omega
      · have : ¬ (j ∈ S ∧ r.a = k) := fun h => h2 h.2
        simp only [if_pos h1, if_neg h2, if_neg this, Int.mul_add]; omega
    · have : ¬ (j ∈ S ∧ r.a = k) := fun h => h1 h.1
      simp only [if_neg h1, if_neg this, Int.mul_add]; omega
theorem cnt_nil (k : Int) : ∀ (l : List Rg) (j : Nat), cnt [] k j l = 0 := by
  intro l; induction l with
  | nil => intro j; rfl
  | cons r t ih => intro j; simp [cnt, ih]
theorem cnt_cons {x : Nat} {S : List Nat} (k : Int) (hx : x ∉ S) : ∀ (l : List Rg) (j : Nat), cnt (x :: S) k j l = cnt S k j l + (if j ≤ x ∧ x < j + l.length ∧ (l.getD (x - j) r0).a = k then 1 else 0) := by
  intro l; induction l with
  | nil =>
    intro j
    have : ¬ (j ≤ x ∧ x < j + ([] : List Rg).length ∧ (([] : List Rg).getD (x - j) r0).a = k) := by simp; omega
    rw [if_neg this]; simp [cnt]
  | cons r t ih =>
    intro j
    simp only [cnt, ih]
    by_cases hj : j = x
    · subst hj
      have e1 : ¬ (j + 1 ≤ j ∧ j < j + 1 + t.length ∧ (t.getD (j - (j + 1)) r0).a = k) := by omega
      rw [if_neg e1]
      simp [hx, Int.add_comm]
    · have e2 : (j ∈ x :: S ∧ r.a = k) ↔ (j ∈ S ∧ r.a = k) := by simp [hj]
      have e3 : (j + 1 ≤ x ∧ x < j + 1 + t.length ∧ (t.getD (x - (j + 1)) r0).a = k) ↔ (j ≤ x ∧ x < j + (r :: t).length ∧ ((r :: t).getD (x - j) r0).a = k) := by
        by_cases hle : j + 1 ≤ x
        · have : x - j = (x - (j + 1)) + 1 := by omega
          rw [this]
          simp
          constructor
          · rintro ⟨h1, h2, h3⟩; exact ⟨by omega, by omega, h3⟩
          · rintro ⟨h1, h2, h3⟩; exact ⟨by omega, by omega, h3⟩
        · constructor <;> intro h <;> omega
      simp only [e2, e3]
      omega

section
variable {l : List Rg} (hup : ∀ j, j < l.length → -1 ≤ (l.getD j r0).a ∧ (l.getD j r0).a < j)
include hup
theorem chain_lt : ∀ (f : Nat) (k : Int), k < l.length → ∀ x ∈ chain l f k, (x : Int) ≤ k ∧ x < l.length := by
  intro f
  induction f with
  | zero => intro k _ x hx; simp [chain] at hx
  | succ f ih =>
    intro k hk x hx
    simp only [chain] at hx
    by_cases h0 : k < 0
    · rw [if_pos h0] at hx; simp at hx
    · rw [if_neg h0] at hx
      rcases List.mem_cons.1 hx with rfl | hx
      · omega
      · have hu := hup k.toNat (by omega)
        have := ih _ (by omega) x hx
        omega
theorem chain_fuel : ∀ (f f' : Nat) (k : Int), k < l.length → k < f → k < f' → chain l f k = chain l f' k := by
  intro f
  induction f with
  | zero =>
    intro f' k hk h1 h2
    cases f' with
    | zero => rfl
    | succ f' => simp only [chain]; rw [if_pos (by omega)]
  | succ f ih =>
    intro f' k hk h1 h2
    cases f' with
    | zero => simp only [chain]; rw [if_pos (by omega)]
    | succ f' =>
      simp only [chain]
      by_cases h0 : k < 0
      · rw [if_pos h0, if_pos h0]
      · rw [if_neg h0, if_neg h0]
        have hu := hup k.toNat (by omega)
        rw [ih f' _ (by omega) (by omega) (by omega)]

/-- how many on the way have k0 above them: one, if k0 is on the way behind its first -/
theorem cnt_chain (i : Nat) : ∀ (f : Nat) (k : Int), 0 ≤ k → k < l.length → k < f → cnt (chain l f k) i 0 l = if i ∈ chain l f (l.getD k.toNat r0).a then 1 else 0 := by
  intro f
  induction f with
  | zero => intro k h0 hk hf; omega
  | succ f ih =>
    intro k h0 hk hf
    have hu := hup k.toNat (by omega)
    have e : chain l (f + 1) k = k.toNat :: chain l f (l.getD k.toNat r0).a := by simp only [chain]; rw [if_neg (by omega)]
    obtain ⟨a, ha⟩ : ∃ a, a = (l.getD k.toNat r0).a := ⟨_, rfl⟩
    rw [e, ← ha]
    rw [← ha] at hu
    have hnot : k.toNat ∉ chain l f a := fun hm => by have := chain_lt hup f a (by omega) _ hm; omega
    rw [cnt_cons _ hnot, Nat.sub_zero, ← ha]
    by_cases hneg : a < 0
    · have e1 : chain l f a = [] := by cases f with
        | zero => rfl
        | succ f => simp only [chain]; rw [if_pos hneg]
      have e2 : chain l (f + 1) a = [] := by simp only [chain]; rw [if_pos hneg]
      rw [e1, e2, cnt_nil]
      have : ¬ (0 ≤ k.toNat ∧ k.toNat < 0 + l.length ∧ a = (i : Int)) := by omega
      rw [if_neg this]; simp
    · rw [ih a (by omega) (by omega) (by omega)]
      have hfu : chain l (f + 1) a = a.toNat :: chain l f (l.getD a.toNat r0).a := by simp only [chain]; rw [if_neg hneg]
      rw [hfu]
      have hu2 := hup a.toNat (by omega)
      by_cases hia : a = i
      · have hnm : i ∉ chain l f (l.getD a.toNat r0).a := fun hm => by have := chain_lt hup f _ (by omega) _ hm; omega
        rw [if_neg hnm, if_pos ⟨by omega, by omega, hia⟩, if_pos (by rw [hia]; simp)]; rfl
      · have : ¬ (0 ≤ k.toNat ∧ k.toNat < 0 + l.length ∧ a = (i : Int)) := fun h => hia h.2.2
        rw [if_neg this]
        have hne : i ≠ a.toNat := by omega
        simp [hne]
end
end Go.Proofs.Ytgdihccmkleimaa.LimitLaw
