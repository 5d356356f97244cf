/- Signals: a set, what is sent, what comes next: in plain numbers. No program here. -/
import Derived.Test.YtmdjkoiglghipaaGreatDoorOwn
namespace Go.Proofs.YtmdjkoiglghipaaGreatDoor.SigLaw
set_option linter.unusedSimpArgs false
set_option linter.unusedVariables false

/-- pending, kept back, what is done with each of 16 -/
structure G where
  p : Int
  m : Int
  h : Nat → Int

/-- no bits beyond 1 to 15 -/
def fitB (x : Int) : Bool := (bits .andNot .i64 x 65534 == 0)
theorem fit_nat {x : Int} (h0 : -2 ^ 63 ≤ x) (h1 : x < 2 ^ 63) (h : fitB x = true) : ∃ n : Nat, x = n ∧ n < 65536 ∧ n.testBit 0 = false := by
  unfold fitB at h
  have h2 : bits .andNot .i64 x 65534 = 0 := by simpa using h
  have h3 : IntKind.i64.wrap ((BitVec.ofInt 64 x &&& ~~~BitVec.ofInt 64 65534).toNat : Int) = 0 := h2
  obtain ⟨b, hb⟩ : ∃ b, b = BitVec.ofInt 64 x := ⟨_, rfl⟩
  rw [← hb] at h3
  have h4 : (b &&& ~~~BitVec.ofInt 64 65534).toNat = 0 := by
    rw [IntKind.wrap_i64] at h3
    have := (b &&& ~~~BitVec.ofInt 64 65534).isLt
    omega
  have hbit : ∀ i, b.toNat.testBit i = true → i ≠ 0 ∧ i < 16 := by
    intro i hi
    have h5 : (b &&& ~~~BitVec.ofInt 64 65534).toNat.testBit i = false := by rw [h4]; simp
    rw [BitVec.testBit_toNat, BitVec.getLsbD_and, BitVec.getLsbD_not] at h5
    rw [BitVec.testBit_toNat] at hi
    have hlt : i < 64 := by
      rcases Nat.lt_or_ge i 64 with h | h
      · exact h
      · rw [BitVec.getLsbD_of_ge _ _ h] at hi; cases hi
    rw [hi] at h5
    simp [hlt] at h5
    have hex : ∀ i : Fin 64, (BitVec.ofInt 64 65534).getLsbD i.val = true → i.val ≠ 0 ∧ i.val < 16 := by decide +kernel
    exact hex ⟨i, hlt⟩ h5
  have hlt : b.toNat < 65536 := by
    apply Nat.lt_pow_two_of_testBit b.toNat (n := 16)
    intro i hi
    cases ht : b.toNat.testBit i
    · rfl
    · have := (hbit i ht).2; omega
  refine ⟨b.toNat, ?_, hlt, ?_⟩
  · have h6 : b.toInt = x := by
      rw [hb, BitVec.toInt_ofInt]
      apply Int.bmod_eq_of_le <;> omega
    rw [← h6, BitVec.toInt_eq_toNat_of_lt (by omega)]
  · cases ht : b.toNat.testBit 0
    · rfl
    · exact absurd rfl (hbit 0 ht).1
theorem nat_fit (n : Nat) (h : n < 65536) (h0 : n.testBit 0 = false) : fitB n = true := by
  unfold fitB
  rw [show (65534 : Int) = ((65534 : Nat) : Int) from rfl, i64_andNot n 65534 (by omega) (by decide)]
  have : less n 65534 = 0 := by
    rw [less_zero]
    intro i hi
    have hlt : i < 16 := by
      rcases Nat.lt_or_ge i 16 with h' | h'
      · exact h'
      · rw [Nat.testBit_lt_two_pow (Nat.lt_of_lt_of_le h (Nat.pow_le_pow_right (n := 2) (by decide) h'))] at hi; cases hi
    have h1 : i ≠ 0 := by rintro rfl; rw [h0] at hi; cases hi
    have hex : ∀ i : Fin 16, i.val ≠ 0 → (65534 : Nat).testBit i.val = true := by decide +kernel
    exact hex ⟨i, hlt⟩ h1
  rw [this]; rfl

theorem bit_is (n k : Nat) (h : n < 65536) : bits .and .i64 ((n : Int) / 2 ^ k) 1 = if n.testBit k = true then 1 else 0 := by
  have e : (n : Int) / 2 ^ k = ((n / 2 ^ k : Nat) : Int) := by norm_cast
  have hlt : n / 2 ^ k < 2 ^ 63 := Nat.lt_of_le_of_lt (Nat.div_le_self _ _) (by omega)
  rw [e, show (1 : Int) = ((1 : Nat) : Int) from rfl, i64_and _ _ hlt (by decide), Nat.and_one_is_mod, Nat.testBit_eq_decide_div_mod_eq]
  have : n / 2 ^ k % 2 = 0 ∨ n / 2 ^ k % 2 = 1 := by omega
  rcases this with h | h <;> simp [h]
theorem bit_eq (n k : Nat) (h : n < 65536) : (bits .and .i64 ((n : Int) / 2 ^ k) 1 == 1) = n.testBit k := by
  rw [bit_is n k h]
  cases n.testBit k <;> rfl

/-- a set that is right -/
structure Right (g : G) (P M : Nat) : Prop where
  p : g.p = P
  m : g.m = M
  pl : P < 65536
  p0 : P.testBit 0 = false
  ml : M < 65536
  m0 : M.testBit 0 = false
  m9 : M.testBit 9 = false
  h : ∀ j, j < 16 → 0 ≤ g.h j
  h0 : g.h 0 = 0
  h9 : g.h 9 = 0
def good (g : G) : Prop := ∃ P M, Right g P M

/-- how many bits among 0 to 15 -/
def pop (n : Nat) : Nat := (List.range 16).countP (fun i => n.testBit i)
theorem count_less (l : List Nat) (hn : l.Nodup) (q : Nat → Bool) (k : Nat) (hk : k ∈ l) (hq : q k = true) : l.countP (fun i => q i && !decide (i = k)) + 1 = l.countP q := by
  induction l with
  | nil => cases hk
  | cons x t ih =>
    rw [List.nodup_cons] at hn
    by_cases hx : x = k
    · subst hx
      rw [List.countP_cons_of_neg (by simp), List.countP_cons_of_pos hq]
      congr 1
      apply List.countP_congr
      intro y hy
      have : y ≠ x := fun e => hn.1 (e ▸ hy)
      simp [this]
    · have hk' : k ∈ t := by
        rcases List.mem_cons.1 hk with h | h
        · exact absurd h.symm hx
        · exact h
      have := ih hn.2 hk'
      by_cases hqx : q x = true
      · rw [List.countP_cons_of_pos (by simp [hqx, hx]), List.countP_cons_of_pos hqx]; omega
      · rw [List.countP_cons_of_neg (by simp [hqx]), List.countP_cons_of_neg hqx]; omega
theorem pop_less (n k : Nat) (hk : k < 16) (h : n.testBit k = true) : pop (less n (1 <<< k)) + 1 = pop n := by
  unfold pop
  rw [← count_less (List.range 16) List.nodup_range (fun i => n.testBit i) k (List.mem_range.2 hk) h]
  congr 2
  funext i
  rw [less_bit, Nat.one_shiftLeft, Nat.testBit_two_pow]
  by_cases e : k = i
  · subst e; simp
  · have e' : ¬ i = k := fun h => e h.symm
    simp [e, e']
theorem pop_le (n : Nat) : pop n ≤ 16 := by
  have := List.countP_le_length (p := fun i => n.testBit i) (l := List.range 16)
  simpa [pop] using this

theorem pop_lt (n : Nat) (h : n.testBit 0 = false) : pop n ≤ 15 := by
  unfold pop
  have : List.range 16 = 0 :: (List.range 15).map Nat.succ := by decide
  rw [this, List.countP_cons_of_neg (by simp [h])]
  have := List.countP_le_length (p := fun i => n.testBit i) (l := (List.range 15).map Nat.succ)
  simpa using this
theorem one_shift (k : Nat) (h : k < 16) : 1 <<< k < 65536 := by
  rw [Nat.one_shiftLeft]; exact Nat.pow_lt_pow_right (by decide) h
theorem less_lt (a b : Nat) (h : a < 65536) : less a b < 65536 := Nat.lt_of_le_of_lt (less_le a b) h
theorem less_bit0 (a b : Nat) (h : a.testBit 0 = false) : (less a b).testBit 0 = false := by rw [less_bit, h]; rfl
theorem or_bit0 (a k : Nat) (h : a.testBit 0 = false) (hk : 1 ≤ k) : (a ||| 1 <<< k).testBit 0 = false := by
  rw [Nat.testBit_or, h, Nat.one_shiftLeft, Nat.testBit_two_pow]
  simp; omega
theorem or_bit_same (a k : Nat) : (a ||| 1 <<< k).testBit k = true := by
  rw [Nat.testBit_or, Nat.one_shiftLeft, Nat.testBit_two_pow]; simp
theorem less_gone (a k : Nat) : (less a (1 <<< k)).testBit k = false := by
  rw [less_bit, Nat.one_shiftLeft, Nat.testBit_two_pow]; simp
theorem less_or (a k : Nat) (h : a.testBit k = true) : less a (1 <<< k) ||| 1 <<< k = a := by
  apply Nat.eq_of_testBit_eq
  intro i
  rw [Nat.testBit_or, less_bit, Nat.one_shiftLeft, Nat.testBit_two_pow]
  by_cases e : k = i
  · subst e; simp [h]
  · simp [e]
theorem or_or (a k : Nat) : a ||| 1 <<< k ||| 1 <<< k = a ||| 1 <<< k := by
  rw [Nat.or_assoc, Nat.or_self]

/-- nothing is done with signal n when it is sent -/
def deaf (g : G) (n : Nat) : Prop := g.h n = 1 ∨ (n = 7 ∧ g.h n = 0)
instance (g : G) (n : Nat) : Decidable (deaf g n) := by unfold deaf; infer_instance
/-- pending, when n was sent -/
def sentP (g : G) (P n : Nat) : Nat := if deaf g n then P else P ||| 1 <<< n
theorem sent_right {g : G} {P M n : Nat} (h : Right g P M) (h1 : 1 ≤ n) (h2 : n ≤ 15) : Right ⟨(sentP g P n : Nat), g.m, g.h⟩ (sentP g P n) M := by
  refine ⟨rfl, h.m, ?_, ?_, h.ml, h.m0, h.m9, h.h, h.h0, h.h9⟩
  · unfold sentP; split
    · exact h.pl
    · exact or_lt _ _ 16 h.pl (one_shift n (by omega))
  · unfold sentP; split
    · exact h.p0
    · exact or_bit0 _ _ h.p0 h1
theorem sentP_pos {g : G} {P n : Nat} (h : deaf g n) : sentP g P n = P := if_pos h
theorem sentP_neg {g : G} {P n : Nat} (h : ¬ deaf g n) : sentP g P n = P ||| 1 <<< n := if_neg h
theorem sent_twice (g : G) (P n : Nat) (x : Int) : sentP ⟨x, g.m, g.h⟩ (sentP g P n) n = sentP g P n := by
  by_cases hd : deaf g n
  · have hd2 : deaf ⟨x, g.m, g.h⟩ n := hd
    exact sentP_pos hd2
  · have hd2 : ¬ deaf ⟨x, g.m, g.h⟩ n := hd
    rw [sentP_neg hd2, sentP_neg hd]; exact or_or P n
theorem held_right {g : G} {P M k : Nat} (h : Right g P M) (hk : k < 65536) (hk0 : k.testBit 0 = false) : Right ⟨g.p, (less k 512 : Nat), g.h⟩ P (less k 512) := by
  refine ⟨h.p, rfl, h.pl, h.p0, less_lt _ _ hk, less_bit0 _ _ hk0, ?_, h.h, h.h0, h.h9⟩
  rw [show (512 : Nat) = 1 <<< 9 from rfl]; exact less_gone _ _
theorem taken_right {g : G} {P M k : Nat} (h : Right g P M) : Right ⟨(less P (1 <<< k) : Nat), g.m, g.h⟩ (less P (1 <<< k)) M :=
  ⟨rfl, h.m, less_lt _ _ h.pl, less_bit0 _ _ h.p0, h.ml, h.m0, h.m9, h.h, h.h0, h.h9⟩
end Go.Proofs.YtmdjkoiglghipaaGreatDoor.SigLaw
