/- A table of processes: in plain numbers. No program here. -/
import Derived.Test.YtgdihccmkleimaaBits
namespace Go.Proofs.Ytgdihccmkleimaa.ProcLaw

structure E where
  st : Int
  par : Int
  gr : Int
  code : Int
abbrev T := Nat → E
abbrev e0 : E := ⟨0, 0, 0, 0⟩
def updE (t : T) (k : Nat) (e : E) : T := fun j => if j = k then e else t j
theorem updE_same (t : T) (k : Nat) (e : E) : updE t k e k = e := by simp [updE]
theorem updE_other (t : T) {k j : Nat} (e : E) (h : j ≠ k) : updE t k e j = t j := by simp [updE, h]
/-- entry 1 lives, none else is there -/
def start : T := updE (fun _ => e0) 1 ⟨1, 0, 1, 0⟩

def alive (t : T) (p : Nat) : Prop := 1 ≤ p ∧ p ≤ 16 ∧ (t p).st = 1
def forked (t : T) (k p : Nat) : T := updE t k ⟨1, p, (t p).gr, 0⟩
def orphan (p : Nat) (e : E) : E := if e.st ≠ 0 ∧ e.par = p then ⟨e.st, 1, e.gr, e.code⟩ else e
/-- the first k entries lose their parent p -/
def lost (t : T) (p k : Nat) : T := fun j => if j < k then orphan p (t j) else t j
def ended (t : T) (p : Nat) (c : Int) : T := updE (lost t p 17) p ⟨2, (lost t p 17 p).par, (lost t p 17 p).gr, c⟩

theorem orphan_st (p : Nat) (e : E) : (orphan p e).st = e.st := by unfold orphan; split <;> rfl
theorem lost_st (t : T) (p k j : Nat) : (lost t p k j).st = (t j).st := by unfold lost; split; exact orphan_st _ _; rfl
theorem lost_zero (t : T) (p : Nat) : lost t p 0 = t := by funext j; simp [lost]
theorem lost_next (t : T) (p k : Nat) : lost t p (k + 1) = updE (lost t p k) k (orphan p (t k)) := by
  funext j
  by_cases h : j = k
  · subst h; simp [lost, updE]
  · simp only [lost, updE, if_neg h]
    by_cases h2 : j < k
    · rw [if_pos h2, if_pos (by omega)]
    · rw [if_neg h2, if_neg (by omega)]
theorem lost_at (t : T) (p k : Nat) : lost t p k k = t k := by simp [lost]

/-- how many from 2 to 16 are not free -/
def cnt (t : T) : Nat := (List.range 15).countP (fun i => decide ((t (i + 2)).st ≠ 0))

structure Inv (t : T) : Prop where
  z : (t 0).st = 0
  o : (t 1).st = 1
  r : ∃ r : Nat → Nat, r 1 = 0 ∧ ∀ k, 2 ≤ k → k ≤ 16 → (t k).st ≠ 0 → ∃ q : Nat, (t k).par = q ∧ 1 ≤ q ∧ q ≤ 16 ∧ (t q).st = 1 ∧ r q < r k

theorem start_inv : Inv start := by
  refine ⟨rfl, rfl, fun _ => 0, rfl, fun k h1 h2 h => absurd ?_ h⟩
  rw [start, updE_other _ _ (by omega)]
theorem start_cnt : cnt start = 0 := by decide

theorem countP_add (l : List Nat) (hn : l.Nodup) (f g : Nat → Bool) (k : Nat) (hk : k ∈ l) (hf : f k = false) (hg : g k = true) (h : ∀ j, j ≠ k → f j = g j) : l.countP g = l.countP f + 1 := by
  induction l with
  | nil => cases hk
  | cons x t ih =>
    rw [List.nodup_cons] at hn
    by_cases hx : x = k
    · subst hx
      rw [List.countP_cons_of_pos hg, List.countP_cons_of_neg (by simp [hf])]
      congr 1
      apply List.countP_congr
      intro y hy
      rw [h y (fun e => hn.1 (e ▸ hy))]
    · have hk' : k ∈ t := by
        rcases List.mem_cons.1 hk with h | h
        · exact absurd h.symm hx
        · exact h
      have := ih hn.2 hk'
      have e := h x hx
      by_cases hgx : g x = true
      · rw [List.countP_cons_of_pos hgx, List.countP_cons_of_pos (by rw [e]; exact hgx)]; omega
      · rw [List.countP_cons_of_neg hgx, List.countP_cons_of_neg (by rw [e]; exact hgx)]; omega
theorem cnt_up {t t' : T} {k : Nat} (h1 : 2 ≤ k) (h2 : k ≤ 16) (hf : (t k).st = 0) (hg : (t' k).st ≠ 0) (h : ∀ j, j ≠ k → ((t j).st ≠ 0 ↔ (t' j).st ≠ 0)) : cnt t' = cnt t + 1 := by
  unfold cnt
  apply countP_add _ List.nodup_range _ _ (k - 2) (List.mem_range.2 (by omega))
  · simp [show k - 2 + 2 = k by omega, hf]
  · simp [show k - 2 + 2 = k by omega, hg]
  · intro j hj
    have := h (j + 2) (by omega)
    simp only [decide_eq_decide]
    exact this
theorem cnt_same {t t' : T} (h : ∀ j, ((t j).st ≠ 0 ↔ (t' j).st ≠ 0)) : cnt t' = cnt t := by
  unfold cnt
  congr 1
  funext i
  simp only [decide_eq_decide]
  exact (h (i + 2)).symm

theorem fork_cnt {t : T} {k p : Nat} (hi : Inv t) (h1 : 1 ≤ k) (h2 : k ≤ 16) (hf : (t k).st = 0) : cnt (forked t k p) = cnt t + 1 := by
  have hk : k ≠ 1 := by rintro rfl; rw [hi.o] at hf; cases hf
  refine cnt_up (by omega) h2 hf (by rw [forked, updE_same]; simp) fun j hj => ?_
  rw [forked, updE_other _ _ hj]
theorem fork_inv {t : T} {k p : Nat} (hi : Inv t) (h1 : 1 ≤ k) (h2 : k ≤ 16) (hf : (t k).st = 0) (hp : alive t p) : Inv (forked t k p) := by
  have hk : k ≠ 1 := by rintro rfl; rw [hi.o] at hf; cases hf
  obtain ⟨p1, p2, p3⟩ := hp
  have hpk : p ≠ k := by rintro rfl; rw [hf] at p3; cases p3
  obtain ⟨r, r1, hr⟩ := hi.r
  refine ⟨?_, ?_, fun j => if j = k then r p + 1 else r j, ?_, fun j j1 j2 hj => ?_⟩
  · rw [forked, updE_other _ _ (by omega)]; exact hi.z
  · rw [forked, updE_other _ _ (by omega)]; exact hi.o
  · simp only [if_neg (Ne.symm hk)]; exact r1
  · by_cases hjk : j = k
    · subst hjk
      refine ⟨p, by rw [forked, updE_same], p1, p2, by rw [forked, updE_other _ _ hpk]; exact p3, ?_⟩
      simp [hpk]
    · rw [forked, updE_other _ _ hjk] at hj ⊢
      obtain ⟨q, q1, q2, q3, q4, q5⟩ := hr j j1 j2 hj
      have hqk : q ≠ k := by rintro rfl; rw [hf] at q4; cases q4
      refine ⟨q, q1, q2, q3, by rw [updE_other _ _ hqk]; exact q4, ?_⟩
      simp [hqk, hjk, q5]
theorem ended_st (t : T) (p : Nat) (c : Int) (j : Nat) : (ended t p c j).st = if j = p then 2 else (t j).st := by
  unfold ended
  by_cases h : j = p
  · subst h; rw [updE_same, if_pos rfl]
  · rw [updE_other _ _ h, if_neg h, lost_st]
theorem exit_cnt {t : T} {p : Nat} {c : Int} (hp : alive t p) : cnt (ended t p c) = cnt t := by
  refine cnt_same fun j => ?_
  rw [ended_st]
  by_cases h : j = p
  · subst h; rw [if_pos rfl, hp.2.2]; simp
  · rw [if_neg h]
theorem ended_par (t : T) (p : Nat) (c : Int) (j : Nat) (hj : j < 17) : (ended t p c j).par = (orphan p (t j)).par := by
  unfold ended
  by_cases h : j = p
  · subst h; rw [updE_same]; simp [lost, hj]
  · rw [updE_other _ _ h]; simp [lost, hj]
theorem exit_inv {t : T} {p : Nat} {c : Int} (hi : Inv t) (hp : alive t p) (h1 : p ≠ 1) : Inv (ended t p c) := by
  obtain ⟨r, r1, hr⟩ := hi.r
  obtain ⟨p1, p2, p3⟩ := hp
  refine ⟨?_, ?_, r, r1, fun j j1 j2 hj => ?_⟩
  · rw [ended_st, if_neg (by omega)]; exact hi.z
  · rw [ended_st, if_neg (Ne.symm h1)]; exact hi.o
  · have hj' : (t j).st ≠ 0 := by
      rw [ended_st] at hj
      by_cases h : j = p
      · subst h; rw [p3]; decide
      · rw [if_neg h] at hj; exact hj
    obtain ⟨q, q1, q2, q3, q4, q5⟩ := hr j j1 j2 hj'
    rw [ended_par _ _ _ _ (by omega)]
    by_cases hq : q = p
    · refine ⟨1, ?_, by omega, by omega, ?_, by omega⟩
      · rw [orphan, if_pos ⟨hj', by rw [q1, hq]⟩]; rfl
      · rw [ended_st, if_neg (Ne.symm h1)]; exact hi.o
    · refine ⟨q, ?_, q2, q3, ?_, q5⟩
      · rw [orphan, if_neg (fun h => hq (by have := h.2; rw [q1] at this; omega))]; exact q1
      · rw [ended_st, if_neg hq]; exact q4
theorem wait_cnt {t : T} {k : Nat} (h1 : 2 ≤ k) (h2 : k ≤ 16) (hk : (t k).st = 2) : cnt t = cnt (updE t k e0) + 1 := by
  refine cnt_up h1 h2 (by rw [updE_same]) (by rw [hk]; decide) fun j hj => ?_
  rw [updE_other _ _ hj]
theorem wait_two {t : T} {k : Nat} (hi : Inv t) (hk : (t k).st = 2) : 2 ≤ k := by
  have h0 : k ≠ 0 := by rintro rfl; rw [hi.z] at hk; cases hk
  have h1 : k ≠ 1 := by rintro rfl; rw [hi.o] at hk; cases hk
  omega
theorem wait_inv {t : T} {k : Nat} (hi : Inv t) (hk : (t k).st = 2) : Inv (updE t k e0) := by
  have h2 := wait_two hi hk
  obtain ⟨r, r1, hr⟩ := hi.r
  refine ⟨?_, ?_, r, r1, fun j j1 j2 hj => ?_⟩
  · rw [updE_other _ _ (by omega)]; exact hi.z
  · rw [updE_other _ _ (by omega)]; exact hi.o
  · by_cases hjk : j = k
    · subst hjk; rw [updE_same] at hj; exact absurd rfl hj
    · rw [updE_other _ _ hjk] at hj ⊢
      obtain ⟨q, q1, q2, q3, q4, q5⟩ := hr j j1 j2 hj
      have hqk : q ≠ k := by rintro rfl; rw [hk] at q4; cases q4
      exact ⟨q, q1, q2, q3, by rw [updE_other _ _ hqk]; exact q4, q5⟩

/-- how many that are there stand nearer to the first one -/
def near (t : T) (r : Nat → Nat) (u : Nat) : Nat := (List.range 17).countP (fun q => decide ((t q).st ≠ 0 ∧ r q < r u))
theorem countP_lt (l : List Nat) (f g : Nat → Bool) (h : ∀ j, f j = true → g j = true) (k : Nat) (hk : k ∈ l) (hf : f k = false) (hg : g k = true) : l.countP f < l.countP g := by
  induction l with
  | nil => cases hk
  | cons x t ih =>
    have hmono : t.countP f ≤ t.countP g := List.countP_mono_left fun j _ hj => h j hj
    rcases List.mem_cons.1 hk with rfl | hk'
    · rw [List.countP_cons_of_pos hg, List.countP_cons_of_neg (by simp [hf])]; omega
    · have := ih hk'
      by_cases hfx : f x = true
      · rw [List.countP_cons_of_pos hfx, List.countP_cons_of_pos (h x hfx)]; omega
      · rw [List.countP_cons_of_neg hfx]
        by_cases hgx : g x = true
        · rw [List.countP_cons_of_pos hgx]; omega
        · rw [List.countP_cons_of_neg hgx]; omega
theorem near_up {t : T} {r : Nat → Nat} {u q : Nat} (hq : q < 17) (hs : (t q).st ≠ 0) (hr : r q < r u) : near t r q < near t r u := by
  unfold near
  refine countP_lt _ _ _ (fun j hj => ?_) q (List.mem_range.2 hq) (by simp) (by simp [hs, hr])
  simp at hj ⊢
  exact ⟨hj.1, by omega⟩
theorem near_le {t : T} {r : Nat → Nat} {u : Nat} (hz : (t 0).st = 0) (hu1 : 1 ≤ u) (hu : u ≤ 16) : near t r u ≤ 15 := by
  have h1 : near t r u < (List.range 17).countP (fun q => decide (q ≠ 0)) := by
    unfold near
    refine countP_lt _ _ _ (fun j hj => ?_) u (List.mem_range.2 (by omega)) (by simp) (by simp; omega)
    simp at hj ⊢
    rintro rfl
    exact hj.1 hz
  have h2 : (List.range 17).countP (fun q => decide (q ≠ 0)) = 16 := by decide
  omega
end Go.Proofs.Ytgdihccmkleimaa.ProcLaw
