/- A table of processes: in plain numbers. No program here. The walks of package proc: New, number, living, State, Parent. Slices of the call's own: what keeps them. No program here. What a call may turn: the blocks of a set, and none but them; new ones may come. No program here. The walks of proc.Fork, Exit, Wait. -/
import Derived.Test.YthioadiiedlmfaaGreatDoorBits
import Derived.Test.YthioadiiedlmfaaGreatDoorTab
import Derived.WalkSmall
import Derived.BigQuiet
import Derived.BigRegion
import Derived.OwnWalk
namespace Go.Proofs.YthioadiiedlmfaaGreatDoor.ProcLaw
set_option linter.unusedSimpArgs false
set_option linter.unusedVariables false

structure E where
  st : Int
  par : Int
  gr : Int
  code : Int
abbrev T := Nat → E
abbrev e0 : E := ⟨0, 0, 0, 0⟩
def updE (t : T) (k : Nat) (e : E) : T := fun j => if j = k then e else t j
theorem updE_same (t : T) (k : Nat) (e : E) : updE t k e k = e := by simp [updE]
theorem updE_other (t : T) {k j : Nat} (e : E) (h : j ≠ k) : updE t k e j = t j := by simp [updE, h]
/-- entry 1 lives, none else is there -/
def start : T := updE (fun _ => e0) 1 ⟨1, 0, 1, 0⟩

def alive (t : T) (p : Nat) : Prop := 1 ≤ p ∧ p ≤ 16 ∧ (t p).st = 1
def forked (t : T) (k p : Nat) : T := updE t k ⟨1, p, (t p).gr, 0⟩
def orphan (p : Nat) (e : E) : E := if e.st ≠ 0 ∧ e.par = p then ⟨e.st, 1, e.gr, e.code⟩ else e
/-- the first k entries lose their parent p -/
def lost (t : T) (p k : Nat) : T := fun j => if j < k then orphan p (t j) else t j
def ended (t : T) (p : Nat) (c : Int) : T := updE (lost t p 17) p ⟨2, (lost t p 17 p).par, (lost t p 17 p).gr, c⟩

theorem orphan_st (p : Nat) (e : E) : (orphan p e).st = e.st := by unfold orphan; split <;> rfl
theorem lost_st (t : T) (p k j : Nat) : (lost t p k j).st = (t j).st := by unfold lost; split; exact orphan_st _ _; rfl
theorem lost_zero (t : T) (p : Nat) : lost t p 0 = t := by funext j; simp [lost]
theorem lost_next (t : T) (p k : Nat) : lost t p (k + 1) = updE (lost t p k) k (orphan p (t k)) := by
  funext j
  by_cases h : j = k
  · subst h; simp [lost, updE]
  · simp only [lost, updE, if_neg h]
    by_cases h2 : j < k
    · rw [if_pos h2, if_pos (by omega)]
    · rw [if_neg h2, if_neg (by omega)]
theorem lost_at (t : T) (p k : Nat) : lost t p k k = t k := by simp [lost]

/-- how many from 2 to 16 are not free -/
def cnt (t : T) : Nat := (List.range 15).countP (fun i => decide ((t (i + 2)).st ≠ 0))

structure Inv (t : T) : Prop where
  z : (t 0).st = 0
  o : (t 1).st = 1
  r : ∃ r : Nat → Nat, r 1 = 0 ∧ ∀ k, 2 ≤ k → k ≤ 16 → (t k).st ≠ 0 → ∃ q : Nat, (t k).par = q ∧ 1 ≤ q ∧ q ≤ 16 ∧ (t q).st = 1 ∧ r q < r k

theorem start_inv : Inv start := by
  refine ⟨rfl, rfl, fun _ => 0, rfl, fun k h1 h2 h => absurd ?_ h⟩
  rw [start, updE_other _ _ (by omega)]
theorem start_cnt : cnt start = 0 := by decide

theorem countP_add (l : List Nat) (hn : l.Nodup) (f g : Nat → Bool) (k : Nat) (hk : k ∈ l) (hf : f k = false) (hg : g k = true) (h : ∀ j, j ≠ k → f j = g j) : l.countP g = l.countP f + 1 := by
  induction l with
  | nil => cases hk
  | cons x t ih =>
    rw [List.nodup_cons] at hn
    by_cases hx : x = k
    · subst hx
      rw [List.countP_cons_of_pos hg, List.countP_cons_of_neg (by simp [hf])]
      congr 1
      apply List.countP_congr
      intro y hy
      rw [h y (fun e => hn.1 (e ▸ hy))]
    · have hk' : k ∈ t := by
        rcases List.mem_cons.1 hk with h | h
        · exact absurd h.symm hx
        · exact h
      have := ih hn.2 hk'
      have e := h x hx
      by_cases hgx : g x = true
      · rw [List.countP_cons_of_pos hgx, List.countP_cons_of_pos (by rw [e]; exact hgx)]; omega
      · rw [List.countP_cons_of_neg hgx, List.countP_cons_of_neg (by rw [e]; exact hgx)]; omega
theorem cnt_up {t t' : T} {k : Nat} (h1 : 2 ≤ k) (h2 : k ≤ 16) (hf : (t k).st = 0) (hg : (t' k).st ≠ 0) (h : ∀ j, j ≠ k → ((t j).st ≠ 0 ↔ (t' j).st ≠ 0)) : cnt t' = cnt t + 1 := by
  unfold cnt
  apply countP_add _ List.nodup_range _ _ (k - 2) (List.mem_range.2 (by omega))
  · simp [show k - 2 + 2 = k by omega, hf]
  · simp [show k - 2 + 2 = k by omega, hg]
  · intro j hj
    have := h (j + 2) (by omega)
    simp only [decide_eq_decide]
    exact this
theorem cnt_same {t t' : T} (h : ∀ j, ((t j).st ≠ 0 ↔ (t' j).st ≠ 0)) : cnt t' = cnt t := by
  unfold cnt
  congr 1
  funext i
  simp only [decide_eq_decide]
  exact (h (i + 2)).symm

theorem fork_cnt {t : T} {k p : Nat} (hi : Inv t) (h1 : 1 ≤ k) (h2 : k ≤ 16) (hf : (t k).st = 0) : cnt (forked t k p) = cnt t + 1 := by
  have hk : k ≠ 1 := by rintro rfl; rw [hi.o] at hf; cases hf
  refine cnt_up (by omega) h2 hf (by rw [forked, updE_same]; simp) fun j hj => ?_
  rw [forked, updE_other _ _ hj]
theorem fork_inv {t : T} {k p : Nat} (hi : Inv t) (h1 : 1 ≤ k) (h2 : k ≤ 16) (hf : (t k).st = 0) (hp : alive t p) : Inv (forked t k p) := by
  have hk : k ≠ 1 := by rintro rfl; rw [hi.o] at hf; cases hf
  obtain ⟨p1, p2, p3⟩ := hp
  have hpk : p ≠ k := by rintro rfl; rw [hf] at p3; cases p3
  obtain ⟨r, r1, hr⟩ := hi.r
  refine ⟨?_, ?_, fun j => if j = k then r p + 1 else r j, ?_, fun j j1 j2 hj => ?_⟩
  · rw [forked, updE_other _ _ (by omega)]; exact hi.z
  · rw [forked, updE_other _ _ (by omega)]; exact hi.o
  · simp only [if_neg (Ne.symm hk)]; exact r1
  · by_cases hjk : j = k
    · subst hjk
      refine ⟨p, by rw [forked, updE_same], p1, p2, by rw [forked, updE_other _ _ hpk]; exact p3, ?_⟩
      simp [hpk]
    · rw [forked, updE_other _ _ hjk] at hj ⊢
      obtain ⟨q, q1, q2, q3, q4, q5⟩ := hr j j1 j2 hj
      have hqk : q ≠ k := by rintro rfl; rw [hf] at q4; cases q4
      refine ⟨q, q1, q2, q3, by rw [updE_other _ _ hqk]; exact q4, ?_⟩
      simp [hqk, hjk, q5]
theorem ended_st (t : T) (p : Nat) (c : Int) (j : Nat) : (ended t p c j).st = if j = p then 2 else (t j).st := by
  unfold ended
  by_cases h : j = p
  · subst h; rw [updE_same, if_pos rfl]
  · rw [updE_other _ _ h, if_neg h, lost_st]
theorem exit_cnt {t : T} {p : Nat} {c : Int} (hp : alive t p) : cnt (ended t p c) = cnt t := by
  refine cnt_same fun j => ?_
  rw [ended_st]
  by_cases h : j = p
  · subst h; rw [if_pos rfl, hp.2.2]; simp
  · rw [if_neg h]
theorem ended_par (t : T) (p : Nat) (c : Int) (j : Nat) (hj : j < 17) : (ended t p c j).par = (orphan p (t j)).par := by
  unfold ended
  by_cases h : j = p
  · subst h; rw [updE_same]; simp [lost, hj]
  · rw [updE_other _ _ h]; simp [lost, hj]
theorem exit_inv {t : T} {p : Nat} {c : Int} (hi : Inv t) (hp : alive t p) (h1 : p ≠ 1) : Inv (ended t p c) := by
  obtain ⟨r, r1, hr⟩ := hi.r
  obtain ⟨p1, p2, p3⟩ := hp
  refine ⟨?_, ?_, r, r1, fun j j1 j2 hj => ?_⟩
  · rw [ended_st, if_neg (by omega)]; exact hi.z
  · rw [ended_st, if_neg (Ne.symm h1)]; exact hi.o
  · have hj' : (t j).st ≠ 0 := by
      rw [ended_st] at hj
      by_cases h : j = p
      · subst h; rw [p3]; decide
      · rw [if_neg h] at hj; exact hj
    obtain ⟨q, q1, q2, q3, q4, q5⟩ := hr j j1 j2 hj'
    rw [ended_par _ _ _ _ (by omega)]
    by_cases hq : q = p
    · refine ⟨1, ?_, by omega, by omega, ?_, by omega⟩
      · rw [orphan, if_pos ⟨hj', by rw [q1, hq]⟩]; rfl
      · rw [ended_st, if_neg (Ne.symm h1)]; exact hi.o
    · refine ⟨q, ?_, q2, q3, ?_, q5⟩
      · rw [orphan, if_neg (fun h => hq (by have := h.2; rw [q1] at this; omega))]; exact q1
      · rw [ended_st, if_neg hq]; exact q4
theorem wait_cnt {t : T} {k : Nat} (h1 : 2 ≤ k) (h2 : k ≤ 16) (hk : (t k).st = 2) : cnt t = cnt (updE t k e0) + 1 := by
  refine cnt_up h1 h2 (by rw [updE_same]) (by rw [hk]; decide) fun j hj => ?_
  rw [updE_other _ _ hj]
theorem wait_two {t : T} {k : Nat} (hi : Inv t) (hk : (t k).st = 2) : 2 ≤ k := by
  have h0 : k ≠ 0 := by rintro rfl; rw [hi.z] at hk; cases hk
  have h1 : k ≠ 1 := by rintro rfl; rw [hi.o] at hk; cases hk
  omega
theorem wait_inv {t : T} {k : Nat} (hi : Inv t) (hk : (t k).st = 2) : Inv (updE t k e0) := by
  have h2 := wait_two hi hk
  obtain ⟨r, r1, hr⟩ := hi.r
  refine ⟨?_, ?_, r, r1, fun j j1 j2 hj => ?_⟩
  · rw [updE_other _ _ (by omega)]; exact hi.z
  · rw [updE_other _ _ (by omega)]; exact hi.o
  · by_cases hjk : j = k
    · subst hjk; rw [updE_same] at hj; exact absurd rfl hj
    · rw [updE_other _ _ hjk] at hj ⊢
      obtain ⟨q, q1, q2, q3, q4, q5⟩ := hr j j1 j2 hj
      have hqk : q ≠ k := by rintro rfl; rw [hk] at q4; cases q4
      exact ⟨q, q1, q2, q3, by rw [updE_other _ _ hqk]; exact q4, q5⟩

/-- how many that are there stand nearer to the first one -/
def near (t : T) (r : Nat → Nat) (u : Nat) : Nat := (List.range 17).countP (fun q => decide ((t q).st ≠ 0 ∧ r q < r u))
theorem countP_lt (l : List Nat) (f g : Nat → Bool) (h : ∀ j, f j = true → g j = true) (k : Nat) (hk : k ∈ l) (hf : f k = false) (hg : g k = true) : l.countP f < l.countP g := by
  induction l with
  | nil => cases hk
  | cons x t ih =>
    have hmono : t.countP f ≤ t.countP g := List.countP_mono_left fun j _ hj => h j hj
    rcases List.mem_cons.1 hk with rfl | hk'
    · rw [List.countP_cons_of_pos hg, List.countP_cons_of_neg (by simp [hf])]; omega
    · have := ih hk'
      by_cases hfx : f x = true
      · rw [List.countP_cons_of_pos hfx, List.countP_cons_of_pos (h x hfx)]; omega
      · rw [List.countP_cons_of_neg hfx]
        by_cases hgx : g x = true
        · rw [List.countP_cons_of_pos hgx]; omega
        · rw [List.countP_cons_of_neg hgx]; omega
theorem near_up {t : T} {r : Nat → Nat} {u q : Nat} (hq : q < 17) (hs : (t q).st ≠ 0) (hr : r q < r u) : near t r q < near t r u := by
  unfold near
  refine countP_lt _ _ _ (fun j hj => ?_) q (List.mem_range.2 hq) (by simp) (by simp [hs, hr])
  simp at hj ⊢
  exact ⟨hj.1, by omega⟩
theorem near_le {t : T} {r : Nat → Nat} {u : Nat} (hz : (t 0).st = 0) (hu1 : 1 ≤ u) (hu : u ≤ 16) : near t r u ≤ 15 := by
  have h1 : near t r u < (List.range 17).countP (fun q => decide (q ≠ 0)) := by
    unfold near
    refine countP_lt _ _ _ (fun j hj => ?_) u (List.mem_range.2 (by omega)) (by simp) (by simp; omega)
    simp at hj ⊢
    rintro rfl
    exact hj.1 hz
  have h2 : (List.range 17).countP (fun q => decide (q ≠ 0)) = 16 := by decide
  omega
end Go.Proofs.YthioadiiedlmfaaGreatDoor.ProcLaw
namespace Go.Proofs.YthioadiiedlmfaaGreatDoor.ProcLaw
set_option linter.unusedSimpArgs false
open Go.RowKit
set_option linter.unusedVariables false

structure TabAt (w : World) (b : Nat) (t : T) : Prop where
  lt : b < w.heap.size
  fz : ∀ i, w.frozen? ⟨b, i, none⟩ = false
  st : ∀ k, k < 17 → w.cell? ⟨b, k * 4, none⟩ = some (.int .i64 (t k).st)
  par : ∀ k, k < 17 → w.cell? ⟨b, k * 4 + 1, none⟩ = some (.int .i64 (t k).par)
  gr : ∀ k, k < 17 → w.cell? ⟨b, k * 4 + 2, none⟩ = some (.int .i64 (t k).gr)
  code : ∀ k, k < 17 → w.cell? ⟨b, k * 4 + 3, none⟩ = some (.int .i64 (t k).code)
theorem TabAt.keep {w w' : World} {b : Nat} {t : T} (h : TabAt w b t) (hb : Below w.heap.size w w') : TabAt w' b t := by
  refine ⟨Nat.lt_of_lt_of_le h.lt hb.size, fun i => (hb.frozen (p := ⟨b, i, none⟩) h.lt).trans (h.fz i), ?_, ?_, ?_, ?_⟩ <;> intro k hk
  · exact (hb.cell (p := ⟨b, _, none⟩) h.lt).trans (h.st k hk)
  · exact (hb.cell (p := ⟨b, _, none⟩) h.lt).trans (h.par k hk)
  · exact (hb.cell (p := ⟨b, _, none⟩) h.lt).trans (h.gr k hk)
  · exact (hb.cell (p := ⟨b, _, none⟩) h.lt).trans (h.code k hk)
theorem TabAt.drew {w : World} {b : Nat} {t : T} (h : TabAt w b t) : TabAt w.drew b t := h.keep (Below.refl _ _).drew
theorem set_other {w : World} {b i j : Nat} {v u : Value} (hij : i ≠ j) (h : w.cell? ⟨b, j, none⟩ = some u) : (w.setCell ⟨b, i, none⟩ v).cell? ⟨b, j, none⟩ = some u := by
  rw [World.cell?_setCell_other]
  · exact h
  · intro e; exact hij (by simpa using congrArg Addr.off e)
theorem set_same {w : World} {b i : Nat} {v u : Value} (h : w.cell? ⟨b, i, none⟩ = some u) : (w.setCell ⟨b, i, none⟩ v).cell? ⟨b, i, none⟩ = some v := by
  simp [go_sem, h]
theorem TabAt.setSt {w : World} {b k : Nat} {t : T} (h : TabAt w b t) (hk : k < 17) (x : Int) : TabAt (w.setCell ⟨b, k * 4, none⟩ (.int .i64 x)) b (updE t k ⟨x, (t k).par, (t k).gr, (t k).code⟩) := by
  refine ⟨by simpa using h.lt, fun i => by rw [World.frozen?_setCell]; exact h.fz i, ?_, ?_, ?_, ?_⟩ <;> intro j hj <;> by_cases e : j = k
  · subst e; rw [updE_same]; exact set_same (h.st _ hk)
  · rw [updE_other _ _ e]; exact set_other (by omega) (h.st j hj)
  · subst e; rw [updE_same]; exact set_other (by omega) (h.par _ hk)
  · rw [updE_other _ _ e]; exact set_other (by omega) (h.par j hj)
  · subst e; rw [updE_same]; exact set_other (by omega) (h.gr _ hk)
  · rw [updE_other _ _ e]; exact set_other (by omega) (h.gr j hj)
  · subst e; rw [updE_same]; exact set_other (by omega) (h.code _ hk)
  · rw [updE_other _ _ e]; exact set_other (by omega) (h.code j hj)
theorem TabAt.setPar {w : World} {b k : Nat} {t : T} (h : TabAt w b t) (hk : k < 17) (x : Int) : TabAt (w.setCell ⟨b, k * 4 + 1, none⟩ (.int .i64 x)) b (updE t k ⟨(t k).st, x, (t k).gr, (t k).code⟩) := by
  refine ⟨by simpa using h.lt, fun i => by rw [World.frozen?_setCell]; exact h.fz i, ?_, ?_, ?_, ?_⟩ <;> intro j hj <;> by_cases e : j = k
  · subst e; rw [updE_same]; exact set_other (by omega) (h.st _ hk)
  · rw [updE_other _ _ e]; exact set_other (by omega) (h.st j hj)
  · subst e; rw [updE_same]; exact set_same (h.par _ hk)
  · rw [updE_other _ _ e]; exact set_other (by omega) (h.par j hj)
  · subst e; rw [updE_same]; exact set_other (by omega) (h.gr _ hk)
  · rw [updE_other _ _ e]; exact set_other (by omega) (h.gr j hj)
  · subst e; rw [updE_same]; exact set_other (by omega) (h.code _ hk)
  · rw [updE_other _ _ e]; exact set_other (by omega) (h.code j hj)
theorem TabAt.setGr {w : World} {b k : Nat} {t : T} (h : TabAt w b t) (hk : k < 17) (x : Int) : TabAt (w.setCell ⟨b, k * 4 + 2, none⟩ (.int .i64 x)) b (updE t k ⟨(t k).st, (t k).par, x, (t k).code⟩) := by
  refine ⟨by simpa using h.lt, fun i => by rw [World.frozen?_setCell]; exact h.fz i, ?_, ?_, ?_, ?_⟩ <;> intro j hj <;> by_cases e : j = k
  · subst e; rw [updE_same]; exact set_other (by omega) (h.st _ hk)
  · rw [updE_other _ _ e]; exact set_other (by omega) (h.st j hj)
  · subst e; rw [updE_same]; exact set_other (by omega) (h.par _ hk)
  · rw [updE_other _ _ e]; exact set_other (by omega) (h.par j hj)
  · subst e; rw [updE_same]; exact set_same (h.gr _ hk)
  · rw [updE_other _ _ e]; exact set_other (by omega) (h.gr j hj)
  · subst e; rw [updE_same]; exact set_other (by omega) (h.code _ hk)
  · rw [updE_other _ _ e]; exact set_other (by omega) (h.code j hj)
theorem TabAt.setCode {w : World} {b k : Nat} {t : T} (h : TabAt w b t) (hk : k < 17) (x : Int) : TabAt (w.setCell ⟨b, k * 4 + 3, none⟩ (.int .i64 x)) b (updE t k ⟨(t k).st, (t k).par, (t k).gr, x⟩) := by
  refine ⟨by simpa using h.lt, fun i => by rw [World.frozen?_setCell]; exact h.fz i, ?_, ?_, ?_, ?_⟩ <;> intro j hj <;> by_cases e : j = k
  · subst e; rw [updE_same]; exact set_other (by omega) (h.st _ hk)
  · rw [updE_other _ _ e]; exact set_other (by omega) (h.st j hj)
  · subst e; rw [updE_same]; exact set_other (by omega) (h.par _ hk)
  · rw [updE_other _ _ e]; exact set_other (by omega) (h.par j hj)
  · subst e; rw [updE_same]; exact set_other (by omega) (h.gr _ hk)
  · rw [updE_other _ _ e]; exact set_other (by omega) (h.gr j hj)
  · subst e; rw [updE_same]; exact set_same (h.code _ hk)
  · rw [updE_other _ _ e]; exact set_other (by omega) (h.code j hj)
theorem updE_twice (t : T) (k : Nat) (e e' : E) : updE (updE t k e) k e' = updE t k e' := by
  funext j; by_cases h : j = k <;> simp [updE, h]
theorem TabAt.set4 {w : World} {b k : Nat} {t : T} (h : TabAt w b t) (hk : k < 17) (x y z u : Int) : TabAt ((((w.setCell ⟨b, k * 4, none⟩ (.int .i64 x)).setCell ⟨b, k * 4 + 1, none⟩ (.int .i64 y)).setCell ⟨b, k * 4 + 2, none⟩ (.int .i64 z)).setCell ⟨b, k * 4 + 3, none⟩ (.int .i64 u)) b (updE t k ⟨x, y, z, u⟩) := by
  have h4 := (((h.setSt hk x).setPar hk y).setGr hk z).setCode hk u
  simpa [updE_twice, updE_same] using h4

theorem number_any (n : Int) (w : World) : Calls Tryz.prog 67 #[.int .i64 n] w fun e w' => e = .returned (.bool (decide (1 ≤ n) && decide (n ≤ 16))) ∧ w = w' := by
  by_cases h1 : 1 ≤ n
  · by_cases h2 : n ≤ 16
    · go_enter Tryz.func67, Tryz.ntmps67
      go_wp2
      go_ret
      exact ⟨by simp [h1, h2], rfl⟩
    · go_enter Tryz.func67, Tryz.ntmps67
      go_wp2
      go_ret
      exact ⟨by simp [h1, h2], rfl⟩
  · go_enter Tryz.func67, Tryz.ntmps67
    go_wp2
    go_ret
    exact ⟨by rw [show decide (1 ≤ n) = false from by simp; omega]; rfl, rfl⟩
def livR (t : T) (p : Int) : Int := if 1 ≤ p ∧ p ≤ 16 then (if (t p.toNat).st = 1 then 0 else 4) else 1
theorem living_is {w : World} {b : Nat} {t : T} (p : Int) (h : TabAt w b t) : Calls Tryz.prog 142 #[.pointer (some ⟨b, 0, none⟩), .int .i64 p] w fun e w' => e = .returned (.int .i64 (livR t p)) ∧ w = w' := by
  by_cases hp : 1 ≤ p ∧ p ≤ 16
  · have hd : (decide (1 ≤ p) && decide (p ≤ 16)) = true := by simp; omega
    obtain ⟨k, rfl⟩ : ∃ k : Nat, p = k := ⟨p.toNat, by omega⟩
    have hk : (k : Int) < 17 := by omega
    have hc := h.st k (by omega)
    have hl : livR t k = if (t k).st = 1 then 0 else 4 := by unfold livR; rw [if_pos hp]; simp
    have HL := Lib.hid hl
    have HD := Lib.hid hd
    clear hl hd hp
    generalize (t k).st = x at *
    by_cases hx : x = 1
    · subst hx
      go_enter Tryz.func142, Tryz.ntmps142
      go_wp2_with fail
      refine (number_any _ _).mono ?_
      rintro e w1 ⟨rfl, rfl⟩
      rw [HD.out]
      go_wp2
      go_ret
      exact ⟨ret_int (by rw [HL.out]; simp), rfl⟩
    · have hx' : (x != 1) = true := by simp [hx]
      have HX := Lib.hid hx
      clear hx
      go_enter Tryz.func142, Tryz.ntmps142
      go_wp2_with fail
      refine (number_any _ _).mono ?_
      rintro e w1 ⟨rfl, rfl⟩
      rw [HD.out]
      go_wp2
      go_ret
      exact ⟨ret_int (by rw [HL.out, if_neg HX.out]), rfl⟩
  · have hd : (decide (1 ≤ p) && decide (p ≤ 16)) = false := by simp; omega
    have HL := Lib.hid (show livR t p = 1 from if_neg hp)
    clear hp
    go_enter Tryz.func142, Tryz.ntmps142
    go_wp2_with fail
    refine (number_any _ _).mono ?_
    rintro e w1 ⟨rfl, rfl⟩
    rw [hd]
    go_wp2
    go_ret
    exact ⟨ret_int (by rw [HL.out]), rfl⟩
theorem livR_zero {t : T} {p : Int} (h : livR t p = 0) : ∃ k : Nat, p = k ∧ alive t k := by
  unfold livR at h
  by_cases hp : 1 ≤ p ∧ p ≤ 16
  · rw [if_pos hp] at h
    by_cases hs : (t p.toNat).st = 1
    · exact ⟨p.toNat, by omega, by omega, by omega, hs⟩
    · rw [if_neg hs] at h; cases h
  · rw [if_neg hp] at h; cases h
theorem livR_alive {t : T} {k : Nat} (h : alive t k) : livR t k = 0 := by
  obtain ⟨h1, h2, h3⟩ := h
  unfold livR
  rw [if_pos (by omega), if_pos (by simpa using h3)]
theorem state_is {w : World} {b k : Nat} {t : T} (h : TabAt w b t) (h1 : 1 ≤ k) (h2 : k ≤ 16) : Calls Tryz.prog 32 #[.pointer (some ⟨b, 0, none⟩), .int .i64 k] w fun e w' => e = .returned (.tuple #[.int .i64 (t k).st, .int .i64 0]) ∧ w = w' := by
  have hd : (decide (1 ≤ (k : Int)) && decide ((k : Int) ≤ 16)) = true := by simp; omega
  have hk : (k : Int) < 17 := by omega
  have hc := h.st k (by omega)
  have HD := Lib.hid hd
  clear hd
  go_enter Tryz.func32, Tryz.ntmps32
  go_wp2_with fail
  refine (number_any _ _).mono ?_
  rintro e w1 ⟨rfl, rfl⟩
  rw [HD.out]
  go_wp2
  go_ret2
  exact ⟨rfl, rfl⟩
theorem parent_is {w : World} {b k : Nat} {t : T} (h : TabAt w b t) (h1 : 1 ≤ k) (h2 : k ≤ 16) (hn : (t k).st ≠ 0) : Calls Tryz.prog 103 #[.pointer (some ⟨b, 0, none⟩), .int .i64 k] w fun e w' => e = .returned (.tuple #[.int .i64 (t k).par, .int .i64 0]) ∧ w = w' := by
  have hd : (decide (1 ≤ (k : Int)) && decide ((k : Int) ≤ 16)) = true := by simp; omega
  have hk : (k : Int) < 17 := by omega
  have hc := h.st k (by omega)
  have hp := h.par k (by omega)
  have hn' : ((t k).st == 0) = false := by simp [hn]
  have HD := Lib.hid hd
  clear hd hn
  go_enter Tryz.func103, Tryz.ntmps103
  go_wp2_with fail
  refine (number_any _ _).mono ?_
  rintro e w1 ⟨rfl, rfl⟩
  rw [HD.out]
  go_wp2
  go_ret2
  exact ⟨rfl, rfl⟩
def ints68 : List Int := [0, 0, 0, 0, 1, 0, 1, 0] ++ List.replicate 60 0
theorem ints_at : ∀ k : Fin 17, ints68[k.val * 4]? = some (start k.val).st ∧ ints68[k.val * 4 + 1]? = some (start k.val).par ∧ ints68[k.val * 4 + 2]? = some (start k.val).gr ∧ ints68[k.val * 4 + 3]? = some (start k.val).code := by decide +kernel
theorem tab_new (w : World) (Y : TypeId) : TabAt (w.alloc (.cells (ints68.map (Value.int .i64)).toArray Y)) w.heap.size start := by
  have h := has_new w (ints68.map (Value.int .i64)) Y
  refine ⟨h.1, fun i => frozen_of_row _ _ _ _ _ (heap_alloc_new _ _), ?_, ?_, ?_, ?_⟩ <;> intro k hk <;> apply h.2 <;> rw [List.getElem?_map]
  · rw [(ints_at ⟨k, hk⟩).1]; rfl
  · rw [(ints_at ⟨k, hk⟩).2.1]; rfl
  · rw [(ints_at ⟨k, hk⟩).2.2.1]; rfl
  · rw [(ints_at ⟨k, hk⟩).2.2.2]; rfl
set_option maxRecDepth 100000 in
theorem new_is (w : World) : Calls Tryz.prog 27 #[] w fun e w' => e = .returned (.pointer (some ⟨w.heap.size, 0, none⟩)) ∧ Below w.heap.size w w' ∧ TabAt w' w.heap.size start := by
  go_enter Tryz.func27, Tryz.ntmps27
  go_wp2
  go_ret
  refine ⟨rfl, (Below.refl _ _).alloc (Nat.le_refl _) _, ?_⟩
  have e : (((Tryz.zeroCells172.setIfInBounds 4 (.int .i64 1)).setIfInBounds 5 (.int .i64 0)).setIfInBounds 6 (.int .i64 1)).setIfInBounds 7 (.int .i64 0) = (ints68.map (Value.int .i64)).toArray := by kernel_rfl
  have := tab_new w 172
  rw [← e] at this
  exact this
end Go.Proofs.YthioadiiedlmfaaGreatDoor.ProcLaw
namespace Go.Proofs.YthioadiiedlmfaaGreatDoor
open Go.RowKit
set_option linter.unusedVariables false
set_option linter.unusedSimpArgs false
theorem owns_keep {w w' : World} {B e s n : Nat} {v : Value} {l : List Value} (h : w.ownsRow B e s v n l) (hb : Below w.heap.size w w') : w'.ownsRow B e s v n l :=
  h.kept (row := none) ⟨hb.os, hb.tape, hb.output, hb.size, fun k hk _ => hb.block k hk⟩ (by cases hv : v.ownBlock <;> simp)
theorem own_form {w : World} {B e n : Nat} {v : Value} {l : List Value} {s : Nat} (h : w.ownsRow B e s v n l) : ∃ p cap, v = .slice p n cap := by
  rcases h.2 with ⟨rfl, hn⟩ | ⟨g, cap', cur, rfl, _⟩
  · exact ⟨none, 0, by rw [hn]⟩
  · exact ⟨_, cap', rfl⟩
theorem owns_base {w : World} {B B' e s n : Nat} {v : Value} {l : List Value} (h : w.ownsRow B e s v n l) (hB : B' ≤ B) : w.ownsRow B' e s v n l := by
  refine ⟨h.1, ?_⟩
  rcases h.2 with h | ⟨g, cap, cur, h1, h2, h3⟩
  · exact .inl h
  · exact .inr ⟨g, cap, cur, h1, Nat.le_trans hB h2, h3⟩
/-- a store into another block -/
theorem owns_set {w : World} {B e s n c i : Nat} {v x : Value} {l : List Value} (h : w.ownsRow B e s v n l) (hc : v.ownBlock ≠ some c) : (w.setCell ⟨c, i, none⟩ x).ownsRow B e s v n l := by
  refine h.kept (row := some c) ⟨rfl, rfl, rfl, by simp [World.setCell], fun k hk hne => Below.heap_setCell _ _ _ _ (by intro e; exact hne (by rw [e]))⟩ ?_
  exact .inr hc
theorem far_row {w : World} {B e s n n3 : Nat} {v : Value} {l : List Value} (h : w.ownsRow B e s v n l) (hB : n3 < B) : v.ownBlock ≠ some n3 := fun e => by have := (h.lt n3 e).1; omega
theorem gb {w w' : World} (hb : Below w.heap.size w w') : w.grownBy w' none := ⟨hb.os, hb.tape, hb.output, hb.size, fun k hk _ => hb.block k hk⟩
/-- fewer elements of one's own -/
theorem owns_take {w : World} {B e n cap k : Nat} {a : Option Addr} {l : List Value} (h : w.ownsRow B e 1 (.slice a n cap) n l) (hk : k ≤ n) (h0 : 0 < n) : w.ownsRow B e 1 (.slice a k cap) k (l.take k) := by
  have hl := h.1
  refine ⟨by rw [List.length_take, hl]; omega, ?_⟩
  rcases h.2 with ⟨he, hn⟩ | ⟨g, c, cur, he, hb, hg, hnc, hcm, hcs, ht⟩
  · omega
  · simp only [Value.slice.injEq] at he
    obtain ⟨rfl, -, rfl⟩ := he
    refine .inr ⟨g, _, cur, rfl, hb, hg, by omega, hcm, hcs, ?_⟩
    rw [← ht]
    simp only [Nat.mul_one, List.take_take]
    congr 1
    omega
theorem own_block {w : World} {B e n cap : Nat} {a : Option Addr} {l : List Value} {s : Nat} (h : w.ownsRow B e s (.slice a n cap) n l) (h0 : 0 < n) : ∃ g, a = some ⟨g, 0, none⟩ ∧ B ≤ g ∧ g < w.heap.size ∧ n ≤ cap ∧ cap ≤ maxLen := by
  rcases h.2 with ⟨he, hn⟩ | ⟨g, c, cur, he, hb, hg, hnc, hcm, hcs, ht⟩
  · omega
  · simp only [Value.slice.injEq] at he
    obtain ⟨rfl, -, rfl⟩ := he
    exact ⟨g, rfl, hb, (Array.getElem?_eq_some_iff.1 hg).1, hnc, hcm⟩
end Go.Proofs.YthioadiiedlmfaaGreatDoor
namespace Go.Proofs.YthioadiiedlmfaaGreatDoor
open Go.RowKit
set_option linter.unusedVariables false
set_option linter.unusedSimpArgs false
/-- From w on only blocks of S were turned. -/
structure Upd (S : Nat → Prop) (w w' : World) : Prop where
  os : w'.os = w.os
  tape : w'.tape = w.tape
  output : w'.output = w.output
  size : w.heap.size ≤ w'.heap.size
  block : ∀ k, k < w.heap.size → ¬ S k → w'.heap[k]? = w.heap[k]?
section
variable {S S' : Nat → Prop} {w w' a b c : World}
theorem Upd.refl (S : Nat → Prop) (w : World) : Upd S w w := ⟨rfl, rfl, rfl, Nat.le_refl _, fun _ _ _ => rfl⟩
theorem Upd.trans' (h : Upd S a b) (k : Upd S' b c) (hs : ∀ i, i < a.heap.size → S' i → S i) : Upd S a c :=
  ⟨k.os.trans h.os, k.tape.trans h.tape, k.output.trans h.output, Nat.le_trans h.size k.size, fun i hi hn => (k.block i (Nat.lt_of_lt_of_le hi h.size) (fun e => hn (hs i hi e))).trans (h.block i hi hn)⟩
theorem Upd.trans (h : Upd S a b) (k : Upd S b c) : Upd S a c := h.trans' k (fun _ _ e => e)
theorem Upd.mono (h : Upd S a b) (hs : ∀ i, i < a.heap.size → S i → S' i) : Upd S' a b :=
  ⟨h.os, h.tape, h.output, h.size, fun i hi hn => h.block i hi (fun e => hn (hs i hi e))⟩
theorem Upd.below (h : Below w.heap.size w w') : Upd S w w' := ⟨h.os, h.tape, h.output, h.size, fun i hi _ => h.block i hi⟩
theorem Upd.grown {b : Nat} (h : w.grownBy w' (some b)) (hb : S b) : Upd S w w' := ⟨h.os, h.tape, h.output, h.size, fun i hi hn => h.block i hi (by intro e; injection e with e; subst e; exact hn hb)⟩
theorem Upd.grown0 {row : Option Nat} (h : w.grownBy w' row) (hb : ∀ b, row = some b → b < w.heap.size → S b) : Upd S w w' := ⟨h.os, h.tape, h.output, h.size, fun i hi hn => h.block i hi (fun e => hn (hb i e.symm hi))⟩
theorem Upd.set (w : World) {b i : Nat} (v : Value) (hb : S b) : Upd S w (w.setCell ⟨b, i, none⟩ v) :=
  ⟨rfl, rfl, rfl, by simp [World.setCell], fun k hk hn => Below.heap_setCell _ _ _ _ (by intro e; subst e; exact hn hb)⟩
theorem Upd.setRow (w : World) {b : Nat} (C : Array Value) (hb : S b) : Upd S w (w.setRow b C) :=
  ⟨rfl, rfl, rfl, by simp [World.setRow], fun k hk hn => setRow_other w b k C (by intro e; subst e; exact hn hb)⟩
theorem Upd.drewN (w : World) (n : Nat) : Upd S w (w.drewN n) := ⟨rfl, rfl, rfl, Nat.le_refl _, fun _ _ _ => rfl⟩
theorem Upd.drew (w : World) : Upd S w w.drew := ⟨rfl, rfl, rfl, Nat.le_refl _, fun _ _ _ => rfl⟩
theorem Upd.alloc (w : World) (o : Obj) : Upd S w (w.alloc o) := Upd.below ((Below.refl _ _).alloc (Nat.le_refl _) o)
theorem Upd.cell (h : Upd S w w') {b o : Nat} (hb : b < w.heap.size) (hn : ¬ S b) : w'.cell? ⟨b, o, none⟩ = w.cell? ⟨b, o, none⟩ := by
  have := h.block b hb hn
  simp only [World.cell?, this]
theorem Upd.frozen (h : Upd S w w') {b o : Nat} (hb : b < w.heap.size) (hn : ¬ S b) : w'.frozen? ⟨b, o, none⟩ = w.frozen? ⟨b, o, none⟩ := by
  have := h.block b hb hn
  simp only [World.frozen?, this]
theorem Upd.toBelow {B : Nat} (h : Upd S w w') (hB : B ≤ w.heap.size) (hs : ∀ k, k < B → ¬ S k) : Below B w w' :=
  ⟨h.os, h.tape, h.output, h.size, fun k hk => h.block k (by omega) (hs k hk)⟩
theorem Upd.owns {B e s n : Nat} {v : Value} {l : List Value} (h : Upd S w w') (ho : w.ownsRow B e s v n l) (hn : ∀ g, v.ownBlock = some g → ¬ S g) : w'.ownsRow B e s v n l := by
  refine ⟨ho.1, ?_⟩
  rcases ho.2 with h0 | ⟨g, c, cur, he, hb, hg, hr⟩
  · exact .inl h0
  · exact .inr ⟨g, c, cur, he, hb, (h.block g (Array.getElem?_eq_some_iff.1 hg).1 (hn g (by rw [he]; rfl))).trans hg, hr⟩
end
/-- a store into a cell that is there -/
theorem set_same {w : World} {b i : Nat} {x y : Value} (h : w.cell? ⟨b, i, none⟩ = some y) : (w.setCell ⟨b, i, none⟩ x).cell? ⟨b, i, none⟩ = some x := by
  simp [go_sem, h]
theorem set_off {w : World} {b c i j : Nat} {x v : Value} (hj : j ≠ i) (h : w.cell? ⟨b, j, none⟩ = some v) : (w.setCell ⟨c, i, none⟩ x).cell? ⟨b, j, none⟩ = some v := by
  rw [World.cell?_setCell_other _ _ _ _ (by intro e; exact hj (by simpa using (congrArg Addr.off e).symm))]; exact h
theorem set_blk {w : World} {b c i j : Nat} {x v : Value} (hj : b ≠ c) (h : w.cell? ⟨b, j, none⟩ = some v) : (w.setCell ⟨c, i, none⟩ x).cell? ⟨b, j, none⟩ = some v := by
  rw [World.cell?_setCell_other _ _ _ _ (by intro e; exact hj (by simpa using (congrArg Addr.block e).symm))]; exact h
theorem grown_cell {w w' : World} {row : Option Nat} (h : w.grownBy w' row) {b o : Nat} (hlt : b < w.heap.size) (hne : some b ≠ row) : w'.cell? ⟨b, o, none⟩ = w.cell? ⟨b, o, none⟩ := by
  have := h.block b hlt hne
  simp only [World.cell?, this]
theorem grown_frozen {w w' : World} {row : Option Nat} (h : w.grownBy w' row) {b o : Nat} (hlt : b < w.heap.size) (hne : some b ≠ row) : w'.frozen? ⟨b, o, none⟩ = w.frozen? ⟨b, o, none⟩ := by
  have := h.block b hlt hne
  simp only [World.frozen?, this]
theorem below_drewN {B : Nat} {a w : World} (h : Below B a w) (n : Nat) : Below B a (w.drewN n) := ⟨h.os, h.tape, h.output, h.size, h.block⟩
end Go.Proofs.YthioadiiedlmfaaGreatDoor
namespace Go.Proofs.YthioadiiedlmfaaGreatDoor.ProcLaw
set_option linter.unusedSimpArgs false
open Go.RowKit
set_option linter.unusedVariables false

def ForkPost (t : T) (b : Nat) (p : Int) (w : World) (e : Ending) (w' : World) : Prop :=
  ∃ r en t', e = .returned (.tuple #[.int .i64 r, .int .i64 en]) ∧ Upd (fun k => k = b) w w' ∧ TabAt w' b t' ∧
    ((en ≠ 0 ∧ t' = t ∧ (livR t p ≠ 0 ∨ ∀ k, 1 ≤ k → k ≤ 16 → (t k).st ≠ 0)) ∨ (en = 0 ∧ ∃ k q : Nat, r = k ∧ 1 ≤ k ∧ k ≤ 16 ∧ (t k).st = 0 ∧ (∀ j, 1 ≤ j → j < k → (t j).st ≠ 0) ∧ p = q ∧ alive t q ∧ t' = forked t k q))
set_option maxRecDepth 100000 in
set_option maxHeartbeats 4000000 in
theorem fork_is {w : World} {b : Nat} {t : T} (p : Int) (h : TabAt w b t) : Calls Tryz.prog 175 #[.pointer (some ⟨b, 0, none⟩), .int .i64 p] w (ForkPost t b p w) := by
  have HL := Lib.hid (living_is p h)
  have HT := Lib.hid h
  by_cases hl : livR t p = 0
  · obtain ⟨q, rfl, ha⟩ := livR_zero hl
    have HA := Lib.hid ha
    have HZ := Lib.hid hl
    obtain ⟨q1, q2, q3⟩ := ha
    have hq : (q : Int) < 17 := by omega
    have cg := h.gr q (by omega)
    clear hl q3 h
    go_enter Tryz.func175, Tryz.ntmps175
    go_wp2_with fail
    refine HL.out.mono ?_
    rintro e w1 ⟨rfl, rfl⟩
    rw [HZ.out]
    go_wp2
    go_loop [7] (fun i => ∃ k : Nat, 1 ≤ k ∧ k ≤ 17 ∧ i = .int .i64 k ∧ Hid (∀ j, 1 ≤ j → j < k → (t j).st ≠ 0)) (fun i => 17 - (intOf i).toNat)
    case atStart => exact ⟨1, by omega, by omega, rfl, fun j h1 h2 => absurd h2 (by omega)⟩
    case round =>
      obtain ⟨k, k1, k2, rfl, HK⟩ := hrel
      by_cases hlt : k ≤ 16
      · have hk : (k : Int) < 17 := by omega
        have c0 := HT.out.st k (by omega)
        by_cases hs : (t k).st = 0
        · have HS := Lib.hid hs
          rw [hs] at c0
          have c1 := HT.out.par k (by omega)
          have c2 := HT.out.gr k (by omega)
          have c3 := HT.out.code k (by omega)
          have f0 := HT.out.fz (k * 4)
          have f1 := HT.out.fz (k * 4 + 1)
          have f2 := HT.out.fz (k * 4 + 2)
          have f3 := HT.out.fz (k * 4 + 3)
          have HKK := Lib.hid (And.intro k1 hlt)
          clear hs
          go_wp2_with fail
          go_region
          all_goals
            go_wp2
            go_ret2
            refine ⟨k, 0, _, rfl, ?_, ?_, .inr ⟨rfl, k, q, rfl, HKK.out.1, HKK.out.2, HS.out, HK.out, rfl, HA.out, rfl⟩⟩
            · repeat (first | exact Upd.refl _ _ | refine Upd.trans ?_ (Upd.drew _) | refine Upd.trans ?_ (Upd.set _ _ rfl))
            · first | exact (HT.out.set4 (by omega) 1 q (t q).gr 0).drew | exact HT.out.drew.set4 (by omega) 1 q (t q).gr 0
        · have hs' : ((t k).st == 0) = false := by simp [hs]
          have HS := Lib.hid hs
          clear hs
          go_wp2
          go_round
          case rel =>
            refine ⟨k + 1, by omega, by omega, by go_num, fun j h1 h2 => ?_⟩
            rcases Nat.lt_succ_iff_lt_or_eq.1 h2 with h | rfl
            · exact HK.out j h1 h
            · exact HS.out
          case measure => simp [intOf]; omega
      · obtain rfl : k = 17 := by omega
        go_wp2
        go_ret2
        exact ⟨0, 6, t, rfl, Upd.refl _ _, HT.out, .inl ⟨by decide, rfl, .inr fun k h1 h2 => HK.out k h1 (by omega)⟩⟩
  · have hl' : (livR t p != 0) = true := by simp [hl]
    have HZ := Lib.hid hl
    clear hl h
    generalize hx : livR t p = x at *
    go_enter Tryz.func175, Tryz.ntmps175
    go_wp2_with fail
    refine HL.out.mono ?_
    rintro e w1 ⟨rfl, rfl⟩
    go_wp2
    go_ret2
    exact ⟨0, x, t, rfl, Upd.refl _ _, HT.out, .inl ⟨HZ.out, rfl, .inl (by rw [hx]; exact HZ.out)⟩⟩
end Go.Proofs.YthioadiiedlmfaaGreatDoor.ProcLaw
