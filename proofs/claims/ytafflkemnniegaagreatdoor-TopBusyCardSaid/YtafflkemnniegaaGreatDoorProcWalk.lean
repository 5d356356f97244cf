/- The walks of spread's New, Add at any run. Bits of numbers of 64 bits that are not negative. No program here. A table of processes: in plain numbers. No program here. Arguments that are slices of arrays of ints, opened to cells. No program here. The walks of package proc: New, number, living, State, Parent. -/
import Derived.Test.YtafflkemnniegaaGreatDoorSprF
import Derived.Laws.BitsLemmas
import Derived.Laws.Bits64
import Derived.Test.YtafflkemnniegaaGreatDoorSpaceMap
import Derived.Test.YtafflkemnniegaaGreatDoorProg
import Derived.WalkSmall
import Derived.BigQuiet
import Derived.BigRegion
namespace Go.Proofs.YtafflkemnniegaaGreatDoor
open Go.RowKit
set_option linter.unusedVariables false
set_option linter.unusedSimpArgs false
def onePin (m : Nat) : Int := wrap64 (wrap64 (2 ^ m) - 1)
theorem onePin_ok {m : Nat} (hm : m ≤ 8) : ∀ c, c < m → pinOk (onePin m) c := by
  have h : ∀ m, m < 9 → ∀ c, c < m → bits .and .i64 (onePin m / 2 ^ c) 1 = 1 := by decide +kernel
  exact fun c hc => h m (by omega) c hc
section
variable {w w' : World} {R cap : Nat} {ad : Option Addr} {cpus ticks pin : Int} {l : List Tk}
set_option maxRecDepth 100000 in
set_option maxHeartbeats 400000 in
theorem snewG_is (w : World) {m : Nat} (h1 : 1 ≤ m) (h8 : m ≤ 4) : Calls Tryz.prog 36 #[.int .i64 m] w fun e w' => e = .returned (.tuple #[.pointer (some ⟨w.heap.size, 0, none⟩), .int .i64 0]) ∧ Below w.heap.size w w' ∧ w'.heap.size = w.heap.size + 1 ∧ RunG w' w.heap.size none 0 m 0 (onePin m) [] := by
  have hr := row_new w 132 #[.int .i64 m, .int .i64 0, .int .i64 0, .slice none 0 0]
  have HQ : Hid (RunG (w.alloc (.cells #[.int .i64 m, .int .i64 0, .int .i64 0, .slice none 0 0] 132)) w.heap.size none 0 m 0 (onePin m) []) := Lib.hid ⟨hr.lt, hr.fz, by rw [hr.cell]; rfl, by rw [hr.cell]; rfl, ⟨0, by rw [hr.cell]; rfl⟩, by rw [hr.cell]; rfl, .inl ⟨rfl, rfl, rfl⟩⟩
  clear hr
  have : m = 1 ∨ m = 2 ∨ m = 3 ∨ m = 4 := by omega
  rcases this with rfl | rfl | rfl | rfl
  all_goals
    clear h1 h8
    go_enter Tryz.func36, Tryz.ntmps36
    go_wp2_with fail
    go_ret2
    exact ⟨rfl, Go.Joins.below_alloc1 w _, by simp, HQ.out⟩
set_option maxRecDepth 100000 in
set_option maxHeartbeats 400000 in
theorem valueG_is (w : World) : Calls Tryz.prog 96 #[.int .i64 1, .int .i64 10] w fun e w' => e = .returned (.bool true) ∧ w = w' := by
  go_enter Tryz.func96, Tryz.ntmps96
  go_wp2_with fail
  go_ret
  exact ⟨rfl, rfl⟩
set_option maxRecDepth 100000 in
set_option maxHeartbeats 400000 in
theorem addG_is {m : Nat} (h : RunG w R ad cap m ticks (onePin m) l) {t : Int} (h1 : 1 ≤ t) (h2 : t ≤ 16) (ht : idG l t = none) (hm : m ≤ 8) (hl : l.length < 1000) : Calls Tryz.prog 39 #[.pointer (some ⟨R, 0, none⟩), .int .i64 t, .int .i64 1, .int .i64 10] w fun e w' => e = .returned (.int .i64 0) ∧ (∃ T c, RunG w' R (some ⟨T, 0, none⟩) c m ticks (onePin m) (enterL l t m) ∧ (ad = some ⟨T, 0, none⟩ ∨ w.heap.size ≤ T)) ∧ Upd (rS R ad) w w' := by
  have HV := Lib.hid (valueG_is w)
  have HF := Lib.hid (find_is h t)
  rw [ht, ptrG_none] at HF
  have HE := Lib.hid (enterG_is h t hm hl rfl (onePin_ok hm))
  clear h ht
  go_enter Tryz.func39, Tryz.ntmps39
  go_wp2_with (first | (go_at_call 96; refine HV.out.mono ?_; rintro e1 w1 ⟨rfl, rfl⟩) | (go_at_call 97; refine HF.out.mono ?_; rintro e1 w1 ⟨rfl, rfl⟩) | (go_at_call 98; refine HE.out.mono ?_; rintro e1 w1 ⟨rfl, hr1, hu1⟩; have HR1 := Lib.hid hr1; have HU1 := Lib.hid hu1; clear hr1 hu1))
  go_ret
  exact ⟨rfl, HR1.out, HU1.out⟩
theorem snew1_is (w : World) : Calls Tryz.prog 36 #[.int .i64 1] w fun e w' => e = .returned (.tuple #[.pointer (some ⟨w.heap.size, 0, none⟩), .int .i64 0]) ∧ Below w.heap.size w w' ∧ w'.heap.size = w.heap.size + 1 ∧ RunG w' w.heap.size none 0 1 0 (onePin 1) [] := snewG_is w (m := 1) (by decide) (by decide)
theorem enter1G : ∀ m, m < 5 → 1 ≤ m → enterL [] 1 m = [⟨1, 0, true, 0⟩] := by
  intro m h1 h2
  have : m = 1 ∨ m = 2 ∨ m = 3 ∨ m = 4 := by omega
  rcases this with rfl | rfl | rfl | rfl <;> rfl
theorem add1G {m : Nat} (h : RunG w R none 0 m 0 (onePin m) []) (m1 : 1 ≤ m) (m4 : m ≤ 4) : Calls Tryz.prog 39 #[.pointer (some ⟨R, 0, none⟩), .int .i64 1, .int .i64 1, .int .i64 10] w fun e w' => e = .returned (.int .i64 0) ∧ (∃ T c, RunG w' R (some ⟨T, 0, none⟩) c m 0 (onePin m) [⟨1, 0, true, 0⟩] ∧ w.heap.size ≤ T) ∧ Upd (fun k => k = R) w w' := by
  refine (addG_is h (t := 1) (by decide) (by decide) rfl (by omega) (by decide)).mono ?_
  rintro e w' ⟨rfl, ⟨T, c, hr, hT⟩, hu⟩
  rw [enter1G m (by omega) m1] at hr
  refine ⟨rfl, ⟨T, c, hr, ?_⟩, hu.mono fun k _ e => ?_⟩
  · rcases hT with q | q
    · cases q
    · exact q
  · rcases e with e | ⟨a, e, _⟩
    · exact e
    · cases e
theorem enter1 : enterL [] 1 1 = [⟨1, 0, true, 0⟩] := by rfl
theorem add1_is (h : RunG w R none 0 1 0 (onePin 1) []) : Calls Tryz.prog 39 #[.pointer (some ⟨R, 0, none⟩), .int .i64 1, .int .i64 1, .int .i64 10] w fun e w' => e = .returned (.int .i64 0) ∧ (∃ T c, RunG w' R (some ⟨T, 0, none⟩) c 1 0 (onePin 1) [⟨1, 0, true, 0⟩] ∧ w.heap.size ≤ T) ∧ Upd (fun k => k = R) w w' := by
  refine (addG_is (m := 1) h (t := 1) (by decide) (by decide) rfl (by decide) (by decide)).mono ?_
  rintro e w' ⟨rfl, ⟨T, c, hr, hT⟩, hu⟩
  rw [enter1] at hr
  refine ⟨rfl, ⟨T, c, hr, ?_⟩, hu.mono fun k _ e => ?_⟩
  · rcases hT with q | q
    · cases q
    · exact q
  · rcases e with e | ⟨a, e, _⟩
    · exact e
    · cases e
end
end Go.Proofs.YtafflkemnniegaaGreatDoor
namespace Go.Proofs.YtafflkemnniegaaGreatDoor
set_option linter.unusedSimpArgs false
set_option linter.unusedVariables false

theorem wraps_i64 (n : Int) (h₀ : 0 ≤ n) (h₁ : n < 2 ^ 63) : IntKind.i64.wrap n = n := by rw [IntKind.wrap_i64]; omega

theorem i64_and (a b : Nat) (ha : a < 2 ^ 63) (hb : b < 2 ^ 63) : bits .and .i64 (a : Int) (b : Int) = ((a &&& b : Nat) : Int) :=
  (bits_nat .i64 63 (by decide) wraps_i64 a b ha hb).1
theorem i64_or (a b : Nat) (ha : a < 2 ^ 63) (hb : b < 2 ^ 63) : bits .or .i64 (a : Int) (b : Int) = ((a ||| b : Nat) : Int) :=
  (bits_nat .i64 63 (by decide) wraps_i64 a b ha hb).2

/-- a without the bits of b -/
def less (a b : Nat) : Nat := a ^^^ (a &&& b)
theorem less_bit (a b i : Nat) : (less a b).testBit i = (a.testBit i && !b.testBit i) := by
  simp [less]; cases a.testBit i <;> cases b.testBit i <;> rfl
theorem less_le (a b : Nat) : less a b ≤ a := by
  have h : less a b &&& a = less a b := by
    apply Nat.eq_of_testBit_eq; intro i
    rw [Nat.testBit_and, less_bit]; cases a.testBit i <;> cases b.testBit i <;> rfl
  rw [← h]; exact Nat.and_le_right
theorem i64_andNot (a b : Nat) (ha : a < 2 ^ 63) (_hb : b < 2 ^ 63) : bits .andNot .i64 (a : Int) (b : Int) = ((less a b : Nat) : Int) := by
  have hle := less_le a b
  have e : (BitVec.ofInt 64 (a : Int) &&& ~~~BitVec.ofInt 64 (b : Int)).toNat = less a b := by
    apply Nat.eq_of_testBit_eq
    intro i
    rw [less_bit, BitVec.testBit_toNat, BitVec.getLsbD_and, BitVec.getLsbD_not, BitVec.ofInt_natCast, BitVec.ofInt_natCast, BitVec.getLsbD_ofNat, BitVec.getLsbD_ofNat]
    by_cases hi : i < 64
    · simp [hi]
    · have : a.testBit i = false := Nat.testBit_lt_two_pow (Nat.lt_of_lt_of_le ha (Nat.pow_le_pow_right (by decide) (by omega)))
      simp [hi, this]
  show IntKind.i64.wrap ((BitVec.ofInt 64 (a : Int) &&& ~~~BitVec.ofInt 64 (b : Int)).toNat : Int) = _
  rw [e]
  exact wraps_i64 _ (Int.natCast_nonneg _) (by have : less a b < 2 ^ 63 := Nat.lt_of_le_of_lt hle ha; exact_mod_cast this)

theorem less_zero (a b : Nat) : less a b = 0 ↔ ∀ i, a.testBit i = true → b.testBit i = true := by
  constructor
  · intro h i ha
    have := less_bit a b i
    rw [h, ha] at this
    simpa using this.symm
  · intro h
    apply Nat.eq_of_testBit_eq
    intro i
    rw [less_bit, Nat.zero_testBit]
    cases ha : a.testBit i
    · rfl
    · rw [h i ha]; rfl
theorem or_lt (a b n : Nat) (ha : a < 2 ^ n) (hb : b < 2 ^ n) : a ||| b < 2 ^ n := Nat.or_lt_two_pow ha hb
theorem and_lt (a b n : Nat) (hb : b < 2 ^ n) : a &&& b < 2 ^ n := Nat.and_lt_two_pow _ hb
end Go.Proofs.YtafflkemnniegaaGreatDoor
namespace Go.Proofs.YtafflkemnniegaaGreatDoor.ProcLaw
set_option linter.unusedSimpArgs false
set_option linter.unusedVariables false

structure E where
  st : Int
  par : Int
  gr : Int
  code : Int
abbrev T := Nat → E
abbrev e0 : E := ⟨0, 0, 0, 0⟩
def updE (t : T) (k : Nat) (e : E) : T := fun j => if j = k then e else t j
theorem updE_same (t : T) (k : Nat) (e : E) : updE t k e k = e := by simp [updE]
theorem updE_other (t : T) {k j : Nat} (e : E) (h : j ≠ k) : updE t k e j = t j := by simp [updE, h]
/-- entry 1 lives, none else is there -/
def start : T := updE (fun _ => e0) 1 ⟨1, 0, 1, 0⟩

def alive (t : T) (p : Nat) : Prop := 1 ≤ p ∧ p ≤ 16 ∧ (t p).st = 1
def forked (t : T) (k p : Nat) : T := updE t k ⟨1, p, (t p).gr, 0⟩
def orphan (p : Nat) (e : E) : E := if e.st ≠ 0 ∧ e.par = p then ⟨e.st, 1, e.gr, e.code⟩ else e
/-- the first k entries lose their parent p -/
def lost (t : T) (p k : Nat) : T := fun j => if j < k then orphan p (t j) else t j
def ended (t : T) (p : Nat) (c : Int) : T := updE (lost t p 17) p ⟨2, (lost t p 17 p).par, (lost t p 17 p).gr, c⟩

theorem orphan_st (p : Nat) (e : E) : (orphan p e).st = e.st := by unfold orphan; split <;> rfl
theorem lost_st (t : T) (p k j : Nat) : (lost t p k j).st = (t j).st := by unfold lost; split; exact orphan_st _ _; rfl
theorem lost_zero (t : T) (p : Nat) : lost t p 0 = t := by funext j; simp [lost]
theorem lost_next (t : T) (p k : Nat) : lost t p (k + 1) = updE (lost t p k) k (orphan p (t k)) := by
  funext j
  by_cases h : j = k
  · subst h; simp [lost, updE]
  · simp only [lost, updE, if_neg h]
    by_cases h2 : j < k
    · rw [if_pos h2, if_pos (by omega)]
    · rw [if_neg h2, if_neg (by omega)]
theorem lost_at (t : T) (p k : Nat) : lost t p k k = t k := by simp [lost]

/-- how many from 2 to 16 are not free -/
def cnt (t : T) : Nat := (List.range 15).countP (fun i => decide ((t (i + 2)).st ≠ 0))

structure Inv (t : T) : Prop where
  z : (t 0).st = 0
  o : (t 1).st = 1
  r : ∃ r : Nat → Nat, r 1 = 0 ∧ ∀ k, 2 ≤ k → k ≤ 16 → (t k).st ≠ 0 → ∃ q : Nat, (t k).par = q ∧ 1 ≤ q ∧ q ≤ 16 ∧ (t q).st = 1 ∧ r q < r k

theorem start_inv : Inv start := by
  refine ⟨rfl, rfl, fun _ => 0, rfl, fun k h1 h2 h => absurd ?_ h⟩
  rw [start, updE_other _ _ (by omega)]
theorem start_cnt : cnt start = 0 := by decide

theorem countP_add (l : List Nat) (hn : l.Nodup) (f g : Nat → Bool) (k : Nat) (hk : k ∈ l) (hf : f k = false) (hg : g k = true) (h : ∀ j, j ≠ k → f j = g j) : l.countP g = l.countP f + 1 := by
  induction l with
  | nil => cases hk
  | cons x t ih =>
    rw [List.nodup_cons] at hn
    by_cases hx : x = k
    · subst hx
      rw [List.countP_cons_of_pos hg, List.countP_cons_of_neg (by simp [hf])]
      congr 1
      apply List.countP_congr
      intro y hy
      rw [h y (fun e => hn.1 (e ▸ hy))]
    · have hk' : k ∈ t := by
        rcases List.mem_cons.1 hk with h | h
        · exact absurd h.symm hx
        · exact h
      have := ih hn.2 hk'
      have e := h x hx
      by_cases hgx : g x = true
      · rw [List.countP_cons_of_pos hgx, List.countP_cons_of_pos (by rw [e]; exact hgx)]; omega
      · rw [List.countP_cons_of_neg hgx, List.countP_cons_of_neg (by rw [e]; exact hgx)]; omega
theorem cnt_up {t t' : T} {k : Nat} (h1 : 2 ≤ k) (h2 : k ≤ 16) (hf : (t k).st = 0) (hg : (t' k).st ≠ 0) (h : ∀ j, j ≠ k → ((t j).st ≠ 0 ↔ (t' j).st ≠ 0)) : cnt t' = cnt t + 1 := by
  unfold cnt
  apply countP_add _ List.nodup_range _ _ (k - 2) (List.mem_range.2 (by omega))
  · simp [show k - 2 + 2 = k by omega, hf]
  · simp [show k - 2 + 2 = k by omega, hg]
  · intro j hj
    have := h (j + 2) (by omega)
    simp only [decide_eq_decide]
    exact this
theorem cnt_same {t t' : T} (h : ∀ j, ((t j).st ≠ 0 ↔ (t' j).st ≠ 0)) : cnt t' = cnt t := by
  unfold cnt
  congr 1
  funext i
  simp only [decide_eq_decide]
  exact (h (i + 2)).symm

theorem fork_cnt {t : T} {k p : Nat} (hi : Inv t) (h1 : 1 ≤ k) (h2 : k ≤ 16) (hf : (t k).st = 0) : cnt (forked t k p) = cnt t + 1 := by
  have hk : k ≠ 1 := by rintro rfl; rw [hi.o] at hf; cases hf
  refine cnt_up (by omega) h2 hf (by rw [forked, updE_same]; simp) fun j hj => ?_
  rw [forked, updE_other _ _ hj]
theorem fork_inv {t : T} {k p : Nat} (hi : Inv t) (h1 : 1 ≤ k) (h2 : k ≤ 16) (hf : (t k).st = 0) (hp : alive t p) : Inv (forked t k p) := by
  have hk : k ≠ 1 := by rintro rfl; rw [hi.o] at hf; cases hf
  obtain ⟨p1, p2, p3⟩ := hp
  have hpk : p ≠ k := by rintro rfl; rw [hf] at p3; cases p3
  obtain ⟨r, r1, hr⟩ := hi.r
  refine ⟨?_, ?_, fun j => if j = k then r p + 1 else r j, ?_, fun j j1 j2 hj => ?_⟩
  · rw [forked, updE_other _ _ (by omega)]; exact hi.z
  · rw [forked, updE_other _ _ (by omega)]; exact hi.o
  · simp only [if_neg (Ne.symm hk)]; exact r1
  · by_cases hjk : j = k
    · subst hjk
      refine ⟨p, by rw [forked, updE_same], p1, p2, by rw [forked, updE_other _ _ hpk]; exact p3, ?_⟩
      simp [hpk]
    · rw [forked, updE_other _ _ hjk] at hj ⊢
      obtain ⟨q, q1, q2, q3, q4, q5⟩ := hr j j1 j2 hj
      have hqk : q ≠ k := by rintro rfl; rw [hf] at q4; cases q4
      refine ⟨q, q1, q2, q3, by rw [updE_other _ _ hqk]; exact q4, ?_⟩
      simp [hqk, hjk, q5]
theorem ended_st (t : T) (p : Nat) (c : Int) (j : Nat) : (ended t p c j).st = if j = p then 2 else (t j).st := by
  unfold ended
  by_cases h : j = p
  · subst h; rw [updE_same, if_pos rfl]
  · rw [updE_other _ _ h, if_neg h, lost_st]
theorem exit_cnt {t : T} {p : Nat} {c : Int} (hp : alive t p) : cnt (ended t p c) = cnt t := by
  refine cnt_same fun j => ?_
  rw [ended_st]
  by_cases h : j = p
  · subst h; rw [if_pos rfl, hp.2.2]; simp
  · rw [if_neg h]
theorem ended_par (t : T) (p : Nat) (c : Int) (j : Nat) (hj : j < 17) : (ended t p c j).par = (orphan p (t j)).par := by
  unfold ended
  by_cases h : j = p
  · subst h; rw [updE_same]; simp [lost, hj]
  · rw [updE_other _ _ h]; simp [lost, hj]
theorem exit_inv {t : T} {p : Nat} {c : Int} (hi : Inv t) (hp : alive t p) (h1 : p ≠ 1) : Inv (ended t p c) := by
  obtain ⟨r, r1, hr⟩ := hi.r
  obtain ⟨p1, p2, p3⟩ := hp
  refine ⟨?_, ?_, r, r1, fun j j1 j2 hj => ?_⟩
  · rw [ended_st, if_neg (by omega)]; exact hi.z
  · rw [ended_st, if_neg (Ne.symm h1)]; exact hi.o
  · have hj' : (t j).st ≠ 0 := by
      rw [ended_st] at hj
      by_cases h : j = p
      · subst h; rw [p3]; decide
      · rw [if_neg h] at hj; exact hj
    obtain ⟨q, q1, q2, q3, q4, q5⟩ := hr j j1 j2 hj'
    rw [ended_par _ _ _ _ (by omega)]
    by_cases hq : q = p
    · refine ⟨1, ?_, by omega, by omega, ?_, by omega⟩
      · rw [orphan, if_pos ⟨hj', by rw [q1, hq]⟩]; rfl
      · rw [ended_st, if_neg (Ne.symm h1)]; exact hi.o
    · refine ⟨q, ?_, q2, q3, ?_, q5⟩
      · rw [orphan, if_neg (fun h => hq (by have := h.2; rw [q1] at this; omega))]; exact q1
      · rw [ended_st, if_neg hq]; exact q4
theorem wait_cnt {t : T} {k : Nat} (h1 : 2 ≤ k) (h2 : k ≤ 16) (hk : (t k).st = 2) : cnt t = cnt (updE t k e0) + 1 := by
  refine cnt_up h1 h2 (by rw [updE_same]) (by rw [hk]; decide) fun j hj => ?_
  rw [updE_other _ _ hj]
theorem wait_two {t : T} {k : Nat} (hi : Inv t) (hk : (t k).st = 2) : 2 ≤ k := by
  have h0 : k ≠ 0 := by rintro rfl; rw [hi.z] at hk; cases hk
  have h1 : k ≠ 1 := by rintro rfl; rw [hi.o] at hk; cases hk
  omega
theorem wait_inv {t : T} {k : Nat} (hi : Inv t) (hk : (t k).st = 2) : Inv (updE t k e0) := by
  have h2 := wait_two hi hk
  obtain ⟨r, r1, hr⟩ := hi.r
  refine ⟨?_, ?_, r, r1, fun j j1 j2 hj => ?_⟩
  · rw [updE_other _ _ (by omega)]; exact hi.z
  · rw [updE_other _ _ (by omega)]; exact hi.o
  · by_cases hjk : j = k
    · subst hjk; rw [updE_same] at hj; exact absurd rfl hj
    · rw [updE_other _ _ hjk] at hj ⊢
      obtain ⟨q, q1, q2, q3, q4, q5⟩ := hr j j1 j2 hj
      have hqk : q ≠ k := by rintro rfl; rw [hk] at q4; cases q4
      exact ⟨q, q1, q2, q3, by rw [updE_other _ _ hqk]; exact q4, q5⟩

/-- how many that are there stand nearer to the first one -/
def near (t : T) (r : Nat → Nat) (u : Nat) : Nat := (List.range 17).countP (fun q => decide ((t q).st ≠ 0 ∧ r q < r u))
theorem countP_lt (l : List Nat) (f g : Nat → Bool) (h : ∀ j, f j = true → g j = true) (k : Nat) (hk : k ∈ l) (hf : f k = false) (hg : g k = true) : l.countP f < l.countP g := by
  induction l with
  | nil => cases hk
  | cons x t ih =>
    have hmono : t.countP f ≤ t.countP g := List.countP_mono_left fun j _ hj => h j hj
    rcases List.mem_cons.1 hk with rfl | hk'
    · rw [List.countP_cons_of_pos hg, List.countP_cons_of_neg (by simp [hf])]; omega
    · have := ih hk'
      by_cases hfx : f x = true
      · rw [List.countP_cons_of_pos hfx, List.countP_cons_of_pos (h x hfx)]; omega
      · rw [List.countP_cons_of_neg hfx]
        by_cases hgx : g x = true
        · rw [List.countP_cons_of_pos hgx]; omega
        · rw [List.countP_cons_of_neg hgx]; omega
theorem near_up {t : T} {r : Nat → Nat} {u q : Nat} (hq : q < 17) (hs : (t q).st ≠ 0) (hr : r q < r u) : near t r q < near t r u := by
  unfold near
  refine countP_lt _ _ _ (fun j hj => ?_) q (List.mem_range.2 hq) (by simp) (by simp [hs, hr])
  simp at hj ⊢
  exact ⟨hj.1, by omega⟩
theorem near_le {t : T} {r : Nat → Nat} {u : Nat} (hz : (t 0).st = 0) (hu1 : 1 ≤ u) (hu : u ≤ 16) : near t r u ≤ 15 := by
  have h1 : near t r u < (List.range 17).countP (fun q => decide (q ≠ 0)) := by
    unfold near
    refine countP_lt _ _ _ (fun j hj => ?_) u (List.mem_range.2 (by omega)) (by simp) (by simp; omega)
    simp at hj ⊢
    rintro rfl
    exact hj.1 hz
  have h2 : (List.range 17).countP (fun q => decide (q ≠ 0)) = 16 := by decide
  omega
end Go.Proofs.YtafflkemnniegaaGreatDoor.ProcLaw
namespace Go.Proofs.YtafflkemnniegaaGreatDoor
set_option linter.unusedSimpArgs false
set_option linter.unusedVariables false
open Go.ChangeShapes Go.WideShapes Go.Deep Go.RowKit

/-- A SLICE OF ARRAYS OF k INTS: element i's entry j is F i j. -/
def TabIn (w : World) (k : Nat) (v : Value) (len : Nat) (F : Nat → Nat → Int) : Prop :=
  ∃ (a : Option Addr) (cap : Nat), v = .slice a len cap ∧ len ≤ cap ∧ cap ≤ maxLen ∧ (len = 0 ∨ ∃ b off, a = some ⟨b, off, none⟩ ∧ b < w.heap.size ∧
    ∀ i, i < len → ∀ j, j < k → w.cell? ⟨b, off + i * k + j, none⟩ = some (.int .i64 (F i j)) ∧ -9223372036854775808 ≤ F i j ∧ F i j ≤ 9223372036854775807)

section
variable {H : Type} {enc : TypeId × Value → H} {P : Program} {w : World} {base : Nat} {held : Bool}
theorem open_tab {r : Reach} {b0 : Nat} {t e q : TypeId} {k : Nat} {v : Value} {d : DataW H} {p : List MemPlace} (ht : P.underlying t = some (.slice e)) (he : P.underlying e = some (.array k q)) (hq : P.underlying q = some (.int .i64))
    (hc1 : P.cellsOf q = 1) (hC : P.cellsOf e = k) (hpos : 0 < k)
    (hv : Value.okWide P w r b0 t v) (h : DataW.Trod enc P w base (fun _ => true) held t v d p) : ∃ len F, TabIn w k v len F := by
  obtain ⟨a0, len0, cap0, rfl⟩ := okWide_slice ht hv
  obtain ⟨fuel, hf⟩ := h
  rcases open_slice ht hf with ⟨hcs, _⟩ | ⟨a, len, cap, m, n, D, Pl, hcs, hb, hl, hm, hmm, hx, hi⟩
  · simp [Value.cells] at hcs
    obtain ⟨rfl, rfl, rfl⟩ := hcs
    exact ⟨0, fun _ _ => 0, none, 0, rfl, Nat.le_refl _, Nat.zero_le _, .inl rfl⟩
  · simp [Value.cells] at hcs
    obtain ⟨rfl, rfl, rfl⟩ := hcs
    have hmc : m = cap0 := by simpa using hmm
    by_cases h0 : len0 = 0
    · exact ⟨len0, fun _ _ => 0, some a, cap0, rfl, hl, hm, .inl h0⟩
    · obtain ⟨F, hF⟩ := choose_lt (α := Nat → Int) (n := len0) (p := fun i g => ∀ j, j < k → w.cell? (a.add (i * k + j)) = some (.int .i64 (g j)) ∧ -9223372036854775808 ≤ g j ∧ g j ≤ 9223372036854775807) (fun i hil => by
        obtain ⟨cs', hc, ht'⟩ := hi i (by omega)
        rw [hC] at hc
        obtain ⟨ys, n', hn', hy, hlen, hyl, hfld⟩ := DataW.trod_array he ht'
        obtain ⟨_, hcl, hat⟩ := World.cells?_some hc
        exact choose_lt (α := Int) (n := k) (p := fun j x => w.cell? (a.add (i * k + j)) = some (.int .i64 x) ∧ -9223372036854775808 ≤ x ∧ x ≤ 9223372036854775807) (fun j hj => by
          have hcell := hat j hj
          have hv : cs'[j]? = some (cs'[j]'(by omega)) := List.getElem?_eq_getElem (by omega)
          have h1 := hfld j hj
          rw [hc1, Nat.mul_one] at h1
          have hone' : (cs'.drop j).take 1 = [cs'[j]'(by omega)] := by
            rw [List.drop_eq_getElem_cons (by omega)]
            rfl
          rw [hone'] at h1
          have hys : ys[j]? = some (ys[j]'(by omega)) := List.getElem?_eq_getElem (by omega)
          rw [hys] at h1
          obtain ⟨z, hz, _, hw⟩ := DataW.trod_int hq h1
          have hz' : cs'[j]'(by omega) = .int .i64 z := by simpa using hz
          refine ⟨z, ?_, bounds_i64 hw⟩
          rw [← Go.Deep.add_add, hcell, hv, hz']))
      obtain ⟨b, off, spot⟩ := a
      have hc0 := (hF 0 (by omega) 0 hpos).1
      have hspot : spot = none := by simpa [Addr.add] using World.cell?_spot hc0
      subst hspot
      refine ⟨len0, F, _, cap0, rfl, hl, hm, .inr ⟨b, off, rfl, ?_, fun i hil j hj => ?_⟩⟩
      · have := World.block_lt_of_cell? w _ hc0
        rw [Addr.add_lit] at this
        exact this
      · have := hF i hil j hj
        rw [Addr.add_lit] at this
        rw [Nat.add_assoc]
        exact this
end
end Go.Proofs.YtafflkemnniegaaGreatDoor
namespace Go.Proofs.YtafflkemnniegaaGreatDoor.ProcLaw
set_option linter.unusedSimpArgs false
open Go.RowKit
set_option linter.unusedVariables false

structure TabAt (w : World) (b : Nat) (t : T) : Prop where
  lt : b < w.heap.size
  fz : ∀ i, w.frozen? ⟨b, i, none⟩ = false
  st : ∀ k, k < 17 → w.cell? ⟨b, k * 4, none⟩ = some (.int .i64 (t k).st)
  par : ∀ k, k < 17 → w.cell? ⟨b, k * 4 + 1, none⟩ = some (.int .i64 (t k).par)
  gr : ∀ k, k < 17 → w.cell? ⟨b, k * 4 + 2, none⟩ = some (.int .i64 (t k).gr)
  code : ∀ k, k < 17 → w.cell? ⟨b, k * 4 + 3, none⟩ = some (.int .i64 (t k).code)
theorem TabAt.keep {w w' : World} {b : Nat} {t : T} (h : TabAt w b t) (hb : Below w.heap.size w w') : TabAt w' b t := by
  refine ⟨Nat.lt_of_lt_of_le h.lt hb.size, fun i => (hb.frozen (p := ⟨b, i, none⟩) h.lt).trans (h.fz i), ?_, ?_, ?_, ?_⟩ <;> intro k hk
  · exact (hb.cell (p := ⟨b, _, none⟩) h.lt).trans (h.st k hk)
  · exact (hb.cell (p := ⟨b, _, none⟩) h.lt).trans (h.par k hk)
  · exact (hb.cell (p := ⟨b, _, none⟩) h.lt).trans (h.gr k hk)
  · exact (hb.cell (p := ⟨b, _, none⟩) h.lt).trans (h.code k hk)
theorem TabAt.drew {w : World} {b : Nat} {t : T} (h : TabAt w b t) : TabAt w.drew b t := h.keep (Below.refl _ _).drew
theorem set_other {w : World} {b i j : Nat} {v u : Value} (hij : i ≠ j) (h : w.cell? ⟨b, j, none⟩ = some u) : (w.setCell ⟨b, i, none⟩ v).cell? ⟨b, j, none⟩ = some u := by
  rw [World.cell?_setCell_other]
  · exact h
  · intro e; exact hij (by simpa using congrArg Addr.off e)
theorem set_same {w : World} {b i : Nat} {v u : Value} (h : w.cell? ⟨b, i, none⟩ = some u) : (w.setCell ⟨b, i, none⟩ v).cell? ⟨b, i, none⟩ = some v := by
  simp [go_sem, h]
theorem TabAt.setSt {w : World} {b k : Nat} {t : T} (h : TabAt w b t) (hk : k < 17) (x : Int) : TabAt (w.setCell ⟨b, k * 4, none⟩ (.int .i64 x)) b (updE t k ⟨x, (t k).par, (t k).gr, (t k).code⟩) := by
  refine ⟨by simpa using h.lt, fun i => by rw [World.frozen?_setCell]; exact h.fz i, ?_, ?_, ?_, ?_⟩ <;> intro j hj <;> by_cases e : j = k
  · subst e; rw [updE_same]; exact set_same (h.st _ hk)
  · rw [updE_other _ _ e]; exact set_other (by omega) (h.st j hj)
  · subst e; rw [updE_same]; exact set_other (by omega) (h.par _ hk)
  · rw [updE_other _ _ e]; exact set_other (by omega) (h.par j hj)
  · subst e; rw [updE_same]; exact set_other (by omega) (h.gr _ hk)
  · rw [updE_other _ _ e]; exact set_other (by omega) (h.gr j hj)
  · subst e; rw [updE_same]; exact set_other (by omega) (h.code _ hk)
  · rw [updE_other _ _ e]; exact set_other (by omega) (h.code j hj)
theorem TabAt.setPar {w : World} {b k : Nat} {t : T} (h : TabAt w b t) (hk : k < 17) (x : Int) : TabAt (w.setCell ⟨b, k * 4 + 1, none⟩ (.int .i64 x)) b (updE t k ⟨(t k).st, x, (t k).gr, (t k).code⟩) := by
  refine ⟨by simpa using h.lt, fun i => by rw [World.frozen?_setCell]; exact h.fz i, ?_, ?_, ?_, ?_⟩ <;> intro j hj <;> by_cases e : j = k
  · subst e; rw [updE_same]; exact set_other (by omega) (h.st _ hk)
  · rw [updE_other _ _ e]; exact set_other (by omega) (h.st j hj)
  · subst e; rw [updE_same]; exact set_same (h.par _ hk)
  · rw [updE_other _ _ e]; exact set_other (by omega) (h.par j hj)
  · subst e; rw [updE_same]; exact set_other (by omega) (h.gr _ hk)
  · rw [updE_other _ _ e]; exact set_other (by omega) (h.gr j hj)
  · subst e; rw [updE_same]; exact set_other (by omega) (h.code _ hk)
  · rw [updE_other _ _ e]; exact set_other (by omega) (h.code j hj)
theorem TabAt.setGr {w : World} {b k : Nat} {t : T} (h : TabAt w b t) (hk : k < 17) (x : Int) : TabAt (w.setCell ⟨b, k * 4 + 2, none⟩ (.int .i64 x)) b (updE t k ⟨(t k).st, (t k).par, x, (t k).code⟩) := by
  refine ⟨by simpa using h.lt, fun i => by rw [World.frozen?_setCell]; exact h.fz i, ?_, ?_, ?_, ?_⟩ <;> intro j hj <;> by_cases e : j = k
  · subst e; rw [updE_same]; exact set_other (by omega) (h.st _ hk)
  · rw [updE_other _ _ e]; exact set_other (by omega) (h.st j hj)
  · subst e; rw [updE_same]; exact set_other (by omega) (h.par _ hk)
  · rw [updE_other _ _ e]; exact set_other (by omega) (h.par j hj)
  · subst e; rw [updE_same]; exact set_same (h.gr _ hk)
  · rw [updE_other _ _ e]; exact set_other (by omega) (h.gr j hj)
  · subst e; rw [updE_same]; exact set_other (by omega) (h.code _ hk)
  · rw [updE_other _ _ e]; exact set_other (by omega) (h.code j hj)
theorem TabAt.setCode {w : World} {b k : Nat} {t : T} (h : TabAt w b t) (hk : k < 17) (x : Int) : TabAt (w.setCell ⟨b, k * 4 + 3, none⟩ (.int .i64 x)) b (updE t k ⟨(t k).st, (t k).par, (t k).gr, x⟩) := by
  refine ⟨by simpa using h.lt, fun i => by rw [World.frozen?_setCell]; exact h.fz i, ?_, ?_, ?_, ?_⟩ <;> intro j hj <;> by_cases e : j = k
  · subst e; rw [updE_same]; exact set_other (by omega) (h.st _ hk)
  · rw [updE_other _ _ e]; exact set_other (by omega) (h.st j hj)
  · subst e; rw [updE_same]; exact set_other (by omega) (h.par _ hk)
  · rw [updE_other _ _ e]; exact set_other (by omega) (h.par j hj)
  · subst e; rw [updE_same]; exact set_other (by omega) (h.gr _ hk)
  · rw [updE_other _ _ e]; exact set_other (by omega) (h.gr j hj)
  · subst e; rw [updE_same]; exact set_same (h.code _ hk)
  · rw [updE_other _ _ e]; exact set_other (by omega) (h.code j hj)
theorem updE_twice (t : T) (k : Nat) (e e' : E) : updE (updE t k e) k e' = updE t k e' := by
  funext j; by_cases h : j = k <;> simp [updE, h]
theorem TabAt.set4 {w : World} {b k : Nat} {t : T} (h : TabAt w b t) (hk : k < 17) (x y z u : Int) : TabAt ((((w.setCell ⟨b, k * 4, none⟩ (.int .i64 x)).setCell ⟨b, k * 4 + 1, none⟩ (.int .i64 y)).setCell ⟨b, k * 4 + 2, none⟩ (.int .i64 z)).setCell ⟨b, k * 4 + 3, none⟩ (.int .i64 u)) b (updE t k ⟨x, y, z, u⟩) := by
  have h4 := (((h.setSt hk x).setPar hk y).setGr hk z).setCode hk u
  simpa [updE_twice, updE_same] using h4

theorem number_any (n : Int) (w : World) : Calls Tryz.prog 104 #[.int .i64 n] w fun e w' => e = .returned (.bool (decide (1 ≤ n) && decide (n ≤ 16))) ∧ w = w' := by
  by_cases h1 : 1 ≤ n
  · by_cases h2 : n ≤ 16
    · go_enter Tryz.func104, Tryz.ntmps104
      go_wp2
      go_ret
      exact ⟨by simp [h1, h2], rfl⟩
    · go_enter Tryz.func104, Tryz.ntmps104
      go_wp2
      go_ret
      exact ⟨by simp [h1, h2], rfl⟩
  · go_enter Tryz.func104, Tryz.ntmps104
    go_wp2
    go_ret
    exact ⟨by rw [show decide (1 ≤ n) = false from by simp; omega]; rfl, rfl⟩
def livR (t : T) (p : Int) : Int := if 1 ≤ p ∧ p ≤ 16 then (if (t p.toNat).st = 1 then 0 else 4) else 1
theorem living_is {w : World} {b : Nat} {t : T} (p : Int) (h : TabAt w b t) : Calls Tryz.prog 186 #[.pointer (some ⟨b, 0, none⟩), .int .i64 p] w fun e w' => e = .returned (.int .i64 (livR t p)) ∧ w = w' := by
  by_cases hp : 1 ≤ p ∧ p ≤ 16
  · have hd : (decide (1 ≤ p) && decide (p ≤ 16)) = true := by simp; omega
    obtain ⟨k, rfl⟩ : ∃ k : Nat, p = k := ⟨p.toNat, by omega⟩
    have hk : (k : Int) < 17 := by omega
    have hc := h.st k (by omega)
    have hl : livR t k = if (t k).st = 1 then 0 else 4 := by unfold livR; rw [if_pos hp]; simp
    have HL := Lib.hid hl
    have HD := Lib.hid hd
    clear hl hd hp
    generalize (t k).st = x at *
    by_cases hx : x = 1
    · subst hx
      go_enter Tryz.func186, Tryz.ntmps186
      go_wp2_with fail
      refine (number_any _ _).mono ?_
      rintro e w1 ⟨rfl, rfl⟩
      rw [HD.out]
      go_wp2
      go_ret
      exact ⟨ret_int (by rw [HL.out]; simp), rfl⟩
    · have hx' : (x != 1) = true := by simp [hx]
      have HX := Lib.hid hx
      clear hx
      go_enter Tryz.func186, Tryz.ntmps186
      go_wp2_with fail
      refine (number_any _ _).mono ?_
      rintro e w1 ⟨rfl, rfl⟩
      rw [HD.out]
      go_wp2
      go_ret
      exact ⟨ret_int (by rw [HL.out, if_neg HX.out]), rfl⟩
  · have hd : (decide (1 ≤ p) && decide (p ≤ 16)) = false := by simp; omega
    have HL := Lib.hid (show livR t p = 1 from if_neg hp)
    clear hp
    go_enter Tryz.func186, Tryz.ntmps186
    go_wp2_with fail
    refine (number_any _ _).mono ?_
    rintro e w1 ⟨rfl, rfl⟩
    rw [hd]
    go_wp2
    go_ret
    exact ⟨ret_int (by rw [HL.out]), rfl⟩
theorem livR_zero {t : T} {p : Int} (h : livR t p = 0) : ∃ k : Nat, p = k ∧ alive t k := by
  unfold livR at h
  by_cases hp : 1 ≤ p ∧ p ≤ 16
  · rw [if_pos hp] at h
    by_cases hs : (t p.toNat).st = 1
    · exact ⟨p.toNat, by omega, by omega, by omega, hs⟩
    · rw [if_neg hs] at h; cases h
  · rw [if_neg hp] at h; cases h
theorem livR_alive {t : T} {k : Nat} (h : alive t k) : livR t k = 0 := by
  obtain ⟨h1, h2, h3⟩ := h
  unfold livR
  rw [if_pos (by omega), if_pos (by simpa using h3)]
theorem state_is {w : World} {b k : Nat} {t : T} (h : TabAt w b t) (h1 : 1 ≤ k) (h2 : k ≤ 16) : Calls Tryz.prog 45 #[.pointer (some ⟨b, 0, none⟩), .int .i64 k] w fun e w' => e = .returned (.tuple #[.int .i64 (t k).st, .int .i64 0]) ∧ w = w' := by
  have hd : (decide (1 ≤ (k : Int)) && decide ((k : Int) ≤ 16)) = true := by simp; omega
  have hk : (k : Int) < 17 := by omega
  have hc := h.st k (by omega)
  have HD := Lib.hid hd
  clear hd
  go_enter Tryz.func45, Tryz.ntmps45
  go_wp2_with fail
  refine (number_any _ _).mono ?_
  rintro e w1 ⟨rfl, rfl⟩
  rw [HD.out]
  go_wp2
  go_ret2
  exact ⟨rfl, rfl⟩
theorem parent_is {w : World} {b k : Nat} {t : T} (h : TabAt w b t) (h1 : 1 ≤ k) (h2 : k ≤ 16) (hn : (t k).st ≠ 0) : Calls Tryz.prog 136 #[.pointer (some ⟨b, 0, none⟩), .int .i64 k] w fun e w' => e = .returned (.tuple #[.int .i64 (t k).par, .int .i64 0]) ∧ w = w' := by
  have hd : (decide (1 ≤ (k : Int)) && decide ((k : Int) ≤ 16)) = true := by simp; omega
  have hk : (k : Int) < 17 := by omega
  have hc := h.st k (by omega)
  have hp := h.par k (by omega)
  have hn' : ((t k).st == 0) = false := by simp [hn]
  have HD := Lib.hid hd
  clear hd hn
  go_enter Tryz.func136, Tryz.ntmps136
  go_wp2_with fail
  refine (number_any _ _).mono ?_
  rintro e w1 ⟨rfl, rfl⟩
  rw [HD.out]
  go_wp2
  go_ret2
  exact ⟨rfl, rfl⟩
def ints68 : List Int := [0, 0, 0, 0, 1, 0, 1, 0] ++ List.replicate 60 0
theorem ints_at : ∀ k : Fin 17, ints68[k.val * 4]? = some (start k.val).st ∧ ints68[k.val * 4 + 1]? = some (start k.val).par ∧ ints68[k.val * 4 + 2]? = some (start k.val).gr ∧ ints68[k.val * 4 + 3]? = some (start k.val).code := by decide +kernel
theorem tab_new (w : World) (Y : TypeId) : TabAt (w.alloc (.cells (ints68.map (Value.int .i64)).toArray Y)) w.heap.size start := by
  have h := has_new w (ints68.map (Value.int .i64)) Y
  refine ⟨h.1, fun i => frozen_of_row _ _ _ _ _ (heap_alloc_new _ _), ?_, ?_, ?_, ?_⟩ <;> intro k hk <;> apply h.2 <;> rw [List.getElem?_map]
  · rw [(ints_at ⟨k, hk⟩).1]; rfl
  · rw [(ints_at ⟨k, hk⟩).2.1]; rfl
  · rw [(ints_at ⟨k, hk⟩).2.2.1]; rfl
  · rw [(ints_at ⟨k, hk⟩).2.2.2]; rfl
set_option maxRecDepth 100000 in
theorem new_is (w : World) : Calls Tryz.prog 35 #[] w fun e w' => e = .returned (.pointer (some ⟨w.heap.size, 0, none⟩)) ∧ Below w.heap.size w w' ∧ TabAt w' w.heap.size start := by
  go_enter Tryz.func35, Tryz.ntmps35
  go_wp2
  go_ret
  refine ⟨rfl, (Below.refl _ _).alloc (Nat.le_refl _) _, ?_⟩
  have e : (((Tryz.zeroCells220.setIfInBounds 4 (.int .i64 1)).setIfInBounds 5 (.int .i64 0)).setIfInBounds 6 (.int .i64 1)).setIfInBounds 7 (.int .i64 0) = (ints68.map (Value.int .i64)).toArray := by kernel_rfl
  have := tab_new w 220
  rw [← e] at this
  exact this
end Go.Proofs.YtafflkemnniegaaGreatDoor.ProcLaw
