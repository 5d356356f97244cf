/- Plain facts on ranges of numbers: a checked list maps one to one, there and back. No program here. -/
namespace Go.Proofs.Ytgdihccmkleimaa.BoxLaw
structure Rg where
  a : Int
  b : Int
  n : Int
def okR (r : Rg) : Bool := decide (1 ≤ r.n) && decide (r.n ≤ 100) && decide (0 ≤ r.a) && decide (0 ≤ r.b) && decide (r.a ≤ 100 - r.n) && decide (r.b ≤ 100 - r.n)
def meetI (a n b m : Int) : Bool := decide (a < b + m) && decide (b < a + n)
def meetR (r o : Rg) : Bool := meetI r.a r.n o.a o.n || meetI r.b r.n o.b o.n
def chkFrom (done : List Rg) : List Rg → Int
  | [] => 0
  | r :: t => if okR r then (if done.any (meetR r) then 5 else chkFrom (done ++ [r]) t) else 1
def chk (l : List Rg) : Int := if l.length > 4 then 2 else chkFrom [] l
def inA (r : Rg) (x : Int) : Bool := decide (r.a ≤ x) && decide (x < r.a + r.n)
def inB (r : Rg) (x : Int) : Bool := decide (r.b ≤ x) && decide (x < r.b + r.n)
def toF : List Rg → Int → Option Int
  | [], _ => none
  | r :: t, x => if inA r x then some (r.b + x - r.a) else toF t x
def fromF : List Rg → Int → Option Int
  | [], _ => none
  | r :: t, x => if inB r x then some (r.a + x - r.b) else fromF t x

theorem okR_iff (r : Rg) : okR r = true ↔ (1 ≤ r.n ∧ r.n ≤ 100 ∧ 0 ≤ r.a ∧ 0 ≤ r.b ∧ r.a ≤ 100 - r.n ∧ r.b ≤ 100 - r.n) := by
  simp [okR, and_assoc]
theorem meetR_iff (r o : Rg) : meetR r o = true ↔ ((r.a < o.a + o.n ∧ o.a < r.a + r.n) ∨ (r.b < o.b + o.n ∧ o.b < r.b + r.n)) := by
  simp [meetR, meetI]
theorem inA_iff (r : Rg) (x : Int) : inA r x = true ↔ (r.a ≤ x ∧ x < r.a + r.n) := by simp [inA]
theorem inB_iff (r : Rg) (x : Int) : inB r x = true ↔ (r.b ≤ x ∧ x < r.b + r.n) := by simp [inB]

/-- what a checked list is -/
structure Fine (l : List Rg) : Prop where
  ok : ∀ r ∈ l, okR r = true
  apart : l.Pairwise fun o r => meetR r o = false

theorem chkFrom_zero (l : List Rg) : ∀ done, chkFrom done l = 0 ↔ ((∀ r ∈ l, okR r = true) ∧ (∀ r ∈ l, ∀ o ∈ done, meetR r o = false) ∧ l.Pairwise fun o r => meetR r o = false) := by
  induction l with
  | nil => intro done; simp [chkFrom]
  | cons r t ih =>
    intro done
    simp only [chkFrom]
    by_cases h1 : okR r = true
    · rw [if_pos h1]
      by_cases h2 : done.any (meetR r) = true
      · rw [if_pos h2]
        constructor
        · intro h; cases h
        · rintro ⟨_, h, _⟩
          obtain ⟨o, ho, hm⟩ := List.any_eq_true.1 h2
          have := h r (by simp) o ho
          rw [this] at hm; cases hm
      · rw [if_neg h2, ih]
        have h2' : ∀ o ∈ done, meetR r o = false := by
          intro o ho
          cases hm : meetR r o
          · rfl
          · exact absurd (List.any_eq_true.2 ⟨o, ho, hm⟩) h2
        simp only [List.mem_append, List.mem_cons, List.pairwise_cons]
        constructor
        · rintro ⟨a, b, c⟩
          refine ⟨?_, ?_, ?_, c⟩
          · rintro x (rfl | hx)
            · exact h1
            · exact a x hx
          · rintro x (rfl | hx) o ho
            · exact h2' o ho
            · exact b x hx o (.inl ho)
          · intro x hx; exact b x hx r (.inr (by simp))
        · rintro ⟨a, b, c, d⟩
          refine ⟨fun x hx => a x (.inr hx), ?_, d⟩
          rintro x hx o ho
          rcases ho with ho | ho
          · exact b x (.inr hx) o ho
          · simp at ho; subst ho; exact c x hx
    · rw [if_neg h1]
      constructor
      · intro h; cases h
      · rintro ⟨h, _⟩; exact absurd (h r (by simp)) h1

theorem chk_zero (l : List Rg) : chk l = 0 ↔ (l.length ≤ 4 ∧ Fine l) := by
  unfold chk
  by_cases h : l.length > 4
  · rw [if_pos h]; constructor
    · intro h; cases h
    · rintro ⟨h', _⟩; omega
  · rw [if_neg h, chkFrom_zero]
    constructor
    · rintro ⟨a, _, c⟩; exact ⟨by omega, a, c⟩
    · rintro ⟨_, a, c⟩; exact ⟨a, by simp, c⟩

theorem toF_mem {l : List Rg} {x y : Int} (h : toF l x = some y) : ∃ r ∈ l, inA r x = true ∧ y = r.b + x - r.a := by
  induction l with
  | nil => simp [toF] at h
  | cons r t ih =>
    simp only [toF] at h
    by_cases hi : inA r x = true
    · rw [if_pos hi] at h; exact ⟨r, by simp, hi, by simpa using h.symm⟩
    · rw [if_neg hi] at h
      obtain ⟨r', h1, h2⟩ := ih h
      exact ⟨r', by simp [h1], h2⟩

theorem toF_of_mem {l : List Rg} (hl : Fine l) {r : Rg} (hr : r ∈ l) {x : Int} (hx : inA r x = true) : toF l x = some (r.b + x - r.a) := by
  induction l with
  | nil => simp at hr
  | cons s t ih =>
    simp only [toF]
    have hp := hl.apart
    rw [List.pairwise_cons] at hp
    rcases List.mem_cons.1 hr with rfl | hr'
    · rw [if_pos hx]
    · have hm := hp.1 r hr'
      have : ¬ inA s x = true := by
        intro hs
        rw [inA_iff] at hs hx
        have : meetR r s = true := (meetR_iff r s).2 (.inl ⟨by omega, by omega⟩)
        rw [this] at hm; cases hm
      rw [if_neg this]
      exact ih ⟨fun r hr => hl.ok r (by simp [hr]), hp.2⟩ hr'

theorem fromF_of_mem {l : List Rg} (hl : Fine l) {r : Rg} (hr : r ∈ l) {x : Int} (hx : inB r x = true) : fromF l x = some (r.a + x - r.b) := by
  induction l with
  | nil => simp at hr
  | cons s t ih =>
    simp only [fromF]
    have hp := hl.apart
    rw [List.pairwise_cons] at hp
    rcases List.mem_cons.1 hr with rfl | hr'
    · rw [if_pos hx]
    · have hm := hp.1 r hr'
      have : ¬ inB s x = true := by
        intro hs
        rw [inB_iff] at hs hx
        have : meetR r s = true := (meetR_iff r s).2 (.inr ⟨by omega, by omega⟩)
        rw [this] at hm; cases hm
      rw [if_neg this]
      exact ih ⟨fun r hr => hl.ok r (by simp [hr]), hp.2⟩ hr'

theorem back {l : List Rg} (hl : Fine l) {x y : Int} (h : toF l x = some y) : fromF l y = some x := by
  obtain ⟨r, hr, hx, rfl⟩ := toF_mem h
  rw [inA_iff] at hx
  rw [fromF_of_mem hl hr ((inB_iff _ _).2 ⟨by omega, by omega⟩)]
  congr 1; omega

theorem inj {l : List Rg} (hl : Fine l) {x x' y y' : Int} (h : toF l x = some y) (h' : toF l x' = some y') : (y = y') ↔ (x = x') := by
  constructor
  · rintro rfl
    have := back hl h; rw [back hl h'] at this; simpa using this.symm
  · rintro rfl; rw [h] at h'; simpa using h'

def toR (l : List Rg) (x : Int) : Int × Int := if chk l = 0 then (match toF l x with | some y => (y, 0) | none => (0, 4)) else (0, chk l)
def fromR (l : List Rg) (x : Int) : Int × Int := if chk l = 0 then (match fromF l x with | some y => (y, 0) | none => (0, 4)) else (0, chk l)
theorem toF_hit (l : List Rg) : ∀ (k : Nat) (x : Int), k < l.length → (∀ j, j < k → inA (l.getD j ⟨0, 0, 0⟩) x = false) → inA (l.getD k ⟨0, 0, 0⟩) x = true → toF l x = some ((l.getD k ⟨0, 0, 0⟩).b + x - (l.getD k ⟨0, 0, 0⟩).a) := by
  induction l with
  | nil => intro k x h; simp at h
  | cons r t ih =>
    intro k x h hn hy
    cases k with
    | zero => simp at hy; simp [toF, hy]
    | succ k =>
      have h0 := hn 0 (by omega)
      simp at h0
      simp only [toF, h0]
      simpa using ih k x (by simpa using h) (fun j hj => by simpa using hn (j + 1) (by omega)) (by simpa using hy)
theorem toF_miss (l : List Rg) (x : Int) (hn : ∀ j, j < l.length → inA (l.getD j ⟨0, 0, 0⟩) x = false) : toF l x = none := by
  induction l with
  | nil => rfl
  | cons r t ih =>
    have h0 := hn 0 (by simp)
    simp at h0
    simp only [toF, h0]
    simpa using ih (fun j hj => by simpa using hn (j + 1) (by simpa using hj))
theorem fromF_hit (l : List Rg) : ∀ (k : Nat) (x : Int), k < l.length → (∀ j, j < k → inB (l.getD j ⟨0, 0, 0⟩) x = false) → inB (l.getD k ⟨0, 0, 0⟩) x = true → fromF l x = some ((l.getD k ⟨0, 0, 0⟩).a + x - (l.getD k ⟨0, 0, 0⟩).b) := by
  induction l with
  | nil => intro k x h; simp at h
  | cons r t ih =>
    intro k x h hn hy
    cases k with
    | zero => simp at hy; simp [fromF, hy]
    | succ k =>
      have h0 := hn 0 (by omega)
      simp at h0
      simp only [fromF, h0]
      simpa using ih k x (by simpa using h) (fun j hj => by simpa using hn (j + 1) (by omega)) (by simpa using hy)
theorem fromF_miss (l : List Rg) (x : Int) (hn : ∀ j, j < l.length → inB (l.getD j ⟨0, 0, 0⟩) x = false) : fromF l x = none := by
  induction l with
  | nil => rfl
  | cons r t ih =>
    have h0 := hn 0 (by simp)
    simp at h0
    simp only [fromF, h0]
    simpa using ih (fun j hj => by simpa using hn (j + 1) (by simpa using hj))
theorem fine_at {l : List Rg} (h : chk l = 0) (k : Nat) (hk : k < l.length) : okR (l.getD k ⟨0, 0, 0⟩) = true :=
  ((chk_zero l).1 h).2.ok _ (by simp [List.getD, hk])
theorem toR_hit {l : List Rg} {x y : Int} (hc : chk l = 0) (h : toF l x = some y) : toR l x = (y, 0) := by rw [toR, if_pos hc, h]
theorem toR_miss {l : List Rg} {x : Int} (hc : chk l = 0) (h : toF l x = none) : toR l x = (0, 4) := by rw [toR, if_pos hc, h]
theorem toR_bad {l : List Rg} {x : Int} (hc : ¬ chk l = 0) : toR l x = (0, chk l) := by rw [toR, if_neg hc]
theorem fromR_hit {l : List Rg} {x y : Int} (hc : chk l = 0) (h : fromF l x = some y) : fromR l x = (y, 0) := by rw [fromR, if_pos hc, h]
theorem fromR_miss {l : List Rg} {x : Int} (hc : chk l = 0) (h : fromF l x = none) : fromR l x = (0, 4) := by rw [fromR, if_pos hc, h]
theorem fromR_bad {l : List Rg} {x : Int} (hc : ¬ chk l = 0) : fromR l x = (0, chk l) := by rw [fromR, if_neg hc]

/-- the law in plain numbers -/
theorem back_law (l : List Rg) (a b : Int) : ((toR l a).2 ≠ 0 ∧ (toR l a).1 = 0) ∨ ((toR l a).2 = 0 ∧ (fromR l (toR l a).1).2 = 0 ∧ (fromR l (toR l a).1).1 = a ∧ ((toR l b).2 ≠ 0 ∨ ((toR l a).1 = (toR l b).1 ↔ a = b))) := by
  by_cases hc : chk l = 0
  · have hf := ((chk_zero l).1 hc).2
    cases ha : toF l a with
    | none => rw [toR_miss hc ha]; exact .inl ⟨by simp, rfl⟩
    | some y =>
      rw [toR_hit hc ha, fromR_hit hc (back hf ha)]
      refine .inr ⟨rfl, rfl, rfl, ?_⟩
      cases hb : toF l b with
      | none => rw [toR_miss hc hb]; exact .inl (by simp)
      | some z => rw [toR_hit hc hb]; exact .inr (inj hf ha hb)
  · rw [toR_bad hc]; exact .inl ⟨hc, rfl⟩
end Go.Proofs.Ytgdihccmkleimaa.BoxLaw
