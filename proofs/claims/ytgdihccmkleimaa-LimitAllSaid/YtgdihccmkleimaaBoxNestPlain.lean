/- Plain facts on a box in a box: segments that go through both mappings. No program here. -/
import Derived.Test.YtgdihccmkleimaaBoxPlain
namespace Go.Proofs.Ytgdihccmkleimaa.BoxLaw

abbrev r0 : Rg := ⟨0, 0, 0⟩

/-- what has been gone through: all of the first i ranges, and k numbers of the next one -/
def Done (inner : List Rg) (i : Nat) (k x : Int) : Prop :=
  (∃ j, j < i ∧ inA (inner.getD j r0) x = true) ∨ ((inner.getD i r0).a ≤ x ∧ x < (inner.getD i r0).a + k)

structure NInv (outer inner : List Rg) (i : Nat) (k : Int) (segs : List Rg) : Prop where
  pos : ∀ e ∈ segs, 1 ≤ e.n
  maps : ∀ e ∈ segs, ∀ j, 0 ≤ j → j < e.n → ∃ y, toF inner (e.a + j) = some y ∧ toF outer y = some (e.b + j)
  cover : ∀ x, Done inner i k x → ∃ e ∈ segs, e.a ≤ x ∧ x < e.a + e.n
  only : ∀ e ∈ segs, ∀ x, e.a ≤ x → x < e.a + e.n → Done inner i k x
  apart : segs.Pairwise fun o e => ∀ x, ¬ (o.a ≤ x ∧ x < o.a + o.n ∧ e.a ≤ x ∧ x < e.a + e.n)
  few : (segs.length : Int) ≤ 100 * i + k

theorem ninv_start (outer inner : List Rg) : NInv outer inner 0 0 [] := by
  refine ⟨by simp, by simp, ?_, by simp, by simp, by simp⟩
  rintro x (⟨j, hj, _⟩ | ⟨h1, h2⟩)
  · omega
  · omega

theorem getD_mem {l : List Rg} {i : Nat} (h : i < l.length) : l.getD i r0 ∈ l := by simp [List.getD, h]

theorem pairwise_at {l : List Rg} (hl : Fine l) {i j : Nat} (hij : i < j) (hj : j < l.length) : meetR (l.getD j r0) (l.getD i r0) = false := by
  have := List.pairwise_iff_getElem.1 hl.apart i j (by omega) hj hij
  simpa [List.getD, show i < l.length by omega, hj] using this

theorem not_both {l : List Rg} (hl : Fine l) {i j : Nat} (hij : i < j) (hj : j < l.length) {x : Int} (h1 : inA (l.getD i r0) x = true) (h2 : inA (l.getD j r0) x = true) : False := by
  have h := pairwise_at hl hij hj
  rw [inA_iff] at h1 h2
  have : meetR (l.getD j r0) (l.getD i r0) = true := (meetR_iff _ _).2 (.inl ⟨by omega, by omega⟩)
  rw [this] at h; cases h

theorem ninv_step {outer inner : List Rg} (hi : Fine inner) {i : Nat} {k : Int} {segs : List Rg} (h : NInv outer inner i k segs) (hil : i < inner.length) (hk : 0 ≤ k) {n m : Int} (hm : 1 ≤ m) (hkm : k + m ≤ (inner.getD i r0).n)
    (hmap : ∀ j, 0 ≤ j → j < m → toF outer ((inner.getD i r0).b + k + j) = some (n + j)) : NInv outer inner i (k + m) (segs ++ [⟨(inner.getD i r0).a + k, n, m⟩]) := by
  obtain ⟨r, hr⟩ : ∃ r, r = inner.getD i r0 := ⟨_, rfl⟩
  have hmem : r ∈ inner := by rw [hr]; exact getD_mem hil
  rw [← hr] at hkm hmap ⊢
  have hin : ∀ x, r.a ≤ x → x < r.a + r.n → toF inner x = some (r.b + x - r.a) := fun x h1 h2 => toF_of_mem hi hmem ((inA_iff r x).2 ⟨h1, h2⟩)
  refine ⟨?_, ?_, ?_, ?_, ?_, ?_⟩
  · intro e he
    rcases List.mem_append.1 he with he | he
    · exact h.pos e he
    · simp at he; subst he; exact hm
  · intro e he j hj0 hj
    rcases List.mem_append.1 he with he | he
    · exact h.maps e he j hj0 hj
    · simp at he; subst he
      simp only at hj ⊢
      refine ⟨r.b + k + j, ?_, hmap j hj0 hj⟩
      rw [hin _ (by omega) (by omega)]
      congr 1; omega
  · intro x hx
    by_cases hnew : r.a + k ≤ x ∧ x < r.a + (k + m)
    · exact ⟨⟨r.a + k, n, m⟩, by simp, hnew.1, by show x < r.a + k + m; omega⟩
    · have : Done inner i k x := by
        rcases hx with hx | ⟨h1, h2⟩
        · exact .inl hx
        · rw [← hr] at h1 h2
          refine .inr ⟨by rw [← hr]; exact h1, by rw [← hr]; omega⟩
      obtain ⟨e, he, q⟩ := h.cover x this
      exact ⟨e, by simp [he], q⟩
  · intro e he x h1 h2
    rcases List.mem_append.1 he with he | he
    · rcases h.only e he x h1 h2 with hx | ⟨q1, q2⟩
      · exact .inl hx
      · exact .inr ⟨q1, by omega⟩
    · simp at he; subst he
      simp only at h1 h2
      exact .inr ⟨by rw [← hr]; omega, by rw [← hr]; omega⟩
  · rw [List.pairwise_append]
    refine ⟨h.apart, by simp, ?_⟩
    intro e he e' he' x
    simp at he'; subst he'
    rintro ⟨h1, h2, h3, h4⟩
    simp only at h3 h4
    rcases h.only e he x h1 h2 with ⟨j, hj, hx⟩ | ⟨q1, q2⟩
    · refine not_both hi hj hil hx ?_
      rw [← hr]; exact (inA_iff _ _).2 ⟨by omega, by omega⟩
    · rw [← hr] at q2; omega
  · have := h.few; simp; omega

theorem ninv_next {outer inner : List Rg} (hi : Fine inner) {i : Nat} {segs : List Rg} {k : Int} (hil : i < inner.length) (hk : k = (inner.getD i r0).n) (h : NInv outer inner i k segs) : NInv outer inner (i + 1) 0 segs := by
  subst hk
  have hok := (okR_iff _).1 (hi.ok _ (getD_mem hil))
  refine ⟨h.pos, h.maps, ?_, ?_, h.apart, by have := h.few; simp; omega⟩
  · intro x hx
    refine h.cover x ?_
    rcases hx with ⟨j, hj, hx⟩ | ⟨h1, h2⟩
    · by_cases hji : j = i
      · subst hji; exact .inr ((inA_iff _ _).1 hx)
      · exact .inl ⟨j, by omega, hx⟩
    · omega
  · intro e he x h1 h2
    rcases h.only e he x h1 h2 with ⟨j, hj, hx⟩ | hx
    · exact .inl ⟨j, by omega, hx⟩
    · exact .inl ⟨i, by omega, (inA_iff _ _).2 hx⟩

theorem done_iff {inner : List Rg} {x : Int} : Done inner inner.length 0 x ↔ ∃ r ∈ inner, inA r x = true := by
  constructor
  · rintro (⟨j, hj, hx⟩ | ⟨h1, h2⟩)
    · exact ⟨_, getD_mem hj, hx⟩
    · omega
  · rintro ⟨r, hr, hx⟩
    obtain ⟨j, hj, rfl⟩ := List.mem_iff_getElem.1 hr
    exact .inl ⟨j, hj, by simpa [List.getD, hj] using hx⟩

theorem toF_none {l : List Rg} (hl : Fine l) {x : Int} : toF l x = none ↔ ¬ ∃ r ∈ l, inA r x = true := by
  constructor
  · rintro h ⟨r, hr, hx⟩
    rw [toF_of_mem hl hr hx] at h; cases h
  · intro h
    cases hx : toF l x with
    | none => rfl
    | some y => obtain ⟨r, hr, q, _⟩ := toF_mem hx; exact absurd ⟨r, hr, q⟩ h

theorem segs_fine {outer inner segs : List Rg} (ho : Fine outer) (hi : Fine inner) (h : NInv outer inner inner.length 0 segs) : Fine segs := by
  have img : ∀ e ∈ segs, ∀ j, 0 ≤ j → j < e.n → (0 ≤ e.a + j ∧ e.a + j < 100) ∧ 0 ≤ e.b + j ∧ e.b + j < 100 := by
    intro e he j h1 h2
    obtain ⟨y, hy, hz⟩ := h.maps e he j h1 h2
    obtain ⟨r, hr, hx, rfl⟩ := toF_mem hy
    obtain ⟨s, hs, hx', hz'⟩ := toF_mem hz
    have r1 := (okR_iff r).1 (hi.ok r hr)
    have s1 := (okR_iff s).1 (ho.ok s hs)
    rw [inA_iff] at hx hx'
    omega
  refine ⟨fun e he => ?_, ?_⟩
  · have hp := h.pos e he
    have a1 := img e he 0 (by omega) (by omega)
    have a2 := img e he (e.n - 1) (by omega) (by omega)
    rw [okR_iff]; omega
  · refine List.Pairwise.imp_of_mem ?_ h.apart
    intro o e hom hem hap
    cases hm : meetR e o with
    | false => rfl
    | true =>
      exfalso
      rcases (meetR_iff e o).1 hm with ⟨h1, h2⟩ | ⟨h1, h2⟩
      · have p1 := h.pos o hom
        have p2 := h.pos e hem
        by_cases hle : e.a ≤ o.a
        · exact hap o.a ⟨by omega, by omega, by omega, by omega⟩
        · exact hap e.a ⟨by omega, by omega, by omega, by omega⟩
      · have p1 := h.pos o hom
        have p2 := h.pos e hem
        have common : ∃ j j', 0 ≤ j ∧ j < o.n ∧ 0 ≤ j' ∧ j' < e.n ∧ o.b + j = e.b + j' := by
          by_cases hle : e.b ≤ o.b
          · exact ⟨0, o.b - e.b, by omega, by omega, by omega, by omega, by omega⟩
          · exact ⟨e.b - o.b, 0, by omega, by omega, by omega, by omega, by omega⟩
        obtain ⟨j, j', q1, q2, q3, q4, q5⟩ := common
        obtain ⟨y, hy, hz⟩ := h.maps o hom j q1 q2
        obtain ⟨y', hy', hz'⟩ := h.maps e hem j' q3 q4
        have e1 : y = y' := (inj ho hz hz').1 q5
        subst e1
        have e2 := (inj hi hy hy').1 rfl
        exact hap (o.a + j) ⟨by omega, by omega, by omega, by omega⟩

/-- the law in plain numbers -/
theorem nest_law {outer inner segs : List Rg} (hco : chk outer = 0) (hci : chk inner = 0) (h4 : segs.length ≤ 4) (h : NInv outer inner inner.length 0 segs) (x : Int) :
    chk segs = 0 ∧ (((toR inner x).2 ≠ 0 ∧ (toR segs x).2 = (toR inner x).2 ∧ (toR segs x).1 = 0) ∨
      ((toR inner x).2 = 0 ∧ (toR outer (toR inner x).1).2 = 0 ∧ (toR segs x).2 = 0 ∧ (toR segs x).1 = (toR outer (toR inner x).1).1)) := by
  have ho := ((chk_zero outer).1 hco).2
  have hi := ((chk_zero inner).1 hci).2
  have hs := segs_fine ho hi h
  have hc : chk segs = 0 := (chk_zero segs).2 ⟨h4, hs⟩
  refine ⟨hc, ?_⟩
  cases hx : toF inner x with
  | none =>
    have : toF segs x = none := by
      rw [toF_none hs]
      rintro ⟨e, he, hq⟩
      rw [inA_iff] at hq
      have := done_iff.1 (h.only e he x hq.1 hq.2)
      rw [toF_none hi] at hx
      exact hx this
    rw [toR_miss hci hx, toR_miss hc this]
    exact .inl ⟨by simp, rfl, rfl⟩
  | some y =>
    obtain ⟨r, hr, hq, _⟩ := toF_mem hx
    obtain ⟨e, he, q1, q2⟩ := h.cover x (done_iff.2 ⟨r, hr, hq⟩)
    obtain ⟨y', hy', hz⟩ := h.maps e he (x - e.a) (by omega) (by omega)
    rw [show e.a + (x - e.a) = x from by omega, hx] at hy'
    obtain rfl := Option.some.inj hy'
    have hsx := toF_of_mem hs he ((inA_iff e x).2 ⟨q1, q2⟩)
    have e1 := toR_hit hci hx
    have e2 := toR_hit hco hz
    have e3 := toR_hit hc hsx
    rw [e1, e3]
    refine .inr ⟨rfl, ?_, rfl, ?_⟩
    · show (toR outer y).2 = 0
      rw [e2]
    · show e.b + x - e.a = (toR outer y).1
      rw [e2]
      show e.b + x - e.a = e.b + (x - e.a)
      omega
end Go.Proofs.Ytgdihccmkleimaa.BoxLaw
