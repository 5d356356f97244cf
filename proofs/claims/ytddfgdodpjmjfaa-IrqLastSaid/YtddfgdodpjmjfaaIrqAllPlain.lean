/- Serving loses nothing and doubles nothing; and if it calls last, all is done: in plain numbers. -/
import Derived.Test.YtddfgdodpjmjfaaIrqServePlain
namespace Go.Proofs.Ytddfgdodpjmjfaa.IrqLaw

def sumL : List Int → Int
  | [] => 0
  | x :: t => x + sumL t
theorem sumL_append (a b : List Int) : sumL (a ++ b) = sumL a + sumL b := by
  induction a with
  | nil => simp [sumL]
  | cons x t ih => simp only [List.cons_append, sumL, ih]; omega

theorem step_sum (s : St) (n h : Int) (r : Bool) : (stepS s n h r).q + (stepS s n h r).d = s.q + s.d + n := by
  unfold stepS
  split
  · split
    · simp only; omega
    · simp only; omega
  · simp only; omega
theorem step_nonneg {s : St} (hq : 0 ≤ s.q) (hd : 0 ≤ s.d) {n h : Int} (hn : 0 ≤ n) (hh : 0 ≤ h) (r : Bool) : 0 ≤ (stepS s n h r).q ∧ 0 ≤ (stepS s n h r).d := by
  unfold stepS
  split
  · split
    · simp only; omega
    · simp only; omega
  · simp only; omega

theorem go_sum : ∀ (news had : List Int) (rings : List Bool) (s s' : St), had.length = news.length → rings.length = news.length → 0 ≤ s.q → 0 ≤ s.d → serveGo s news had rings = some s' →
    s'.q + s'.d = s.q + s.d + sumL news ∧ 0 ≤ s'.q ∧ 0 ≤ s'.d ∧ ∀ x ∈ news, 0 ≤ x ∧ x ≤ 100 := by
  intro news
  induction news with
  | nil =>
    intro had rings s s' h1 h2 hq hd h
    have : had = [] := List.eq_nil_of_length_eq_zero (by simpa using h1)
    subst this
    simp [serveGo] at h
    subst h
    exact ⟨by simp [sumL], hq, hd, by simp⟩
  | cons n ns ih =>
    intro had rings s s' h1 h2 hq hd h
    match had, rings, h1, h2 with
    | h0 :: hs, r :: rs, h1, h2 =>
      simp only [serveGo] at h
      by_cases hin : (within n && within h0) = true
      · rw [if_pos hin] at h
        have hin1 := (within_iff n).1 (by simp at hin; exact hin.1)
        have hin2 := (within_iff h0).1 (by simp at hin; exact hin.2)
        have hnn := step_nonneg hq hd hin1.1 hin2.1 r
        obtain ⟨q1, q2, q3, q4⟩ := ih hs rs _ s' (by simpa using h1) (by simpa using h2) hnn.1 hnn.2 h
        have := step_sum s n h0 r
        refine ⟨by simp only [sumL]; omega, q2, q3, fun x hx => ?_⟩
        rcases List.mem_cons.1 hx with rfl | hx
        · exact hin1
        · exact q4 x hx
      · rw [if_neg hin] at h; cases h

theorem all_law (had news : List Int) (rings : List Bool) :
    ((serveR had news rings).2.2 ≠ 0 ∧ (serveR had news rings).1 = 0 ∧ (serveR had news rings).2.1 = 0) ∨
    ((serveR had news rings).2.2 = 0 ∧ 0 ≤ (serveR had news rings).1 ∧ 0 ≤ (serveR had news rings).2.1 ∧ (serveR had news rings).1 + (serveR had news rings).2.1 = sumL news ∧ news.length ≤ 64 ∧ ∀ x ∈ news, 0 ≤ x ∧ x ≤ 100) := by
  unfold serveR
  by_cases h : had.length = news.length ∧ rings.length = news.length ∧ news.length ≤ 64
  · rw [if_pos h]
    cases hs : serveGo s0 news had rings with
    | none => exact .inl ⟨by simp [outS], rfl, rfl⟩
    | some s =>
      obtain ⟨h1, h2, h3, h4⟩ := go_sum news had rings s0 s h.1 h.2.1 (by decide) (by decide) hs
      exact .inr ⟨rfl, h3, h2, by simp only [outS]; have : s0.q + s0.d = 0 := rfl; omega, h.2.2, h4⟩
  · rw [if_neg h]; exact .inl ⟨by simp, rfl, rfl⟩

/-- once it calls it goes on calling while something is queued -/
theorem step_calls {s : St} {n h : Int} {r : Bool} (h1 : p1 s r = 1) : (stepS s n h r).q = (if s.q + n ≤ h then 0 else s.q + n - h) ∧ ((stepS s n h r).p = 1 ∨ (stepS s n h r).q = 0) := by
  unfold stepS
  rw [if_pos h1]
  split
  · exact ⟨rfl, .inr rfl⟩
  · exact ⟨rfl, .inl rfl⟩

theorem step_p {s : St} {n h : Int} {r : Bool} (h1 : p1 s r = 1) : (stepS s n h r).p = 0 ∨ (stepS s n h r).p = 1 := by
  unfold stepS
  rw [if_pos h1]
  split
  · exact .inl rfl
  · exact .inr rfl

/-- quiet rounds, 100 at a time: all is done -/
theorem go_quiet : ∀ (m : Nat) (s : St), (s.p = 1 ∨ s.q = 0) → 0 ≤ s.q → s.q ≤ 100 * m → (s.p = 0 ∨ s.p = 1) → ∃ s', serveGo s (List.replicate m 0) (List.replicate m 100) (List.replicate m false) = some s' ∧ s'.q = 0 := by
  intro m
  induction m with
  | zero =>
    intro s _ h0 h1 _
    exact ⟨s, rfl, by omega⟩
  | succ m ih =>
    intro s hp h0 h1 hp01
    simp only [List.replicate_succ, serveGo]
    rw [if_pos (by decide)]
    rcases hp01 with hp0 | hp1
    · have hq : s.q = 0 := by rcases hp with h | h; rw [hp0] at h; cases h; exact h
      have e : stepS s 0 100 false = ⟨s.u, s.p, s.q, s.d⟩ := by
        rw [stepS, if_neg (by show ¬ s.p = 1; omega)]
        show (⟨s.u, s.p, s.q + 0, s.d⟩ : St) = _
        rw [Int.add_zero]
      rw [e]
      exact ih _ (.inr hq) h0 (by show s.q ≤ _; omega) (.inl hp0)
    · have hc := step_calls (s := s) (n := 0) (h := 100) (r := false) hp1
      refine ih _ hc.2 ?_ ?_ (step_p hp1)
      · rw [hc.1]; split <;> omega
      · rw [hc.1]; split <;> omega

theorem go_append : ∀ (a b : List Int) (ha hb : List Int) (ra rb : List Bool) (s : St), ha.length = a.length → ra.length = a.length → serveGo s (a ++ b) (ha ++ hb) (ra ++ rb) = (serveGo s a ha ra).bind fun s' => serveGo s' b hb rb := by
  intro a
  induction a with
  | nil =>
    intro b ha hb ra rb s h1 h2
    have e1 : ha = [] := List.eq_nil_of_length_eq_zero (by simpa using h1)
    have e2 : ra = [] := List.eq_nil_of_length_eq_zero (by simpa using h2)
    subst e1 e2
    simp [serveGo]
  | cons n ns ih =>
    intro b ha hb ra rb s h1 h2
    match ha, ra, h1, h2 with
    | h0 :: hs, r :: rs, h1, h2 =>
      simp only [List.cons_append, serveGo]
      split
      · exact ih b hs hb rs rb _ (by simpa using h1) (by simpa using h2)
      · rfl

theorem go_ones : ∀ (news : List Int) (rings : List Bool) (s : St), rings.length = news.length → (∀ x ∈ news, 0 ≤ x ∧ x ≤ 19) → 0 ≤ s.q → ∃ s', serveGo s news (List.replicate news.length 1) rings = some s' ∧ 0 ≤ s'.q ∧ s'.q ≤ s.q + 19 * news.length := by
  intro news
  induction news with
  | nil => intro rings s h1 _ hq; exact ⟨s, rfl, hq, by simp⟩
  | cons n ns ih =>
    intro rings s h1 h2 hq
    match rings, h1 with
    | r :: rs, h1 =>
      have hn := h2 n (by simp)
      simp only [List.length_cons, List.replicate_succ, serveGo]
      rw [if_pos (by simp [within]; omega)]
      have hq' : 0 ≤ (stepS s n 1 r).q ∧ (stepS s n 1 r).q ≤ s.q + n := by
        unfold stepS
        split
        · split
          · simp only; omega
          · simp only; omega
        · simp only; omega
      obtain ⟨s', h3, h4, h5⟩ := ih rs _ (by simpa using h1) (fun x hx => h2 x (by simp [hx])) hq'.1
      exact ⟨s', h3, h4, by push_cast; omega⟩

/-- the law of the last call -/
theorem last_law (news : List Int) (rings : List Bool) (m : Nat) (h1 : rings.length = news.length) (h2 : news.length ≤ 20) (h3 : ∀ x ∈ news, 0 ≤ x ∧ x ≤ 19) (hm : 4 ≤ m) (hm' : m ≤ 12) :
    (serveR (List.replicate news.length 1 ++ List.replicate (m + 1) 100) (news ++ List.replicate (m + 1) 0) (rings ++ true :: List.replicate m false)).2.2 = 0 ∧
    (serveR (List.replicate news.length 1 ++ List.replicate (m + 1) 100) (news ++ List.replicate (m + 1) 0) (rings ++ true :: List.replicate m false)).2.1 = 0 := by
  unfold serveR
  rw [if_pos ⟨by simp, by simp [h1], by simp; omega⟩]
  rw [go_append _ _ _ _ _ _ _ (by simp) h1]
  obtain ⟨s, hs, q0, q1⟩ := go_ones news rings s0 h1 h3 (by decide)
  rw [hs]
  simp only [Option.bind_some, List.replicate_succ, serveGo]
  rw [if_pos (by decide)]
  have hz : s0.q = 0 := rfl
  have hc := step_calls (s := s) (n := 0) (h := 100) (r := true) rfl
  have hfit := step_p (s := s) (n := 0) (h := 100) (r := true) rfl
  obtain ⟨s', h4, h5⟩ := go_quiet m (stepS s 0 100 true) hc.2 (by rw [hc.1]; split <;> omega) (by rw [hc.1]; split <;> omega) hfit
  rw [h4]
  exact ⟨rfl, h5⟩
end Go.Proofs.Ytddfgdodpjmjfaa.IrqLaw
