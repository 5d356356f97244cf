/- What At gives is an order of the threads' steps; what is added at once is all there in the end, in whatever order: in plain numbers. -/
import Derived.Test.YtopadiofanaaiaaTurnOne
import Derived.Test.YtopadiofanaaiaaTurnCount
namespace Go.Proofs.Ytopadiofanaaiaa.TurnLaw
set_option linter.unusedVariables false

def small (l : List Nat) : Prop := l.length ≤ 4 ∧ ∀ x ∈ l, x ≤ 4
theorem small_dec {l : List Nat} {i : Nat} (h : small l) : small (dec l i) := by
  refine ⟨by rw [dec_length]; exact h.1, fun x hx => ?_⟩
  unfold dec at hx
  by_cases hi : i < l.length
  · rcases List.mem_or_eq_of_mem_set hx with h' | rfl
    · exact h.2 x h'
    · have : l.getD i 0 ≤ 4 := h.2 _ (by simp [List.getD, hi])
      omega
  · rw [List.set_eq_of_length_le (by omega)] at hx
    exact h.2 x hx
theorem sumTo_mono {l : List Nat} (i : Nat) : sumTo l i ≤ sumTo l (i + 1) := by
  rw [sumTo]; split <;> omega
/-- who comes next: where the number lies among the counts -/
theorem pick_at {l : List Nat} {n : Nat} : ∀ (d i k : Nat), i + d = n → k < sumTo l n - sumTo l i → ∃ who, i ≤ who ∧ who < n ∧ l.getD who 0 ≠ 0 ∧ pick l ((List.range n).drop i) k = some (who, k + sumTo l i - sumTo l who) ∧ sumTo l who ≤ k + sumTo l i ∧ k + sumTo l i < sumTo l (who + 1) := by
  intro d
  induction d with
  | zero =>
    intro i k hd hk
    have : i = n := by omega
    subst this
    omega
  | succ d ih =>
    intro i k hd hk
    have hin : i < n := by omega
    by_cases h0 : l.getD i 0 = 0
    · have hs : sumTo l (i + 1) = sumTo l i := sumTo_skip h0
      obtain ⟨who, h1, h2, h3, h4, h5, h6⟩ := ih (i + 1) k (by omega) (by rw [hs]; exact hk)
      refine ⟨who, by omega, h2, h3, ?_, by omega, by omega⟩
      rw [pick_skip hin h0, h4, hs]
    · have hs : sumTo l (i + 1) = sumTo l i + countR (dec l i) := sumTo_next h0
      by_cases hc : countR (dec l i) ≤ k
      · obtain ⟨who, h1, h2, h3, h4, h5, h6⟩ := ih (i + 1) (k - countR (dec l i)) (by omega) (by omega)
        refine ⟨who, by omega, h2, h3, ?_, by omega, by omega⟩
        rw [pick_over hin h0 hc, h4, hs]
        congr 2
        omega
      · refine ⟨i, Nat.le_refl _, hin, h0, ?_, by omega, by omega⟩
        rw [pick_this hin h0 hc]
        congr 2
        omega
theorem someTo_false {l : List Nat} : ∀ {n : Nat}, someTo l n = false → ∀ i, i < n → l.getD i 0 = 0 := by
  intro n
  induction n with
  | zero => intro _ i hi; omega
  | succ n ih =>
    intro h i hi
    rw [someTo] at h
    split at h
    · rename_i h0
      rcases Nat.lt_or_ge i n with hl | hl
      · exact ih h i hl
      · have : i = n := by omega
        subst this
        exact h0
    · cases h
theorem sum_zero {l : List Nat} (h : ∀ x ∈ l, x = 0) : l.sum = 0 := by
  induction l with
  | nil => rfl
  | cons x t ih => rw [List.sum_cons, h x (by simp), ih (fun y hy => h y (by simp [hy]))]
theorem drop_dAt {p : List D} {j : Nat} (h : j < p.length) : p.drop j = dAt p j :: p.drop (j + 1) := by
  rw [List.drop_eq_getElem_cons h]; simp [dAt, List.getD, h]
theorem mem_dAt {p : List D} {j : Nat} (h : j < p.length) : dAt p j ∈ p := by simp [dAt, List.getD, h]
theorem mem_pAt {ps : List (List D)} {j : Nat} (h : j < ps.length) : pAt ps j ∈ ps := by simp [pAt, List.getD, h]
/-- one step of At -/
theorem at_step {l : List Nat} {k : Nat} (hs : small l) (hk : k < countR l) : (l.sum = 0 ∧ k = 0 ∧ pick l (List.range l.length) k = none) ∨ ∃ who k', who < l.length ∧ l.getD who 0 ≠ 0 ∧ pick l (List.range l.length) k = some (who, k') ∧ k' < countR (dec l who) ∧ k = sumTo l who + k' := by
  have hlaw := law_all hs.1 hs.2
  unfold lawB at hlaw
  rw [Bool.and_eq_true] at hlaw
  have h2 := hlaw.2
  cases hso : someTo l l.length
  · left
    rw [hso] at h2
    have hc1 : countR l = 1 := by simpa using h2
    have hz := someTo_false hso
    have hpn : pick l (List.range l.length) k = none := by
      cases hp : pick l (List.range l.length) k with
      | none => rfl
      | some q =>
        obtain ⟨i, k'⟩ := q
        obtain ⟨h1, h2⟩ := pick_in hp
        exact absurd (hz i (by simpa using h1)) h2
    refine ⟨?_, by omega, hpn⟩
    have : ∀ x ∈ l, x = 0 := by
      intro x hx
      obtain ⟨i, hi, rfl⟩ := List.getElem_of_mem hx
      have := hz i hi
      simpa [List.getD, hi] using this
    exact sum_zero this
  · right
    rw [hso] at h2
    have hc1 : sumTo l l.length = countR l := by simpa using h2
    obtain ⟨who, _, h3, h4, h5, h6, h7⟩ := pick_at (n := l.length) l.length 0 k (by omega) (by rw [hc1, show sumTo l 0 = 0 from rfl]; omega)
    have hn := sumTo_next h4
    rw [List.drop_zero] at h5
    have h00 : sumTo l 0 = 0 := rfl
    refine ⟨who, k + sumTo l 0 - sumTo l who, h3, h4, h5, by omega, by omega⟩
theorem dec_get {l : List Nat} {i j : Nat} : (dec l i).getD j 0 = if i = j then l.getD j 0 - 1 else l.getD j 0 := by
  unfold dec
  simp only [List.getD_eq_getElem?_getD, List.getElem?_set]
  by_cases e : i = j
  · subst e
    by_cases h : i < l.length
    · simp [h]
    · simp [h]
  · simp [e]
/-- each thread has its steps in it -/
theorem atF_count : ∀ (f : Nat) (l : List Nat) (k : Nat), small l → k < countR l → l.sum < f → ∀ i, (atF f l k).count i = l.getD i 0 := by
  intro f
  induction f with
  | zero => intro l k _ _ h; omega
  | succ f ih =>
    intro l k hs hk hf i
    rcases at_step hs hk with ⟨h0, _, hp⟩ | ⟨who, k', h1, h2, hp, h3, _⟩
    · rw [atF_none hp]
      have : l.getD i 0 = 0 := by
        by_cases hi : i < l.length
        · have := getD_le hi; omega
        · simp [List.getD, hi]
      rw [this]; rfl
    · rw [atF_some hp, List.count_cons, ih _ _ (small_dec hs) h3 (by have := dec_sum h2; omega) i, dec_get]
      by_cases e : who = i
      · subst e
        have h2' : 1 ≤ l.getD who 0 := Nat.pos_of_ne_zero h2
        rw [if_pos rfl]
        simp only [BEq.rfl, if_true]
        omega
      · simp [e]

/-- what is added -/
def addTo (cs : List Nat) (d : D) : List Nat := cs.set d.2.1 ((cs.getD d.2.1 0 + d.2.2) % 4294967296)
theorem addTo_get (cs : List Nat) (d : D) (j : Nat) : (addTo cs d)[j]? = if d.2.1 = j then (if j < cs.length then some ((cs.getD j 0 + d.2.2) % 4294967296) else none) else cs[j]? := by
  unfold addTo
  rw [List.getElem?_set]
  by_cases e : d.2.1 = j
  · subst e; simp
  · simp [e]
theorem addTo_length (cs : List Nat) (d : D) : (addTo cs d).length = cs.length := by simp [addTo]
theorem addTo_comm (cs : List Nat) (d d' : D) : addTo (addTo cs d) d' = addTo (addTo cs d') d := by
  apply List.ext_getElem?
  intro j
  rw [addTo_get, addTo_get, addTo_get, addTo_get]
  simp only [addTo_length]
  by_cases e : d.2.1 = j <;> by_cases e' : d'.2.1 = j
  · by_cases h : j < cs.length
    · simp only [e, e', h, if_true]
      congr 1
      have h1 : (addTo cs d).getD j 0 = (cs.getD j 0 + d.2.2) % 4294967296 := by
        rw [List.getD_eq_getElem?_getD, addTo_get]; simp [e, h]
      have h2 : (addTo cs d').getD j 0 = (cs.getD j 0 + d'.2.2) % 4294967296 := by
        rw [List.getD_eq_getElem?_getD, addTo_get]; simp [e', h]
      rw [h1, h2]
      omega
    · simp [e, e', h]
  · by_cases h : j < cs.length
    · simp only [e, e', h, if_true, if_false]
      have h2 : (addTo cs d').getD j 0 = cs.getD j 0 := by
        rw [List.getD_eq_getElem?_getD, addTo_get]; simp [e', List.getD]
      rw [h2]
    · simp [e, e', h]
  · by_cases h : j < cs.length
    · simp only [e, e', h, if_true, if_false]
      have h2 : (addTo cs d).getD j 0 = cs.getD j 0 := by
        rw [List.getD_eq_getElem?_getD, addTo_get]; simp [e, List.getD]
      rw [h2]
    · simp [e, e', h]
  · simp [e, e']
theorem flatten_set {rem : List (List D)} {i : Nat} {d : D} {r : List D} (h : rem[i]? = some (d :: r)) : rem.flatten.Perm (d :: (rem.set i r).flatten) := by
  induction rem generalizing i with
  | nil => simp at h
  | cons x t ih =>
    cases i with
    | zero =>
      simp at h
      subst h
      simp
    | succ i =>
      have := ih (i := i) (by simpa using h)
      simp only [List.flatten_cons, List.set_cons_succ]
      exact (this.append_left x).trans List.perm_middle
theorem fold_perm {cs : List Nat} {l l' : List D} (h : l.Perm l') : l.foldl addTo cs = l'.foldl addTo cs :=
  h.foldl_eq' (fun x _ y _ z => addTo_comm z x y) cs
theorem play_adds {ps : List (List D)} : ∀ (o : List Nat) (rem : List (List D)) (cs hs ats : List Nat), rem.length = ps.length → ats.length = ps.length → (∀ i, i < ps.length → rem.getD i [] = (pAt ps i).drop (ats.getD i 0)) → (∀ i, o.count i = (rem.getD i []).length) → (∀ p ∈ ps, ∀ d ∈ p, d.1 = 4) → ∃ hs', playR ps o cs hs ats = some (rem.flatten.foldl addTo cs, hs') := by
  intro o
  induction o with
  | nil =>
    intro rem cs hs ats hr ha hd hc hk
    have : rem.flatten = [] := by
      rw [List.flatten_eq_nil_iff]
      intro x hx
      obtain ⟨i, hi, rfl⟩ := List.getElem_of_mem hx
      have := hc i
      simp [List.getD, hi] at this
      exact List.eq_nil_of_length_eq_zero this.symm
    exact ⟨hs, by rw [this]; rfl⟩
  | cons i t ih =>
    intro rem cs hs ats hr ha hd hc hk
    have hci := hc i
    rw [List.count_cons_self] at hci
    have hil : i < ps.length := by
      rcases Nat.lt_or_ge i ps.length with h | h
      · exact h
      · rw [List.getD_eq_getElem?_getD, List.getElem?_eq_none (by omega)] at hci
        simp at hci
    have hdi := hd i hil
    rw [hdi, List.length_drop] at hci
    have hal : ats.getD i 0 < (pAt ps i).length := by omega
    have hdr : (pAt ps i).drop (ats.getD i 0) = dAt (pAt ps i) (ats.getD i 0) :: (pAt ps i).drop (ats.getD i 0 + 1) := drop_dAt hal
    have hk4 : (dAt (pAt ps i) (ats.getD i 0)).1 = 4 := hk (pAt ps i) (mem_pAt hil) _ (mem_dAt hal)
    rw [hdr] at hdi
    have hg : rem[i]? = some (dAt (pAt ps i) (ats.getD i 0) :: (pAt ps i).drop (ats.getD i 0 + 1)) := by
      have hir : i < rem.length := by omega
      rw [List.getD_eq_getElem?_getD, List.getElem?_eq_getElem hir] at hdi
      rw [List.getElem?_eq_getElem hir]
      exact congrArg some hdi
    rw [playR, if_pos ⟨hil, hal⟩]
    generalize dAt (pAt ps i) (ats.getD i 0) = d at *
    have hsc : stepC cs (hs.getD i 0) d.1 d.2.1 d.2.2 = addTo cs d := by unfold stepC addTo; simp [hk4]
    rw [hsc]
    obtain ⟨hs', hp⟩ := ih (rem.set i ((pAt ps i).drop (ats.getD i 0 + 1))) (addTo cs d) (hs.set i (stepH cs (hs.getD i 0) d.1 d.2.1 d.2.2)) (ats.set i (ats.getD i 0 + 1)) (by simpa using hr) (by simpa using ha) (by
      intro j hj
      simp only [List.getD_eq_getElem?_getD, List.getElem?_set]
      by_cases e : i = j
      · subst e
        simp [show i < rem.length by omega, show i < ats.length by omega]
      · simp only [e, if_false]
        have := hd j hj
        simpa [List.getD_eq_getElem?_getD] using this) (by
      intro j
      have h1 := hc j
      rw [List.count_cons] at h1
      by_cases e : i = j
      · subst e
        simp only [BEq.rfl, if_true] at h1
        rw [hdi] at h1
        simp only [List.getD_eq_getElem?_getD, List.getElem?_set, show i < rem.length by omega, if_true]
        simp at h1 ⊢
        omega
      · simp only [List.getD_eq_getElem?_getD, List.getElem?_set, e, if_false]
        simpa [e, List.getD_eq_getElem?_getD] using h1) hk
    refine ⟨hs', ?_⟩
    rw [hp, fold_perm (flatten_set hg)]
    rfl
/-- the whole law: the order that At gives leaves all that was added -/
theorem adds_law {l : List Nat} {k : Nat} {ps : List (List D)} (cs : List Nat) (hs : small l) (h12 : l.sum ≤ 12) (hk : k < countR l) (hl : ps.length = l.length) (hp : ∀ i, i < l.length → (pAt ps i).length = l.getD i 0) (h4 : ∀ p ∈ ps, ∀ d ∈ p, d.1 = 4) :
    ∃ hs', playR ps (atR l k) cs (List.replicate ps.length 0) (List.replicate ps.length 0) = some (ps.flatten.foldl addTo cs, hs') := by
  refine play_adds _ ps cs _ _ rfl (by simp) (fun i hi => ?_) (fun i => ?_) h4
  · simp [pAt, List.getD, hi]
  · rw [atR, atF_count 13 l k hs hk (by omega) i]
    by_cases hi : i < l.length
    · rw [← hp i hi]; rfl
    · simp [List.getD, hi, show ¬ i < ps.length by omega]
theorem at_length {l : List Nat} {k : Nat} (hs : small l) (h12 : l.sum ≤ 12) (hk : k < countR l) : ∀ f, l.sum < f → (atF f l k).length = l.sum := by
  intro f
  induction f generalizing l k with
  | zero => intro h; omega
  | succ f ih =>
    intro hf
    rcases at_step hs hk with ⟨h0, _, hp⟩ | ⟨who, k', h1, h2, hp, h3, _⟩
    · rw [atF_none hp, h0]; rfl
    · have hd := dec_sum h2
      rw [atF_some hp, List.length_cons, ih (small_dec hs) (by omega) h3 (by omega)]
      exact hd
end Go.Proofs.Ytopadiofanaaiaa.TurnLaw
