/- Plain laws: tasks that are ready or not, by their numbers; what each call of the kernel makes of them. No walk here. Plain laws: who sleeps, by the wheel's timers; how many live. No walk here. -/
import Derived.Test.YtafflkemnniegaaGreatDoorBuA
import Derived.Test.YtafflkemnniegaaGreatDoorSpB
import Derived.Test.YtafflkemnniegaaGreatDoorSpM
namespace Go.Proofs.YtafflkemnniegaaGreatDoor
set_option linter.unusedVariables false
set_option linter.unusedSimpArgs false
/-- the tasks are those of M, ready as it says -/
structure LM (l : List Tk) (M : Nat → Option Bool) : Prop where
  of : ∀ (i : Nat) (x : Tk), l[i]? = some x → ∃ p : Nat, x.t = (p : Int) ∧ M p = some x.rd
  has : ∀ (p : Nat) (r : Bool), M p = some r → ∃ (i : Nat) (x : Tk), l[i]? = some x ∧ x.t = (p : Int) ∧ x.rd = r
theorem sameV_back {l l' : List Tk} (h : SameV l l') {i : Nat} {x : Tk} (hx : l[i]? = some x) : ∃ y, l'[i]? = some y ∧ y.t = x.t ∧ y.v = x.v ∧ y.rd = x.rd := by
  have hi := (List.getElem?_eq_some_iff.1 hx).1
  have hi' : i < l'.length := by rw [h.1]; exact hi
  obtain ⟨y, hy, e1, e2, e3⟩ := h.2 i l'[i] (List.getElem?_eq_getElem hi')
  rw [hx] at hy
  injection hy with hy
  subst hy
  exact ⟨_, List.getElem?_eq_getElem hi', e1.symm, e2.symm, e3.symm⟩
theorem LM.same {l l' : List Tk} {M : Nat → Option Bool} (h : LM l M) (hs : SameV l l') : LM l' M := by
  refine ⟨fun i x hx => ?_, fun p r hp => ?_⟩
  · obtain ⟨y, hy, e1, e2, e3⟩ := hs.2 i x hx
    obtain ⟨p, h1, h2⟩ := h.of i y hy
    exact ⟨p, e1 ▸ h1, e3 ▸ h2⟩
  · obtain ⟨i, x, hx, h1, h2⟩ := h.has p r hp
    obtain ⟨y, hy, e1, e2, e3⟩ := sameV_back hs hx
    exact ⟨i, y, hy, e1.trans h1, e3.trans h2⟩
theorem idG_at {l : List Tk} {t : Int} {i : Nat} (h : idG l t = some i) : ∃ x, l[i]? = some x ∧ x.t = t := by
  unfold idG at h
  rw [List.findIdx?_eq_some_iff_getElem] at h
  obtain ⟨hi, e, -⟩ := h
  exact ⟨_, List.getElem?_eq_getElem hi, by simpa using e⟩
theorem idG_none {l : List Tk} {t : Int} (h : ∀ (i : Nat) (x : Tk), l[i]? = some x → x.t ≠ t) : idG l t = none := by
  unfold idG
  rw [List.findIdx?_eq_none_iff]
  intro x hx
  obtain ⟨i, hi, e⟩ := List.mem_iff_getElem.1 hx
  have := h i x (by rw [List.getElem?_eq_getElem hi, e])
  simpa using this
section
variable {nc : Nat} {l : List Tk} {M : Nat → Option Bool} {p i : Nat} {x : Tk} {r : Bool}
theorem LM.no (h : LM l M) (hp : M p = .none) : idG l p = .none := idG_none fun i x hx e => by
  obtain ⟨q, h1, h2⟩ := h.of i x hx
  have : q = p := by omega
  rw [this, hp] at h2
  cases h2
theorem LM.yes (h : LM l M) (hp : M p = .some r) : ∃ i x, idG l p = .some i ∧ l[i]? = .some x ∧ x.t = (p : Int) ∧ x.rd = r := by
  obtain ⟨i, x, hx, h1, h2⟩ := h.has p r hp
  cases hi : idG l p with
  | none =>
    exfalso
    unfold idG at hi
    rw [List.findIdx?_eq_none_iff] at hi
    have := hi x (List.mem_of_getElem? hx)
    simp [h1] at this
  | some j =>
    obtain ⟨y, hy, e⟩ := idG_at hi
    obtain ⟨q, h3, h4⟩ := h.of j y hy
    have : q = p := by omega
    rw [this, hp] at h4
    injection h4 with h4
    exact ⟨j, y, rfl, hy, e, h4.symm⟩
theorem LM.set (h : LM l M) (hpre : Pre nc l) (hx : l[i]? = .some x) (ht : x.t = (p : Int)) {y : Tk} (hy : y.t = x.t) : LM (l.set i y) (fup M p (.some y.rd)) := by
  refine ⟨fun j z hz => ?_, fun q r' hq => ?_⟩
  · rcases set_at hx hz with ⟨rfl, rfl⟩ | ⟨n1, hz⟩
    · exact ⟨p, hy.trans ht, fup_same _ _ _⟩
    · obtain ⟨q, h1, h2⟩ := h.of j z hz
      have : q ≠ p := fun e => n1 (hpre.id j i z x hz hx (by rw [h1, ht, e]))
      exact ⟨q, h1, by rw [fup_off _ _ this]; exact h2⟩
  · by_cases e : q = p
    · subst e
      rw [fup_same] at hq
      injection hq with hq
      exact ⟨i, y, set_here hx, hy.trans ht, hq⟩
    · rw [fup_off _ _ e] at hq
      obtain ⟨j, z, hz, h1, h2⟩ := h.has q r' hq
      have : j ≠ i := fun e2 => by
        subst e2
        rw [hx] at hz
        injection hz with hz
        subst hz
        omega
      exact ⟨j, z, set_there this hz, h1, h2⟩
theorem Pre.push (h : Pre nc l) {y : Tk} (hy : ∀ (i : Nat) (x : Tk), l[i]? = .some x → x.t ≠ y.t) (hc : y.cpu = -1) : Pre nc (l ++ [y]) := by
  have key : ∀ (i : Nat) (x : Tk), (l ++ [y])[i]? = .some x → l[i]? = .some x ∨ (i = l.length ∧ x = y) := fun i x hx => by
    rcases Nat.lt_or_ge i l.length with q | q
    · rw [List.getElem?_append_left q] at hx; exact .inl hx
    · rw [List.getElem?_append_right q] at hx
      have : i - l.length = 0 := by
        have := (List.getElem?_eq_some_iff.1 hx).1
        simp at this; omega
      rw [this] at hx
      injection hx with hx
      exact .inr ⟨by omega, hx.symm⟩
  refine ⟨fun a b u v hu hv e => ?_, fun a u hu => ?_, fun a u hu h0 => ?_, fun a b u v hu hv h0 e => ?_⟩
  · rcases key a u hu with hu2 | ⟨rfl, rfl⟩ <;> rcases key b v hv with hv2 | ⟨rfl, rfl⟩
    · exact h.id a b u v hu2 hv2 e
    · exact absurd e (hy a u hu2)
    · exact absurd e.symm (hy b v hv2)
    · rfl
  · rcases key a u hu with hu2 | ⟨rfl, rfl⟩
    · exact h.lo a u hu2
    · omega
  · rcases key a u hu with hu2 | ⟨rfl, rfl⟩
    · exact h.rd a u hu2 h0
    · omega
  · rcases key a u hu with hu2 | ⟨rfl, rfl⟩ <;> rcases key b v hv with hv2 | ⟨rfl, rfl⟩
    · exact h.un a b u v hu2 hv2 h0 e
    · omega
    · omega
    · rfl
theorem enter_full (h : Pre nc l) (hm : LM l M) (hp : M p = .none) : Full nc (enterL l p nc) ∧ LM (enterL l p nc) (fup M p (.some true)) := by
  have hne : ∀ (i : Nat) (x : Tk), l[i]? = .some x → x.t ≠ (p : Int) := fun i x hx e => by
    obtain ⟨q, h1, h2⟩ := hm.of i x hx
    have : q = p := by omega
    rw [this, hp] at h2
    cases h2
  obtain ⟨v, hv⟩ : ∃ v, v = (lowG l l.length).getD 0 := ⟨_, rfl⟩
  unfold enterL
  rw [← hv]
  refine ⟨(h.push (y := ⟨p, v, true, -1⟩) hne rfl).fill, LM.same ⟨fun j z hz => ?_, fun q r' hq => ?_⟩ (fillG_same _ nc)⟩
  · rcases Nat.lt_or_ge j l.length with q | q
    · rw [List.getElem?_append_left q] at hz
      obtain ⟨q', h1, h2⟩ := hm.of j z hz
      have : q' ≠ p := fun e => hne j z hz (by rw [h1, e])
      exact ⟨q', h1, by rw [fup_off _ _ this]; exact h2⟩
    · rw [List.getElem?_append_right q] at hz
      have e : j - l.length = 0 := by
        have := (List.getElem?_eq_some_iff.1 hz).1
        simp at this; omega
      rw [e] at hz
      injection hz with hz
      subst hz
      exact ⟨p, rfl, fup_same _ _ _⟩
  · by_cases e : q = p
    · subst e
      rw [fup_same] at hq
      injection hq with hq
      exact ⟨l.length, ⟨q, v, true, -1⟩, by rw [List.getElem?_append_right (Nat.le_refl _), Nat.sub_self]; rfl, rfl, hq⟩
    · rw [fup_off _ _ e] at hq
      obtain ⟨j, z, hz, h1, h2⟩ := hm.has q r' hq
      exact ⟨j, z, by rw [List.getElem?_append_left (List.getElem?_eq_some_iff.1 hz).1]; exact hz, h1, h2⟩
theorem erase_at {i j : Nat} {z : Tk} (h : (l.eraseIdx i)[j]? = .some z) : ∃ k, l[k]? = .some z ∧ k ≠ i ∧ ((k = j ∧ j < i) ∨ (k = j + 1 ∧ i ≤ j)) := by
  rw [List.getElem?_eraseIdx] at h
  split at h
  · exact ⟨j, h, by omega, .inl ⟨rfl, by omega⟩⟩
  · exact ⟨j + 1, h, by omega, .inr ⟨rfl, by omega⟩⟩
theorem Pre.erase (h : Pre nc l) (i : Nat) : Pre nc (l.eraseIdx i) := by
  refine ⟨fun a b u v hu hv e => ?_, fun a u hu => ?_, fun a u hu h0 => ?_, fun a b u v hu hv h0 e => ?_⟩
  · obtain ⟨a', hu2, n1, c1⟩ := erase_at hu
    obtain ⟨b', hv2, n2, c2⟩ := erase_at hv
    have := h.id a' b' u v hu2 hv2 e
    omega
  · obtain ⟨a', hu, -⟩ := erase_at hu
    exact h.lo a' u hu
  · obtain ⟨a', hu, -⟩ := erase_at hu
    exact h.rd a' u hu h0
  · obtain ⟨a', hu2, n1, c1⟩ := erase_at hu
    obtain ⟨b', hv2, n2, c2⟩ := erase_at hv
    have := h.un a' b' u v hu2 hv2 h0 e
    omega
theorem leave_full (h : Pre nc l) (hm : LM l M) (hi : idG l p = .some i) : Full nc (leaveL l i nc) ∧ LM (leaveL l i nc) (fup M p .none) := by
  obtain ⟨x, hx, ht⟩ := idG_at hi
  refine ⟨(h.erase i).fill, LM.same ⟨fun j z hz => ?_, fun q r' hq => ?_⟩ (fillG_same _ nc)⟩
  · obtain ⟨k, hz, n1, -⟩ := erase_at hz
    obtain ⟨q, h1, h2⟩ := hm.of k z hz
    have : q ≠ p := fun e => n1 (h.id k i z x hz hx (by rw [h1, ht, e]))
    exact ⟨q, h1, by rw [fup_off _ _ this]; exact h2⟩
  · by_cases e : q = p
    · subst e
      rw [fup_same] at hq
      cases hq
    · rw [fup_off _ _ e] at hq
      obtain ⟨j, z, hz, h1, h2⟩ := hm.has q r' hq
      have hji : j ≠ i := fun e2 => by
        subst e2
        rw [hx] at hz
        injection hz with hz
        subst hz
        omega
      rcases Nat.lt_or_ge j i with q' | q'
      · exact ⟨j, z, by rw [List.getElem?_eraseIdx, if_pos q']; exact hz, h1, h2⟩
      · exact ⟨j - 1, z, by rw [List.getElem?_eraseIdx, if_neg (by omega), show j - 1 + 1 = j by omega]; exact hz, h1, h2⟩
theorem block_full (h : Pre nc l) (hm : LM l M) (hi : idG l p = .some i) (hx : l[i]? = .some x) : Full nc (fillG (l.set i { x with rd := false, cpu := -1 }) nc) ∧ LM (fillG (l.set i { x with rd := false, cpu := -1 }) nc) (fup M p (.some false)) := by
  obtain ⟨y, hy, ht⟩ := idG_at hi
  rw [hx] at hy
  injection hy with hy
  subst hy
  exact ⟨(h.set hx (y := { x with rd := false, cpu := -1 }) rfl (.inl (by show (-1 : Int) < 0; decide))).fill, (hm.set h hx ht (y := { x with rd := false, cpu := -1 }) rfl).same (fillG_same _ nc)⟩
theorem wake_full (h : Pre nc l) (hm : LM l M) (hi : idG l p = .some i) (hx : l[i]? = .some x) (v : Int) : Full nc (fillG (l.set i { x with v := v, rd := true, cpu := -1 }) nc) ∧ LM (fillG (l.set i { x with v := v, rd := true, cpu := -1 }) nc) (fup M p (.some true)) := by
  obtain ⟨y, hy, ht⟩ := idG_at hi
  rw [hx] at hy
  injection hy with hy
  subst hy
  exact ⟨(h.set hx (y := { x with v := v, rd := true, cpu := -1 }) rfl (.inl (by show (-1 : Int) < 0; decide))).fill, (hm.set h hx ht (y := { x with v := v, rd := true, cpu := -1 }) rfl).same (fillG_same _ nc)⟩
theorem tick_full (h : Pre nc l) (hm : LM l M) (c : Int) : Full nc (tickL l c nc) ∧ LM (tickL l c nc) M := by
  unfold tickL
  cases ho : onG l c with
  | none => exact ⟨h.fill, hm.same (fillG_same _ nc)⟩
  | some i =>
    obtain ⟨x, hx, -⟩ := onG_some ho
    obtain ⟨p, ht, hr⟩ := hm.of i x hx
    dsimp only
    unfold stepAt
    rw [hx]
    dsimp only
    have e : fup M p (.some x.rd) = M := by
      funext q
      unfold fup
      split
      · rename_i e; rw [e, hr]
      · rfl
    have := hm.set h hx ht (y := { x with v := x.v + 104857, cpu := -1 }) rfl
    rw [show ({ x with v := x.v + 104857, cpu := -1 } : Tk).rd = x.rd from rfl, e] at this
    exact ⟨(h.set hx (y := { x with v := x.v + 104857, cpu := -1 }) rfl (.inl (by show (-1 : Int) < 0; decide))).fill, this.same (fillG_same _ nc)⟩
theorem tickAll_full (h : Full nc l) (hm : LM l M) : ∀ k : Nat, Full nc (tickAll l nc k) ∧ LM (tickAll l nc k) M
  | 0 => ⟨h, hm⟩
  | k + 1 => tick_full (tickAll_full h hm k).1.toPre (tickAll_full h hm k).2 _
theorem lowG_ok {b : Int} (h : VOk b l) : ∀ k n, lowG l k = .some n → 0 ≤ n ∧ n ≤ b
  | 0, n, e => by simp [lowG] at e
  | k + 1, n, e => by
    cases hk : l[k]? with
    | none => rw [lowG, hk] at e; exact lowG_ok h k n e
    | some x =>
      have hv := h k x hk
      rw [lowG_next hk] at e
      split at e
      · cases hl : lowG l k with
        | none => rw [hl] at e; injection e with e; omega
        | some m =>
          rw [hl] at e
          dsimp only at e
          split at e
          · injection e with e; omega
          · injection e with e; subst e; exact lowG_ok h k m hl
      · exact lowG_ok h k n e
theorem VOk.put {b : Int} (h : VOk b l) (hx : l[i]? = .some x) {y : Tk} (h0 : 0 ≤ y.v) (h1 : y.v ≤ b) : VOk b (l.set i y) := fun j z hz => by
  rcases set_at hx hz with ⟨rfl, rfl⟩ | ⟨n1, hz⟩
  · exact ⟨h0, h1⟩
  · exact h j z hz
theorem wokeV_ok {b : Int} (h : VOk b l) (hx : l[i]? = .some x) : 0 ≤ wokeV l x ∧ wokeV l x ≤ b := by
  have hv := h i x hx
  unfold wokeV
  cases hl : lowG l l.length with
  | none => exact hv
  | some n =>
    have := lowG_ok h _ n hl
    show 0 ≤ (if x.v < n then n else x.v) ∧ (if x.v < n then n else x.v) ≤ b
    split <;> omega
theorem VOk.enter {b : Int} (h : VOk b l) (b0 : 0 ≤ b) (t : Int) (m : Nat) : VOk b (enterL l t m) := by
  unfold enterL
  refine VOk.same ?_ (fillG_same _ m)
  intro j z hz
  rcases Nat.lt_or_ge j l.length with q | q
  · rw [List.getElem?_append_left q] at hz; exact h j z hz
  · rw [List.getElem?_append_right q] at hz
    have e : j - l.length = 0 := by
      have := (List.getElem?_eq_some_iff.1 hz).1
      simp at this; omega
    rw [e] at hz
    injection hz with hz
    subst hz
    show 0 ≤ (lowG l l.length).getD 0 ∧ (lowG l l.length).getD 0 ≤ b
    cases hl : lowG l l.length with
    | none => exact ⟨Int.le_refl _, b0⟩
    | some n => exact lowG_ok h _ n hl
theorem VOk.leave {b : Int} (h : VOk b l) (i m : Nat) : VOk b (leaveL l i m) := by
  unfold leaveL
  refine VOk.same ?_ (fillG_same _ m)
  intro j z hz
  obtain ⟨k, hz, -⟩ := erase_at hz
  exact h k z hz
end
/-- those that sleep wake, one behind the other -/
theorem wakes_of {nc : Nat} {b : Int} : ∀ (ids : List Nat) (l : List Tk) (M : Nat → Option Bool) (c : Nat → Value), Full nc l → LM l M → VOk b l → ids.Pairwise (· ≠ ·) → (∀ p, p ∈ ids → p ≤ 16 ∧ M p = some false) →
    ∃ l' c', Wakes nc l c (ids.map fun (p : Nat) => (p : Int)) l' c' ∧ Full nc l' ∧ LM l' (fun p => if p ∈ ids then some true else M p) ∧ VOk b l' ∧ l'.length = l.length ∧ (∀ j, (∀ p, p ∈ ids → j ≠ 8 + p * 38 + 37) → c' j = c j) ∧ ∀ p, p ∈ ids → c' (8 + p * 38 + 37) = .bool false
  | [], l, M, c, hf, hm, hv, _, _ => ⟨l, c, .nil l c, hf, by simpa using hm, hv, rfl, fun _ _ => rfl, fun p hp => by cases hp⟩
  | p :: ids, l, M, c, hf, hm, hv, hn, hp => by
    obtain ⟨hn1, hn2⟩ := List.pairwise_cons.1 hn
    obtain ⟨p16, hp0⟩ := hp p List.mem_cons_self
    obtain ⟨i, x, hi, hx, ht, hr⟩ := hm.yes hp0
    obtain ⟨f1, m1⟩ := wake_full hf.toPre hm hi hx (wokeV l x)
    have v1 : VOk b (fillG (l.set i { x with v := wokeV l x, rd := true, cpu := -1 }) nc) := (hv.put hx (y := { x with v := wokeV l x, rd := true, cpu := -1 }) (wokeV_ok hv hx).1 (wokeV_ok hv hx).2).same (fillG_same _ nc)
    obtain ⟨l', c', hw, f2, m2, v2, hl2, hc2, hd2⟩ := wakes_of ids _ _ (upV c (8 + p * 38 + 37) (.bool false)) f1 m1 v1 hn2 (fun q hq => ⟨(hp q (List.mem_cons_of_mem _ hq)).1, by rw [fup_off _ _ (fun e => hn1 q hq e.symm)]; exact (hp q (List.mem_cons_of_mem _ hq)).2⟩)
    refine ⟨l', c', .cons p16 hi hx hr hw, f2, ?_, v2, by rw [hl2, fillG_len]; simp, fun j hj => ?_, fun q hq => ?_⟩
    · have e : (fun q => if q ∈ ids then some true else fup M p (some true) q) = fun q => if q ∈ p :: ids then some true else M q := by
        funext q
        by_cases h1 : q ∈ ids
        · simp [h1]
        · by_cases h2 : q = p
          · subst h2; simp [fup_same]
          · simp [h1, h2, fup_off]
      rw [e] at m2
      exact m2
    · rw [hc2 j (fun q hq => hj q (List.mem_cons_of_mem _ hq))]
      exact if_neg (hj p List.mem_cons_self)
    · rcases List.mem_cons.1 hq with rfl | hq
      · by_cases h1 : q ∈ ids
        · exact hd2 q h1
        · rw [hc2 _ (fun q' hq' e => h1 (by have : q = q' := by omega
                                            rw [this]; exact hq'))]
          exact if_pos rfl
      · exact hd2 q hq
/-- how many tasks are ready, by their numbers -/
theorem LM.count {nc n : Nat} {l : List Tk} {M : Nat → Option Bool} (h : Pre nc l) (hm : LM l M) (hb : ∀ p, M p ≠ none → p < n) : l.countP (·.rd) = cntB (fun p => M p == some true) n := by
  rw [← cnt_keys (P := fun x : Tk => x.rd) (key := fun x => x.t) (n := n) l (fun i j x y hi hj _ _ e => h.id i j x y hi hj e) (fun x hx hr => ?_)]
  · refine cntB_congr fun k _ => ?_
    cases hk : M k with
    | none =>
      have : (l.any fun x => x.rd && decide (x.t = (k : Int))) = false := by
        rw [List.any_eq_false]
        intro x hx
        obtain ⟨i, hi, e⟩ := List.mem_iff_getElem.1 hx
        obtain ⟨p, h1, h2⟩ := hm.of i x (by rw [List.getElem?_eq_getElem hi, e])
        simp only [Bool.and_eq_true, decide_eq_true_eq, not_and]
        intro _ e2
        have : p = k := by omega
        rw [this, hk] at h2
        cases h2
      rw [this]
      rfl
    | some r =>
      obtain ⟨i, x, hx, h1, h2⟩ := hm.has k r hk
      cases r
      · have : (l.any fun x => x.rd && decide (x.t = (k : Int))) = false := by
          rw [List.any_eq_false]
          intro y hy
          obtain ⟨j, hj, e⟩ := List.mem_iff_getElem.1 hy
          have hy' : l[j]? = some y := by rw [List.getElem?_eq_getElem hj, e]
          simp only [Bool.and_eq_true, decide_eq_true_eq, not_and]
          intro hr e2
          have := h.id j i y x hy' hx (by omega)
          subst this
          rw [hx] at hy'
          injection hy' with hy'
          subst hy'
          rw [h2] at hr
          cases hr
        rw [this]
        rfl
      · have : (l.any fun x => x.rd && decide (x.t = (k : Int))) = true := by
          rw [List.any_eq_true]
          exact ⟨x, List.mem_of_getElem? hx, by simp [h1, h2]⟩
        rw [this]
        rfl
  · obtain ⟨i, hi, e⟩ := List.mem_iff_getElem.1 hx
    obtain ⟨p, h1, h2⟩ := hm.of i x (by rw [List.getElem?_eq_getElem hi, e])
    have := hb p (by rw [h2]; simp)
    omega
end Go.Proofs.YtafflkemnniegaaGreatDoor
namespace Go.Proofs.YtafflkemnniegaaGreatDoor
set_option linter.unusedVariables false
set_option linter.unusedSimpArgs false
/-- timers in order, each of a process of its own -/
def Srt (l : List (Int × Int)) : Prop := l.Pairwise fun a b => a.1 ≤ b.1 ∧ a.2 ≠ b.2
theorem insT_nil (t : Int × Int) : insT [] t = [t] := rfl
theorem insT_cons (a t : Int × Int) (l : List (Int × Int)) : insT (a :: l) t = if t.1 < a.1 ∨ (a.1 = t.1 ∧ t.2 < a.2) then t :: a :: l else a :: insT l t := by
  unfold insT
  rw [posT]
  split
  · rfl
  · rfl
theorem insT_mem {t x : Int × Int} : ∀ {l : List (Int × Int)}, x ∈ insT l t ↔ x = t ∨ x ∈ l
  | [] => by rw [insT_nil]; simp
  | a :: l => by
    rw [insT_cons]
    split
    · simp
    · rw [List.mem_cons, insT_mem (l := l), List.mem_cons]
      constructor
      · rintro (h | h | h)
        · exact .inr (.inl h)
        · exact .inl h
        · exact .inr (.inr h)
      · rintro (h | h | h)
        · exact .inr (.inl h)
        · exact .inl h
        · exact .inr (.inr h)
theorem insT_len (t : Int × Int) : ∀ (l : List (Int × Int)), (insT l t).length = l.length + 1
  | [] => rfl
  | a :: l => by
    rw [insT_cons]
    split
    · rfl
    · rw [List.length_cons, insT_len t l, List.length_cons]
theorem insT_srt {t : Int × Int} : ∀ {l : List (Int × Int)}, Srt l → (∀ x, x ∈ l → x.2 ≠ t.2) → Srt (insT l t)
  | [], _, _ => by rw [insT_nil]; exact List.pairwise_singleton _ _
  | a :: l, h, hn => by
    obtain ⟨h1, h2⟩ := List.pairwise_cons.1 h
    rw [insT_cons]
    split
    · rename_i hc
      refine List.pairwise_cons.2 ⟨fun x hx => ?_, h⟩
      rcases List.mem_cons.1 hx with rfl | hx
      · exact ⟨by omega, fun e => hn x List.mem_cons_self e.symm⟩
      · have := h1 x hx
        exact ⟨by omega, fun e => hn x (List.mem_cons_of_mem _ hx) e.symm⟩
    · rename_i hc
      refine List.pairwise_cons.2 ⟨fun x hx => ?_, insT_srt h2 (fun x hx => hn x (List.mem_cons_of_mem _ hx))⟩
      rcases insT_mem.1 hx with rfl | hx
      · exact ⟨by omega, hn a List.mem_cons_self⟩
      · exact h1 x hx
theorem due_mem {x : Int} : ∀ {l : List (Int × Int)}, Srt l → ∀ a, (a ∈ l.take (dueN x l) ↔ a ∈ l ∧ a.1 ≤ x) ∧ (a ∈ l.drop (dueN x l) ↔ a ∈ l ∧ x < a.1)
  | [], _, a => by simp
  | b :: l, h, a => by
    obtain ⟨h1, h2⟩ := List.pairwise_cons.1 h
    obtain ⟨i1, i2⟩ := due_mem (x := x) h2 a
    unfold dueN
    by_cases hb : b.1 ≤ x
    · rw [if_pos hb, List.take_succ_cons, List.drop_succ_cons, List.mem_cons, i1, i2, List.mem_cons]
      refine ⟨⟨?_, ?_⟩, ⟨?_, ?_⟩⟩
      · rintro (rfl | ⟨q1, q2⟩)
        · exact ⟨.inl rfl, hb⟩
        · exact ⟨.inr q1, q2⟩
      · rintro ⟨rfl | q1, q2⟩
        · exact .inl rfl
        · exact .inr ⟨q1, q2⟩
      · rintro ⟨q1, q2⟩; exact ⟨.inr q1, q2⟩
      · rintro ⟨rfl | q1, q2⟩
        · omega
        · exact ⟨q1, q2⟩
    · rw [if_neg hb, List.take_zero, List.drop_zero]
      have key : ∀ c, c ∈ b :: l → x < c.1 := fun c hc => by
        rcases List.mem_cons.1 hc with rfl | hc
        · omega
        · have := h1 c hc; omega
      refine ⟨⟨(fun q => by cases q), fun ⟨q1, q2⟩ => ?_⟩, ⟨fun q => ⟨q, key a q⟩, fun q => q.1⟩⟩
      have := key a q1
      omega
/-- the timers are those of who sleeps: U tells of each that lives till when it sleeps -/
structure WL (l : List (Int × Int)) (U : Nat → Option Nat) (now : Nat) : Prop where
  srt : Srt l
  mem : ∀ a, a ∈ l ↔ ∃ p n : Nat, a = ((n : Int), (p : Int)) ∧ U p = some n ∧ now < n
/-- who is ready -/
def rdy (U : Nat → Option Nat) (now : Nat) : Nat → Option Bool := fun p => (U p).map fun n => decide (n ≤ now)
theorem rdy_put (U : Nat → Option Nat) (now p n : Nat) : rdy (fup U p (some n)) now = fup (rdy U now) p (some (decide (n ≤ now))) := by
  funext q
  unfold rdy fup
  split <;> rfl
theorem rdy_del (U : Nat → Option Nat) (now p : Nat) : rdy (fup U p none) now = fup (rdy U now) p none := by
  funext q
  unfold rdy fup
  split <;> rfl
section
variable {l : List (Int × Int)} {U : Nat → Option Nat} {now p n : Nat}
theorem WL.at (h : WL l U now) {k : Nat} {t : Int × Int} (hk : l[k]? = some t) : ∃ p n : Nat, t = ((n : Int), (p : Int)) ∧ U p = some n ∧ now < n := (h.mem t).1 (List.mem_of_getElem? hk)
theorem WL.awake (h : WL l U now) (hp : U p = some n) (hn : n ≤ now) {k : Nat} {t : Int × Int} (hk : l[k]? = some t) : t.2 ≠ (p : Int) := by
  obtain ⟨q, m, rfl, h1, h2⟩ := h.at hk
  intro e
  have : q = p := by have e : (q : Int) = p := e; omega
  rw [this, hp] at h1
  injection h1 with h1
  omega
/-- one falls asleep -/
theorem WL.sleep (h : WL l U now) (hp : U p = some n) (hn : n ≤ now) {m : Nat} (hm : now < m) : WL (insT l ((m : Int), (p : Int))) (fup U p (some m)) now := by
  have hne : ∀ x, x ∈ l → x.2 ≠ (p : Int) := fun x hx => by
    obtain ⟨k, hk, e⟩ := List.mem_iff_getElem.1 hx
    exact h.awake hp hn (k := k) (by rw [List.getElem?_eq_getElem hk, e])
  refine ⟨insT_srt h.srt hne, fun a => ?_⟩
  rw [insT_mem, h.mem a]
  constructor
  · rintro (rfl | ⟨q, j, rfl, h1, h2⟩)
    · exact ⟨p, m, rfl, fup_same _ _ _, hm⟩
    · have : q ≠ p := fun e => by rw [e, hp] at h1; injection h1 with h1; omega
      exact ⟨q, j, rfl, by rw [fup_off _ _ this]; exact h1, h2⟩
  · rintro ⟨q, j, rfl, h1, h2⟩
    by_cases e : q = p
    · subst e
      rw [fup_same] at h1
      injection h1 with h1
      subst h1
      exact .inl rfl
    · rw [fup_off _ _ e] at h1
      exact .inr ⟨q, j, rfl, h1, h2⟩
/-- one that is awake, or is not there, is told of anew -/
theorem WL.other (h : WL l U now) (hp : ∀ n, U p = some n → n ≤ now) {o : Option Nat} (ho : ∀ n, o = some n → n ≤ now) : WL l (fup U p o) now := by
  refine ⟨h.srt, fun a => ?_⟩
  rw [h.mem a]
  constructor
  · rintro ⟨q, j, rfl, h1, h2⟩
    have : q ≠ p := fun e => by rw [e] at h1; have := hp j h1; omega
    exact ⟨q, j, rfl, by rw [fup_off _ _ this]; exact h1, h2⟩
  · rintro ⟨q, j, rfl, h1, h2⟩
    by_cases e : q = p
    · subst e
      rw [fup_same] at h1
      have := ho j h1
      omega
    · rw [fup_off _ _ e] at h1
      exact ⟨q, j, rfl, h1, h2⟩
theorem WL.tick (h : WL l U now) : WL (l.drop (dueN ((now : Int) + 1) l)) U (now + 1) := by
  refine ⟨h.srt.sublist (List.drop_sublist _ _), fun a => ?_⟩
  rw [(due_mem h.srt a).2, h.mem a]
  constructor
  · rintro ⟨⟨q, j, rfl, h1, h2⟩, h3⟩
    exact ⟨q, j, rfl, h1, by have h3 : (now : Int) + 1 < j := h3; omega⟩
  · rintro ⟨q, j, rfl, h1, h2⟩
    exact ⟨⟨q, j, rfl, h1, by omega⟩, by show (now : Int) + 1 < j; omega⟩
theorem WL.due (h : WL l U now) : ∃ ids : List Nat, dueI ((now : Int) + 1) l = ids.map (fun (p : Nat) => (p : Int)) ∧ ids.Pairwise (· ≠ ·) ∧ ∀ p, p ∈ ids ↔ U p = some (now + 1) := by
  refine ⟨(l.take (dueN ((now : Int) + 1) l)).map fun a => a.2.toNat, ?_, ?_, fun p => ?_⟩
  · unfold dueI
    rw [List.map_map]
    refine List.map_congr_left fun a ha => ?_
    obtain ⟨q, j, rfl, -, -⟩ := (h.mem a).1 (List.mem_of_mem_take ha)
    rfl
  · rw [List.pairwise_map]
    have hs : Srt (l.take (dueN ((now : Int) + 1) l)) := h.srt.sublist (List.take_sublist _ _)
    refine List.Pairwise.imp_of_mem (fun {a b} ha hb hab e => ?_) hs
    obtain ⟨q, j, rfl, -, -⟩ := (h.mem a).1 (List.mem_of_mem_take ha)
    obtain ⟨q', j', rfl, -, -⟩ := (h.mem b).1 (List.mem_of_mem_take hb)
    have e : q = q' := e
    exact hab.2 (by show (q : Int) = q'; omega)
  · rw [List.mem_map]
    constructor
    · rintro ⟨a, ha, rfl⟩
      obtain ⟨h1, h2⟩ := ((due_mem h.srt a).1).1 ha
      obtain ⟨q, j, rfl, h3, h4⟩ := (h.mem a).1 h1
      have h2 : (j : Int) ≤ (now : Int) + 1 := h2
      have : j = now + 1 := by omega
      subst this
      exact h3
    · intro hp
      exact ⟨(((now + 1 : Nat) : Int), (p : Int)), ((due_mem h.srt _).1).2 ⟨(h.mem _).2 ⟨p, now + 1, rfl, hp, by omega⟩, by show ((now + 1 : Nat) : Int) ≤ (now : Int) + 1; omega⟩, rfl⟩
theorem rdy_tick {ids : List Nat} (hi : ∀ p, p ∈ ids ↔ U p = some (now + 1)) : (fun p => if p ∈ ids then some true else rdy U now p) = rdy U (now + 1) := by
  funext p
  unfold rdy
  by_cases h : p ∈ ids
  · rw [if_pos h, (hi p).1 h]
    simp
  · rw [if_neg h]
    cases hp : U p with
    | none => rfl
    | some n =>
      have : n ≠ now + 1 := fun e => h ((hi p).2 (by rw [hp, e]))
      show some (decide (n ≤ now)) = some (decide (n ≤ now + 1))
      congr 1
      by_cases q : n ≤ now
      · simp [q]; omega
      · simp [q]; omega
end
/-- how many live -/
def cntU (U : Nat → Option Nat) : Nat := cntB (fun p => (U p).isSome) 17
theorem cntU_put {U : Nat → Option Nat} {p n : Nat} (hp : U p = none) (h : p < 17) : cntU (fup U p (some n)) = cntU U + 1 := by
  unfold cntU
  exact cntB_one (a := p) (fun k hk => by rw [fup_off _ _ hk]) (by rw [fup_same]; rfl) (by rw [hp]; rfl) h
theorem cntU_del {U : Nat → Option Nat} {p n : Nat} (hp : U p = some n) (h : p < 17) : cntU U = cntU (fup U p none) + 1 := by
  unfold cntU
  exact cntB_one (a := p) (fun k hk => by rw [fup_off _ _ hk]) (by rw [hp]; rfl) (by rw [fup_same]; rfl) h
theorem cntU_same {U : Nat → Option Nat} {p n m : Nat} (hp : U p = some n) : cntU (fup U p (some m)) = cntU U := by
  unfold cntU
  refine cntB_congr fun k _ => ?_
  by_cases e : k = p
  · subst e; rw [fup_same, hp]; rfl
  · rw [fup_off _ _ e]
theorem cntU_two {U : Nat → Option Nat} {p q n m : Nat} (hp : U p = some n) (hq : U q = some m) (hne : p ≠ q) (h : p < 17) (h2 : q < 17) : 2 ≤ cntU U := by
  have h3 := cntU_del hp h
  have h4 := cntU_del (U := fup U p none) (p := q) (n := m) (by rw [fup_off _ _ (Ne.symm hne)]; exact hq) h2
  omega
/-- numbers below which few live are few -/
theorem cntU_top {U : Nat → Option Nat} {top : Nat} (h : ∀ p, 1 ≤ p → p < top → U p = none → 2 ≤ p ∧ p ≤ 6) (ht : top ≤ 17) : top ≤ cntU U + 6 := by
  have key : ∀ n, n ≤ 17 → n ≤ top → n ≤ cntB (fun p => (U p).isSome) n + min 6 (max 1 (n - 1)) := by
    intro n
    induction n with
    | zero => intro _ _; exact Nat.zero_le _
    | succ n ih =>
      intro h1 h2
      have := ih (by omega) (by omega)
      unfold cntB
      cases hn : U n with
      | none =>
        simp only [Option.isSome_none, Bool.false_eq_true, if_false, Nat.add_zero]
        by_cases h0 : n = 0
        · subst h0; simp
        · have := h n (by omega) (by omega) hn
          omega
      | some m =>
        simp only [Option.isSome_some, if_true]
        omega
  have h1 := key top ht (Nat.le_refl _)
  have h2 : cntB (fun p => (U p).isSome) top ≤ cntU U := by
    unfold cntU
    clear h1 key h
    have : ∀ d, cntB (fun p => (U p).isSome) top ≤ cntB (fun p => (U p).isSome) (top + d) := by
      intro d
      induction d with
      | zero => exact Nat.le_refl _
      | succ d ih => rw [← Nat.add_assoc]; exact Nat.le_trans ih (by rw [cntB]; exact Nat.le_add_right _ _)
    have := this (17 - top)
    rw [show top + (17 - top) = 17 by omega] at this
    exact this
  omega
theorem cntB_range (P : Nat → Bool) : ∀ n, cntB P n = (List.range n).countP P
  | 0 => rfl
  | n + 1 => by
    rw [List.range_succ, List.countP_append, ← cntB_range P n, cntB]
    cases h : P n <;> simp [h]
theorem least_of {P : Nat → Prop} : ∀ n, (∃ x, 1 ≤ x ∧ x ≤ n ∧ P x) → ∃ x, 1 ≤ x ∧ x ≤ n ∧ P x ∧ ∀ j, 1 ≤ j → j < x → ¬ P j
  | 0, ⟨x, h1, h2, _⟩ => by omega
  | n + 1, ⟨x, h1, h2, h3⟩ => by
    by_cases h : ∃ y, 1 ≤ y ∧ y ≤ n ∧ P y
    · obtain ⟨y, q1, q2, q3, q4⟩ := least_of n h
      exact ⟨y, q1, by omega, q3, q4⟩
    · have : x = n + 1 := by
        rcases Nat.lt_or_ge n x with q | q
        · omega
        · exact absurd ⟨x, h1, q, h3⟩ h
      exact ⟨x, h1, h2, h3, fun j j1 j2 hj => h ⟨j, j1, by omega, hj⟩⟩
/-- where few live, one of the spaces is free -/
theorem space_free {U : Nat → Option Nat} {sp : Nat → Nat} {S : Int → Option Nat} (hS : ∀ (x : Nat) b, 1 ≤ x → S x = some b → ∃ p n : Nat, U p = some n ∧ p < 17 ∧ x = sp p) (hinj : ∀ p q n m : Nat, U p = some n → U q = some m → sp p = sp q → p = q) (hsp : ∀ p n, U p = some n → 1 ≤ sp p ∧ sp p ≤ 16) (hc : cntU U ≤ 15) :
    ∃ x : Nat, 1 ≤ x ∧ x ≤ 16 ∧ S x = none ∧ ∀ j : Nat, 1 ≤ j → j < x → ∃ b, S j = some b := by
  have hex : ∃ x, 1 ≤ x ∧ x ≤ 16 ∧ S (x : Nat) = none := by
    apply Classical.byContradiction
    intro hno
    have hall : ∀ x : Nat, 1 ≤ x → x ≤ 16 → ∃ b, S x = some b := fun x h1 h2 => by
      cases h : S x with
      | none => exact absurd ⟨x, h1, h2, h⟩ hno
      | some b => exact ⟨b, rfl⟩
    have hk := cnt_keys (P := fun p => (U p).isSome) (key := fun p => (sp p : Int)) (n := 17) (List.range 17) (fun i j x y hi hj hx hy e => by
      obtain ⟨n, hn⟩ := Option.isSome_iff_exists.1 hx
      obtain ⟨m, hm⟩ := Option.isSome_iff_exists.1 hy
      have := hinj x y n m hn hm (by have e : (sp x : Int) = sp y := e; omega)
      rw [List.getElem?_range (by have := (List.getElem?_eq_some_iff.1 hi).1; simpa using this)] at hi
      rw [List.getElem?_range (by have := (List.getElem?_eq_some_iff.1 hj).1; simpa using this)] at hj
      injection hi with hi
      injection hj with hj
      omega) (fun x _ hx => by
      obtain ⟨n, hn⟩ := Option.isSome_iff_exists.1 hx
      have := hsp x n hn
      exact ⟨by show (0 : Int) ≤ sp x; omega, by show (sp x : Int) < (17 : Nat); omega⟩)
    rw [← cntB_range] at hk
    have h16 : 16 ≤ cntB (fun k => (List.range 17).any fun x => (U x).isSome && decide ((sp x : Int) = k)) 17 := by
      have h1 := cntB_one (P := fun k => true) (Q := fun k => decide (k ≠ 0)) (a := 0) (n := 17) (fun k hk => by simp [hk]) rfl rfl (by decide)
      rw [cntB_all (fun _ _ => rfl)] at h1
      have h2 : cntB (fun k => decide (k ≠ 0)) 17 ≤ cntB (fun k => (List.range 17).any fun x => (U x).isSome && decide ((sp x : Int) = k)) 17 := cntB_leq fun k hk hk0 => by
        have hk0 : k ≠ 0 := by simpa using hk0
        obtain ⟨b, hb⟩ := hall k (by omega) (by omega)
        obtain ⟨p, n, hp, hp17, he⟩ := hS k _ (by omega) hb
        rw [List.any_eq_true]
        exact ⟨p, List.mem_range.2 hp17, by rw [hp]; simp [he]⟩
      omega
    unfold cntU at hc
    omega
  obtain ⟨x, h1, h2, h3, h4⟩ := least_of (P := fun x => S (x : Nat) = none) 16 hex
  exact ⟨x, h1, h2, h3, fun j j1 j2 => by
    cases h : S j with
    | none => exact absurd h (h4 j j1 j2)
    | some b => exact ⟨b, rfl⟩⟩
end Go.Proofs.YtafflkemnniegaaGreatDoor
