/- The laws PathJoined and PathDots in plain lists. -/
import Derived.Test.YtjkephmfpoekgaaDoorPathUp
namespace Go.Proofs.YtjkephmfpoekgaaDoor.PathLaw
open Go.Proofs.YtjkephmfpoekgaaDoor.CredLaw
set_option linter.unusedVariables false
set_option linter.unusedSimpArgs false
theorem wayT_run {F : Fs} {c : C} {f : Bool} {cwd : List Int} {s : List UInt8} {g : Bool} {l : List ByteArray} (h1 : chkC c = 0) (h2 : cwd ≠ []) (hs : splitT s = (g, l, 0)) : wayT F c f cwd s = if (walkT F c f 8 (rooted g cwd) l).1 ≠ 0 then ((walkT F c f 8 (rooted g cwd) l).1, []) else (0, (walkT F c f 8 (rooted g cwd) l).2.1) := by
  have h : startT c cwd s = (0, rooted g cwd, l) := by rw [startT, if_neg (fun h => h h1), if_neg h2, hs, if_neg (fun h => h rfl)]
  unfold wayT
  rw [h]
  dsimp only
  rw [if_neg (fun h => h rfl)]
theorem wayT_no {F : Fs} {c : C} {f : Bool} {cwd : List Int} {s : List UInt8} {e : Int} (h1 : chkC c = 0) (h2 : cwd ≠ []) (hs : (splitT s).2.2 = e) (he : e ≠ 0) : wayT F c f cwd s = (e, []) := by
  have h : startT c cwd s = (e, [], []) := by rw [startT, if_neg (fun h => h h1), if_neg h2, hs, if_pos he]
  unfold wayT
  rw [h]
  dsimp only
  rw [if_pos he]
theorem wayT_err {F : Fs} {c : C} {f : Bool} {cwd : List Int} {s : List UInt8} (h : (wayT F c f cwd s).1 ≠ 0) : (wayT F c f cwd s).2 = [] := by
  unfold wayT at h ⊢
  by_cases h1 : (startT c cwd s).1 ≠ 0
  · rw [if_pos h1]
  · rw [if_neg h1] at h ⊢
    by_cases h2 : (walkT F c f 8 (startT c cwd s).2.1 (startT c cwd s).2.2).1 ≠ 0
    · rw [if_pos h2]
    · rw [if_neg h2] at h; exact absurd rfl h
theorem stepT_ne {F : Fs} {c : C} {f : Bool} {k : Nat} {st : List Int} {p : ByteArray} {l : List ByteArray} {k' : Nat} {st' : List Int} {more : List ByteArray} (h0 : st ≠ []) (h : stepT F c f k st p l = .on k' st' more) : st' ≠ [] := by
  unfold stepT at h
  split at h
  · cases h
  · split at h
    · cases h; exact h0
    · split at h
      · cases h
        unfold upT
        split
        · intro e
          have := congrArg List.length e
          simp at this
          omega
        · exact h0
      · split at h
        · cases h
        · split at h
          · cases h
          · split at h
            · cases k with
              | zero => cases h
              | succ k =>
                dsimp only at h
                split at h
                · cases h
                · split at h
                  · cases h
                  · cases h
                    cases st with
                    | nil => exact absurd rfl h0
                    | cons x y => unfold rooted; split <;> simp
            · split at h
              · cases h; simp
              · cases h
theorem walkT_ne (F : Fs) (c : C) (f : Bool) (k : Nat) (st : List Int) (l : List ByteArray) (h0 : st ≠ []) : (walkT F c f k st l).2.1 ≠ [] ∧ (walkT F c f k st l).2.2 ≤ k := by
  match l with
  | [] => rw [walkT_nil]; exact ⟨h0, Nat.le_refl _⟩
  | p :: l =>
    rw [walkT_cons]
    cases h : stepT F c f k st p l with
    | err e n =>
      refine ⟨h0, ?_⟩
      show n ≤ k
      unfold stepT at h
      split at h
      · cases h; exact Nat.le_refl _
      · split at h
        · cases h
        · split at h
          · cases h
          · split at h
            · injection h with _ h; omega
            · split at h
              · injection h with _ h; omega
              · split at h
                · cases k with
                  | zero => injection h with _ h; omega
                  | succ k =>
                    dsimp only at h
                    split at h
                    · injection h with _ h; omega
                    · split at h
                      · injection h with _ h; omega
                      · cases h
                · split at h
                  · cases h
                  · injection h with _ h; omega
    | on n st' more =>
      dsimp only
      have hd := stepT_less h
      obtain ⟨h1, h2⟩ := walkT_ne F c f n st' (more ++ l) (stepT_ne h0 h)
      exact ⟨h1, by rcases hd with ⟨rfl, _⟩ | ⟨hk, _⟩ <;> omega⟩
  termination_by (k, l.length)
  decreasing_by
    rcases hd with ⟨rfl, rfl⟩ | ⟨hk, _⟩
    · exact Prod.Lex.right _ (by simp)
    · exact Prod.Lex.left _ _ (by omega)
theorem splitT_ok {s : List UInt8} (h : (splitT s).2.2 = 0) : s.length ≤ 64 ∧ s ≠ [] ∧ (parts s).all (fun p => decide (p.length ≤ 14)) = true ∧ splitT s = (s.head? == some 47, full (parts s), 0) := by
  unfold splitT at h ⊢
  split at h
  · cases h
  · rename_i h1
    split at h
    · cases h
    · rename_i h2
      split at h
      · rename_i h3
        exact ⟨by omega, h2, h3, by rw [if_neg h1, if_neg h2, if_pos h3]⟩
      · cases h
theorem splitT_is {s : List UInt8} (h1 : s.length ≤ 64) (h2 : s ≠ []) (h3 : (parts s).all (fun p => decide (p.length ≤ 14)) = true) : splitT s = (s.head? == some 47, full (parts s), 0) := by
  rw [splitT, if_neg (by omega), if_neg h2, if_pos h3]
theorem joined_law {F : Fs} {c : C} {cwd L : List Int} {a b : List UInt8} (he : wayT F c true cwd a = (0, L)) (hb : b ≠ []) (hh : (b.head? == some 47) = false) (hlen : a.length + b.length + 1 ≤ 64) :
    ((wayT F c true L b).1 = (wayT F c true cwd (a ++ 47 :: b)).1 ∧ (wayT F c true L b).2 = (wayT F c true cwd (a ++ 47 :: b)).2) ∨ (wayT F c true cwd (a ++ 47 :: b)).1 = 14 ∨ (wayT F c true L b).1 = 14 := by
  obtain ⟨h1, h2, h3, h4, h5⟩ := wayT_ok (by rw [he])
  obtain ⟨-, ha, pa, sa⟩ := splitT_ok h3
  rw [he] at h5
  rw [sa] at h4 h5
  dsimp only at h4 h5
  have hr : rooted (a.head? == some 47) cwd ≠ [] := by
    cases cwd with
    | nil => exact absurd rfl h2
    | cons x y => unfold rooted; split <;> simp
  obtain ⟨hL, hk⟩ := walkT_ne F c true 8 (rooted (a.head? == some 47) cwd) (full (parts a)) hr
  rw [← h5] at hL
  have hab : a ++ 47 :: b ≠ [] := by simp
  have hhd : (a ++ 47 :: b).head? = a.head? := by cases a with
    | nil => exact absurd rfl ha
    | cons x y => rfl
  cases pb : (parts b).all (fun p => decide (p.length ≤ 14))
  · left
    have e1 : (splitT b).2.2 = 3 := by rw [splitT, if_neg (by omega), if_neg hb, pb, if_neg (by decide)]
    have e2 : (splitT (a ++ 47 :: b)).2.2 = 3 := by rw [splitT, if_neg (by simp; omega), if_neg hab, parts_append, List.all_append, pa, pb, if_neg (by decide)]
    rw [wayT_no h1 hL e1 (by decide), wayT_no h1 h2 e2 (by decide)]
    exact ⟨rfl, rfl⟩
  · have sb := splitT_is (by omega) hb pb
    have sab := splitT_is (s := a ++ 47 :: b) (by simp; omega) hab (by rw [parts_append, List.all_append, pa, pb]; rfl)
    rw [parts_append, full_append, hhd] at sab
    rw [hh] at sb
    rw [wayT_run h1 hL sb, wayT_run h1 h2 sab, walkT_append, if_pos h4, ← h5]
    show _ ∨ _
    have hk2 := walkT_links F c true (8 - (walkT F c true 8 (rooted (a.head? == some 47) cwd) (full (parts a))).2.2) (walkT F c true 8 (rooted (a.head? == some 47) cwd) (full (parts a))).2.2 L (full (parts b))
    rw [show (walkT F c true 8 (rooted (a.head? == some 47) cwd) (full (parts a))).2.2 + (8 - (walkT F c true 8 (rooted (a.head? == some 47) cwd) (full (parts a))).2.2) = 8 by omega] at hk2
    show ((if (walkT F c true 8 L (full (parts b))).1 ≠ 0 then ((walkT F c true 8 L (full (parts b))).1, []) else (0, (walkT F c true 8 L (full (parts b))).2.1)).1 = _ ∧ _) ∨ _
    generalize (walkT F c true 8 (rooted (a.head? == some 47) cwd) (full (parts a))).2.2 = k1 at *
    have er : rooted false L = L := rfl
    rw [er]
    rcases hk2 with hk2 | ⟨hk2, hk3⟩
    · right; left
      rw [if_pos (by rw [hk2]; decide)]
      exact hk2
    · left
      rw [hk2, hk3]
      exact ⟨rfl, rfl⟩
/-! ### dots -/
theorem rep_head : ∀ {s : List UInt8}, s ≠ [] → ((rep s).head? == some 47) = (s.head? == some 47) ∧ rep s ≠ []
  | [], h => absurd rfl h
  | c :: r, _ => by
    by_cases h : c = 47
    · subst h
      rw [rep, if_pos rfl]
      exact ⟨rfl, by simp [new4]⟩
    · rw [rep, if_neg h]
      exact ⟨rfl, by simp⟩
theorem inter_all : ∀ {ps : List (List UInt8)}, ps.all (fun p => decide (p.length ≤ 14)) = true → (inter ps).all (fun p => decide (p.length ≤ 14)) = true
  | [], _ => rfl
  | [p], h => h
  | p :: q :: r, h => by
    simp only [List.all_cons, Bool.and_eq_true] at h
    have ih := inter_all (ps := q :: r) (by simp only [List.all_cons, Bool.and_eq_true]; exact h.2)
    simp only [inter, List.all_cons, Bool.and_eq_true]
    exact ⟨h.1, by decide, by decide, ih⟩
theorem dots_law {F : Fs} {c : C} {cwd L : List Int} {s : List UInt8} (he : wayT F c true cwd s = (0, L)) :
    (64 < (rep s).length ∧ (wayT F c true cwd (rep s)).1 = 2) ∨ ((rep s).length ≤ 64 ∧ (wayT F c true cwd (rep s) = (0, L) ∨ ((wayT F c true cwd (rep s)).1 ≠ 0 ∧ Lib.hasSuffix s [47] = true))) := by
  obtain ⟨h1, h2, h3, h4, h5⟩ := wayT_ok (by rw [he])
  obtain ⟨-, hs, pa, sa⟩ := splitT_ok h3
  rw [he] at h5
  rw [sa] at h4 h5
  dsimp only at h4 h5
  obtain ⟨hh, hne⟩ := rep_head hs
  by_cases hl : 64 < (rep s).length
  · left
    refine ⟨hl, ?_⟩
    rw [wayT_no h1 h2 (e := 2) (by rw [splitT, if_pos hl]) (by decide)]
  · right
    refine ⟨by omega, ?_⟩
    have sr := splitT_is (s := rep s) (by omega) hne (by rw [parts_rep]; exact inter_all pa)
    rw [parts_rep, hh] at sr
    rw [wayT_run h1 h2 sr]
    cases hf : Lib.hasSuffix s [47]
    · rcases walkT_ins F c 8 (rooted (s.head? == some 47) cwd) _ _ (ins_inter2 (parts s) (parts_last hs hf)) h4 with h | ⟨h, _⟩
      · left
        rw [h, if_neg (fun hh => hh h4), ← h5]
      · cases h
    · rcases walkT_ins F c 8 (rooted (s.head? == some 47) cwd) _ _ (ins_inter (parts s)) h4 with h | ⟨_, h⟩
      · left
        rw [h, if_neg (fun hh => hh h4), ← h5]
      · right
        rw [if_pos h]
        exact ⟨h, rfl⟩
end Go.Proofs.YtjkephmfpoekgaaDoor.PathLaw
