/- The law PathUp, plain and walked. -/
import Derived.Test.YtjkephmfpoekgaaDoorEnds
namespace Go.Proofs.YtjkephmfpoekgaaDoor.PathLaw
open Go.RowKit Go.Proofs.YtjkephmfpoekgaaDoor.CredLaw
set_option linter.unusedVariables false
set_option linter.unusedSimpArgs false
theorem wayT_ok {F : Fs} {c : C} {f : Bool} {cwd : List Int} {s : List UInt8} (h : (wayT F c f cwd s).1 = 0) : chkC c = 0 ∧ cwd ≠ [] ∧ (splitT s).2.2 = 0 ∧ (walkT F c f 8 (rooted (splitT s).1 cwd) (splitT s).2.1).1 = 0 ∧ (wayT F c f cwd s).2 = (walkT F c f 8 (rooted (splitT s).1 cwd) (splitT s).2.1).2.1 := by
  by_cases h1 : chkC c = 0
  · by_cases h2 : cwd = []
    · exfalso
      have : startT c cwd s = (4, [], []) := by rw [startT, if_neg (fun h => h h1), if_pos h2]
      unfold wayT at h
      rw [this] at h
      cases h
    · by_cases h3 : (splitT s).2.2 = 0
      · have hs : startT c cwd s = (0, rooted (splitT s).1 cwd, (splitT s).2.1) := by rw [startT, if_neg (fun h => h h1), if_neg h2, if_neg (fun h => h h3)]
        unfold wayT at h ⊢
        rw [hs] at h ⊢
        dsimp only at h ⊢
        rw [if_neg (fun h => h rfl)] at h ⊢
        by_cases h4 : (walkT F c f 8 (rooted (splitT s).1 cwd) (splitT s).2.1).1 = 0
        · rw [if_neg (fun h => h h4)]
          exact ⟨h1, h2, h3, h4, rfl⟩
        · rw [if_pos h4] at h
          exact absurd h h4
      · exfalso
        have : startT c cwd s = ((splitT s).2.2, [], []) := by rw [startT, if_neg (fun h => h h1), if_neg h2, if_pos h3]
        unfold wayT at h
        rw [this] at h
        dsimp only at h
        rw [if_pos h3] at h
        exact h3 h
  · exfalso
    have : startT c cwd s = (chkC c, [], []) := by rw [startT, if_pos h1]
    unfold wayT at h
    rw [this] at h
    dsimp only at h
    rw [if_pos h1] at h
    exact h1 h
theorem walk_one {F : Fs} {c : C} {f : Bool} {k : Nat} {st : List Int} {p : ByteArray} {l : List ByteArray} (h : (walkT F c f k st (p :: l)).1 = 0) : mayT F c (topT st) = 0 := by
  by_cases hm : mayT F c (topT st) = 0
  · exact hm
  · rw [walkT_cons, step_may hm] at h
    exact absurd h hm
theorem step_up {F : Fs} {c : C} {f : Bool} {k : Nat} {st : List Int} {l : List ByteArray} (h : mayT F c (topT st) = 0) : stepT F c f k st (mk [46, 46]) l = .on k (upT st) [] := by
  unfold stepT
  rw [if_neg (fun hh => hh h), if_neg (by decide), if_pos (by decide)]
theorem up_root {F : Fs} {c : C} {cwd : List Int} (h : (wayT F c true cwd [47, 46, 46]).1 = 0) : cwd ≠ [] ∧ (wayT F c true cwd [47, 46, 46]).2 = cwd.take 1 := by
  have hs : splitT [47, 46, 46] = (true, [mk [46, 46]], 0) := rfl
  obtain ⟨-, h2, -, h4, h5⟩ := wayT_ok h
  rw [hs] at h4 h5
  dsimp only at h4 h5
  refine ⟨h2, ?_⟩
  have hm := walk_one h4
  rw [h5, walkT_cons, step_up hm]
  dsimp only
  rw [List.nil_append, walkT_nil]
  show upT (rooted true cwd) = _
  unfold upT rooted
  cases cwd with
  | nil => exact absurd rfl h2
  | cons x y => simp
/-- a piece that is a name, at the end of its way: what it leads to -/
theorem step_name {F : Fs} {c : C} {k : Nat} {st : List Int} {p : ByteArray} (hd : isDot p = false) (hu : isUp p = false) (h : (walkT F c false k st [p]).1 = 0) : ∃ n, (walkT F c false k st [p]).2.1 = st ++ [n] ∧ (F.stat n).2 = 0 ∧ ((F.stat n).1.kind = 3 ∨ ∀ l, stepT F c false k st p l = .on k (st ++ [n]) []) := by
  have hm := walk_one h
  have key : ∀ l, stepT F c false k st p l = if (F.look (topT st) p).2 ≠ 0 then .err (F.look (topT st) p).2 k
      else if (F.stat (F.look (topT st) p).1).2 ≠ 0 then .err (F.stat (F.look (topT st) p).1).2 k
      else if isLink false (F.stat (F.look (topT st) p).1).1 l then stepT F c false k st p l
      else if inoOk (F.look (topT st) p).1 then .on k (st ++ [(F.look (topT st) p).1]) [] else .err 1 k := by
    intro l
    conv => lhs; unfold stepT
    rw [if_neg (fun hh => hh hm), hd, if_neg (by decide), hu, if_neg (by decide)]
    by_cases h1 : (F.look (topT st) p).2 ≠ 0
    · rw [if_pos h1, if_pos h1]
    · rw [if_neg h1, if_neg h1]
      by_cases h2 : (F.stat (F.look (topT st) p).1).2 ≠ 0
      · rw [if_pos h2, if_pos h2]
      · rw [if_neg h2, if_neg h2]
        by_cases h3 : isLink false (F.stat (F.look (topT st) p).1).1 l = true
        · rw [if_pos h3, if_pos h3]
          unfold stepT
          rw [if_neg (fun hh => hh hm), hd, if_neg (by decide), hu, if_neg (by decide), if_neg h1, if_neg h2, if_pos h3]
        · rw [if_neg h3, if_neg h3]
  have hl : isLink false (F.stat (F.look (topT st) p).1).1 [] = false := by unfold isLink; simp
  rw [walkT_cons, key [], hl] at h ⊢
  by_cases h1 : (F.look (topT st) p).2 ≠ 0
  · rw [if_pos h1] at h; exact absurd h h1
  · rw [if_neg h1] at h ⊢
    by_cases h2 : (F.stat (F.look (topT st) p).1).2 ≠ 0
    · rw [if_pos h2] at h; exact absurd h h2
    · rw [if_neg h2, if_neg (by decide)] at h ⊢
      by_cases h3 : inoOk (F.look (topT st) p).1 = true
      · rw [if_pos h3] at h ⊢
        dsimp only at h ⊢
        rw [List.nil_append, walkT_nil]
        refine ⟨_, rfl, by simpa using h2, ?_⟩
        by_cases h4 : (F.stat (F.look (topT st) p).1).1.kind = 3
        · exact .inl h4
        · refine .inr fun l => ?_
          have : isLink false (F.stat (F.look (topT st) p).1).1 l = false := by
            unfold isLink
            have : ((F.stat (F.look (topT st) p).1).1.kind == 3) = false := by simp [h4]
            rw [this]; rfl
          rw [key l, if_neg h1, if_neg h2, this, if_neg (by decide), if_pos h3]
      · rw [if_neg h3] at h; cases h
theorem up_back {F : Fs} {c : C} {cwd : List Int} {s : List UInt8} (h0 : s ≠ []) (h14 : s.length ≤ 14) (h47 : ∀ x ∈ s, x ≠ 47) (hd : s ≠ [46]) (hu : s ≠ [46, 46]) (he : (wayT F c false cwd s).1 = 0) (hf : (wayT F c false cwd (s ++ [47, 46, 46])).1 = 0) :
    ∃ n, (wayT F c false cwd s).2 = cwd ++ [n] ∧ (F.stat n).2 = 0 ∧ ((F.stat n).1.kind = 3 ∨ (wayT F c false cwd (s ++ [47, 46, 46])).2 = cwd) := by
  have hp : parts s = [s] := parts_one h47
  have hp2 : parts (s ++ [47, 46, 46]) = [s, [46, 46]] := by
    rw [show s ++ [47, 46, 46] = s ++ 47 :: [46, 46] from rfl, parts_append, hp]; rfl
  have hne : (!s.isEmpty) = true := by cases s with
    | nil => exact absurd rfl h0
    | cons x y => rfl
  have hh : (s.head? == some 47) = false := by cases s with
    | nil => rfl
    | cons x y => simpa using h47 x (List.mem_cons_self ..)
  have hh2 : ((s ++ [47, 46, 46]).head? == some 47) = false := by cases s with
    | nil => exact absurd rfl h0
    | cons x y => simpa using h47 x (List.mem_cons_self ..)
  have hs : splitT s = (false, [mk s], 0) := by
    rw [splitT, if_neg (by omega), if_neg h0, hp, hh, if_pos (by simp [h14])]
    simp [full, hne]
  have hs2 : splitT (s ++ [47, 46, 46]) = (false, [mk s, mk [46, 46]], 0) := by
    rw [splitT, if_neg (by simp; omega), if_neg (by simp), hp2, hh2, if_pos (by simp [h14])]
    simp [full, hne]
  obtain ⟨-, h2, -, h4, h5⟩ := wayT_ok he
  obtain ⟨-, -, -, h6, h7⟩ := wayT_ok hf
  rw [hs] at h4 h5
  rw [hs2] at h6 h7
  dsimp only [rooted] at h4 h5 h6 h7
  rw [if_neg (by decide)] at h4 h5 h6 h7
  have d1 : isDot (mk s) = false := by
    show (s == [46]) = false
    simpa using hd
  have d2 : isUp (mk s) = false := by
    show (s == [46, 46]) = false
    simpa using hu
  obtain ⟨n, e1, e2, e3⟩ := step_name d1 d2 h4
  refine ⟨n, h5.trans e1, e2, ?_⟩
  rcases e3 with e3 | e3
  · exact .inl e3
  · right
    rw [h7]
    rw [walkT_cons, e3] at h6 ⊢
    dsimp only at h6 ⊢
    rw [List.nil_append] at h6 ⊢
    have hm := walk_one h6
    rw [walkT_cons, step_up hm]
    dsimp only
    rw [List.nil_append, walkT_nil]
    show upT (cwd ++ [n]) = cwd
    unfold upT
    rw [if_pos (by have := List.length_pos_iff.2 h2; simp; omega)]
    simp
end Go.Proofs.YtjkephmfpoekgaaDoor.PathLaw
