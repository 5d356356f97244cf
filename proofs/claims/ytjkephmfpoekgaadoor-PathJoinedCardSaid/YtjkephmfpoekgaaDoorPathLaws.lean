/- Laws of ways, in plain lists. No program here. -/
import Derived.Test.YtjkephmfpoekgaaDoorPathPlain
namespace Go.Proofs.YtjkephmfpoekgaaDoor.PathLaw
open Go.Proofs.YtjkephmfpoekgaaDoor.CredLaw
set_option linter.unusedVariables false
set_option linter.unusedSimpArgs false
theorem walkT_nil (F : Fs) (c : C) (f : Bool) (k : Nat) (st : List Int) : walkT F c f k st [] = (0, st, k) := by rw [walkT]
/-- one piece -/
inductive Step
  | err (e : Int) (k : Nat)
  | on (k : Nat) (st : List Int) (more : List ByteArray)
def stepT (F : Fs) (c : C) (follow : Bool) (k : Nat) (st : List Int) (p : ByteArray) (l : List ByteArray) : Step :=
  if mayT F c (topT st) ≠ 0 then .err (mayT F c (topT st)) k
  else if isDot p then .on k st []
  else if isUp p then .on k (upT st) []
  else if (F.look (topT st) p).2 ≠ 0 then .err (F.look (topT st) p).2 k
  else if (F.stat (F.look (topT st) p).1).2 ≠ 0 then .err (F.stat (F.look (topT st) p).1).2 k
  else if isLink follow (F.stat (F.look (topT st) p).1).1 l then
    match k with
    | 0 => .err 14 0
    | k + 1 =>
      if (F.tells (F.look (topT st) p).1).2 ≠ 0 then .err (F.tells (F.look (topT st) p).1).2 k
      else if (splitT (F.tells (F.look (topT st) p).1).1.data.toList).2.2 ≠ 0 then .err (splitT (F.tells (F.look (topT st) p).1).1.data.toList).2.2 k
      else .on k (rooted (splitT (F.tells (F.look (topT st) p).1).1.data.toList).1 st) (splitT (F.tells (F.look (topT st) p).1).1.data.toList).2.1
  else if inoOk (F.look (topT st) p).1 then .on k (st ++ [(F.look (topT st) p).1]) []
  else .err 1 k
theorem walkT_cons (F : Fs) (c : C) (f : Bool) (k : Nat) (st : List Int) (p : ByteArray) (l : List ByteArray) : walkT F c f k st (p :: l) = match stepT F c f k st p l with
    | .err e k' => (e, st, k')
    | .on k' st' more => walkT F c f k' st' (more ++ l) := by
  conv => lhs; rw [walkT.eq_def]
  dsimp only
  unfold stepT
  by_cases h1 : mayT F c (topT st) ≠ 0
  · rw [if_pos h1, if_pos h1]
  · rw [if_neg h1, if_neg h1]
    by_cases h2 : isDot p = true
    · rw [if_pos h2, if_pos h2]; rfl
    · rw [if_neg h2, if_neg h2]
      by_cases h3 : isUp p = true
      · rw [if_pos h3, if_pos h3]; rfl
      · rw [if_neg h3, if_neg h3]
        by_cases h4 : (F.look (topT st) p).2 ≠ 0
        · rw [if_pos h4, if_pos h4]
        · rw [if_neg h4, if_neg h4]
          by_cases h5 : (F.stat (F.look (topT st) p).1).2 ≠ 0
          · rw [if_pos h5, if_pos h5]
          · rw [if_neg h5, if_neg h5]
            by_cases h6 : isLink f (F.stat (F.look (topT st) p).1).1 l = true
            · rw [if_pos h6, if_pos h6]
              cases k with
              | zero => rfl
              | succ k =>
                dsimp only
                by_cases h7 : (F.tells (F.look (topT st) p).1).2 ≠ 0
                · rw [if_pos h7, if_pos h7]
                · rw [if_neg h7, if_neg h7]
                  by_cases h8 : (splitT (F.tells (F.look (topT st) p).1).1.data.toList).2.2 ≠ 0
                  · rw [if_pos h8, if_pos h8]
                  · rw [if_neg h8, if_neg h8]
            · rw [if_neg h6, if_neg h6]
              by_cases h7 : inoOk (F.look (topT st) p).1 = true
              · rw [if_pos h7, if_pos h7]; rfl
              · rw [if_neg h7, if_neg h7]
/-- what a step hands on: no more links than there were; more pieces only for a link -/
theorem stepT_less {F : Fs} {c : C} {f : Bool} {k : Nat} {st : List Int} {p : ByteArray} {l : List ByteArray} {k' : Nat} {st' : List Int} {more : List ByteArray} (h : stepT F c f k st p l = .on k' st' more) :
    (k' = k ∧ more = []) ∨ (k = k' + 1 ∧ more.length ≤ 32) := by
  unfold stepT at h
  split at h
  · cases h
  · split at h
    · cases h; exact .inl ⟨rfl, rfl⟩
    · split at h
      · cases h; exact .inl ⟨rfl, rfl⟩
      · split at h
        · cases h
        · split at h
          · cases h
          · split at h
            · cases k with
              | zero => cases h
              | succ k =>
                dsimp only at h
                split at h
                · cases h
                · split at h
                  · cases h
                  · cases h
                    exact .inr ⟨rfl, splitT_len (s := (F.tells (F.look (topT st) p).1).1.data.toList) rfl⟩
            · split at h
              · cases h; exact .inl ⟨rfl, rfl⟩
              · cases h
/-- the pieces behind are looked at only by 'follow' -/
theorem stepT_true {F : Fs} {c : C} {k : Nat} {st : List Int} {p : ByteArray} {l l' : List ByteArray} : stepT F c true k st p l = stepT F c true k st p l' := by
  unfold stepT isLink
  simp only [Bool.true_or]
/-- with more links at hand: the same, or too many links -/
theorem stepT_links {F : Fs} {c : C} {f : Bool} {k : Nat} (j : Nat) {st : List Int} {p : ByteArray} {l : List ByteArray} : (∃ n, stepT F c f k st p l = .err 14 n) ∨ (∃ e n m, stepT F c f k st p l = .err e n ∧ stepT F c f (k + j) st p l = .err e m) ∨
    (∃ n st' more, stepT F c f k st p l = .on n st' more ∧ stepT F c f (k + j) st p l = .on (n + j) st' more) := by
  unfold stepT
  by_cases h1 : mayT F c (topT st) ≠ 0
  · simp only [if_pos h1]; exact .inr (.inl ⟨_, _, _, rfl, rfl⟩)
  · simp only [if_neg h1]
    by_cases h2 : isDot p = true
    · simp only [if_pos h2]; exact .inr (.inr ⟨_, _, _, rfl, rfl⟩)
    · simp only [if_neg h2]
      by_cases h3 : isUp p = true
      · simp only [if_pos h3]; exact .inr (.inr ⟨_, _, _, rfl, rfl⟩)
      · simp only [if_neg h3]
        by_cases h4 : (F.look (topT st) p).2 ≠ 0
        · simp only [if_pos h4]; exact .inr (.inl ⟨_, _, _, rfl, rfl⟩)
        · simp only [if_neg h4]
          by_cases h5 : (F.stat (F.look (topT st) p).1).2 ≠ 0
          · simp only [if_pos h5]; exact .inr (.inl ⟨_, _, _, rfl, rfl⟩)
          · simp only [if_neg h5]
            by_cases h6 : isLink f (F.stat (F.look (topT st) p).1).1 l = true
            · simp only [if_pos h6]
              cases k with
              | zero => exact .inl ⟨_, rfl⟩
              | succ k =>
                rw [show k + 1 + j = (k + j) + 1 by omega]
                dsimp only
                by_cases h7 : (F.tells (F.look (topT st) p).1).2 ≠ 0
                · simp only [if_pos h7]; exact .inr (.inl ⟨_, _, _, rfl, rfl⟩)
                · simp only [if_neg h7]
                  by_cases h8 : (splitT (F.tells (F.look (topT st) p).1).1.data.toList).2.2 ≠ 0
                  · simp only [if_pos h8]; exact .inr (.inl ⟨_, _, _, rfl, rfl⟩)
                  · simp only [if_neg h8]; exact .inr (.inr ⟨_, _, _, rfl, rfl⟩)
            · simp only [if_neg h6]
              by_cases h7 : inoOk (F.look (topT st) p).1 = true
              · simp only [if_pos h7]; exact .inr (.inr ⟨_, _, _, rfl, rfl⟩)
              · simp only [if_neg h7]; exact .inr (.inl ⟨_, _, _, rfl, rfl⟩)
/-- a way to a way is a way -/
theorem walkT_append (F : Fs) (c : C) (b : List ByteArray) (k : Nat) (st : List Int) (a : List ByteArray) :
    walkT F c true k st (a ++ b) = if (walkT F c true k st a).1 = 0 then walkT F c true (walkT F c true k st a).2.2 (walkT F c true k st a).2.1 b else walkT F c true k st a := by
  match a with
  | [] => rw [List.nil_append, walkT_nil]; rfl
  | p :: l =>
    rw [List.cons_append, walkT_cons, walkT_cons, stepT_true (l := l ++ b) (l' := l)]
    cases h : stepT F c true k st p l with
    | err e n =>
      dsimp only
      by_cases h0 : e = 0
      · exfalso
        subst h0
        unfold stepT at h
        split at h
        · rename_i h1; injection h with h; exact h1 h
        · split at h
          · cases h
          · split at h
            · cases h
            · split at h
              · rename_i h1; injection h with h; exact h1 h
              · split at h
                · rename_i h1; injection h with h; exact h1 h
                · split at h
                  · cases k with
                    | zero => cases h
                    | succ k =>
                      dsimp only at h
                      split at h
                      · rename_i h1; injection h with h; exact h1 h
                      · split at h
                        · rename_i h1; injection h with h; exact h1 h
                        · cases h
                  · split at h <;> cases h
      · rw [if_neg h0]
    | on n st' more =>
      dsimp only
      rw [← List.append_assoc]
      have hd := stepT_less h
      exact walkT_append F c b n st' (more ++ l)
  termination_by (k, a.length)
  decreasing_by
    rcases hd with ⟨rfl, rfl⟩ | ⟨hk, _⟩
    · exact Prod.Lex.right _ (by simp)
    · exact Prod.Lex.left _ _ (by omega)
/-- with more links at hand: the same, or too many links -/
theorem walkT_links (F : Fs) (c : C) (f : Bool) (j k : Nat) (st : List Int) (a : List ByteArray) : (walkT F c f k st a).1 = 14 ∨ ((walkT F c f (k + j) st a).1 = (walkT F c f k st a).1 ∧ (walkT F c f (k + j) st a).2.1 = (walkT F c f k st a).2.1) := by
  match a with
  | [] => rw [walkT_nil, walkT_nil]; exact .inr ⟨rfl, rfl⟩
  | p :: l =>
    rw [walkT_cons, walkT_cons]
    rcases stepT_links (F := F) (c := c) (f := f) (k := k) j (st := st) (p := p) (l := l) with ⟨n, h⟩ | ⟨e, n, m, h1, h2⟩ | ⟨n, st', more, h1, h2⟩
    · rw [h]; exact .inl rfl
    · rw [h1, h2]; exact .inr ⟨rfl, rfl⟩
    · rw [h1, h2]
      have hd := stepT_less h1
      exact walkT_links F c f j n st' (more ++ l)
  termination_by (k, a.length)
  decreasing_by
    rcases hd with ⟨rfl, rfl⟩ | ⟨hk, _⟩
    · exact Prod.Lex.right _ (by simp)
    · exact Prod.Lex.left _ _ (by omega)
/-! ### dots put in -/
def dot : ByteArray := mk [46]
inductive Ins : Bool → List ByteArray → List ByteArray → Prop
  | nil (t : Bool) : Ins t [] []
  | keep {t : Bool} {a b : List ByteArray} (p : ByteArray) : Ins t a b → Ins t (p :: a) (p :: b)
  | dot {t : Bool} {p : ByteArray} {a b : List ByteArray} : Ins t (p :: a) b → Ins t (p :: a) (dot :: b)
  | tail {b : List ByteArray} : Ins true [] b → Ins true [] (PathLaw.dot :: b)
theorem Ins.append {t : Bool} {a b : List ByteArray} (h : Ins t a b) : ∀ m : List ByteArray, Ins t (m ++ a) (m ++ b)
  | [] => h
  | p :: m => .keep p (Ins.append h m)
theorem step_dot {F : Fs} {c : C} {f : Bool} {k : Nat} {st : List Int} {l : List ByteArray} : stepT F c f k st dot l = if mayT F c (topT st) ≠ 0 then .err (mayT F c (topT st)) k else .on k st [] := by
  unfold stepT
  by_cases h : mayT F c (topT st) ≠ 0
  · rw [if_pos h, if_pos h]
  · rw [if_neg h, if_neg h, if_pos (by rfl)]
theorem step_may {F : Fs} {c : C} {f : Bool} {k : Nat} {st : List Int} {p : ByteArray} {l : List ByteArray} (h : mayT F c (topT st) ≠ 0) : stepT F c f k st p l = .err (mayT F c (topT st)) k := by
  unfold stepT
  rw [if_pos h]
theorem ins_tail {F : Fs} {c : C} {k : Nat} {st : List Int} : ∀ {a b : List ByteArray} {t : Bool}, Ins t a b → a = [] → walkT F c true k st b = (0, st, k) ∨ (t = true ∧ (walkT F c true k st b).1 ≠ 0)
  | _, _, _, .nil _, _ => .inl (walkT_nil ..)
  | _, _, _, .keep _ _, h => by cases h
  | _, _, _, .dot _, h => by cases h
  | _, _, _, .tail hb, _ => by
    rw [walkT_cons, step_dot]
    by_cases h : mayT F c (topT st) ≠ 0
    · rw [if_pos h]; exact .inr ⟨rfl, h⟩
    · rw [if_neg h]; exact ins_tail hb rfl
/-- dots that are put in change nothing -/
theorem walkT_ins (F : Fs) (c : C) {t : Bool} (k : Nat) (st : List Int) (a b : List ByteArray) (h : Ins t a b) (h0 : (walkT F c true k st a).1 = 0) : walkT F c true k st b = walkT F c true k st a ∨ (t = true ∧ (walkT F c true k st b).1 ≠ 0) := by
  match a, b, h with
  | [], b, h =>
    rw [walkT_nil]
    exact ins_tail h rfl
  | p :: a, _, .dot hb =>
    have hm : ¬ mayT F c (topT st) ≠ 0 := fun hm => by rw [walkT_cons, step_may hm] at h0; exact hm h0
    rw [walkT_cons (p := dot), step_dot, if_neg hm]
    exact walkT_ins F c k st (p :: a) _ hb h0
  | p :: a, _ :: b, .keep _ hb =>
    rw [walkT_cons] at h0 ⊢
    rw [walkT_cons, stepT_true (l := b) (l' := a)]
    cases hs : stepT F c true k st p a with
    | err e n => exact .inl rfl
    | on n st' more =>
      rw [hs] at h0
      have hd := stepT_less hs
      exact walkT_ins F c n st' (more ++ a) (more ++ b) (hb.append more) h0
  termination_by (k, a.length + b.length)
  decreasing_by
    · exact Prod.Lex.right _ (by simp)
    · rcases hd with ⟨rfl, rfl⟩ | ⟨hk, _⟩
      · exact Prod.Lex.right _ (by simp; omega)
      · exact Prod.Lex.left _ _ (by omega)
theorem ins_inter : ∀ ps : List (List UInt8), Ins true (full ps) (full (inter ps))
  | [] => .nil _
  | [p] => by
    show Ins true (full [p]) (full [p])
    generalize full [p] = l
    induction l with
    | nil => exact .nil _
    | cons x l ih => exact .keep _ ih
  | p :: q :: r => by
    have ih := ins_inter (q :: r)
    have e1 : full (p :: q :: r) = full [p] ++ full (q :: r) := full_append [p] (q :: r)
    have e2 : full (inter (p :: q :: r)) = full [p] ++ dot :: full (inter (q :: r)) := by
      show full (p :: [] :: [46] :: inter (q :: r)) = _
      rw [show p :: [] :: [46] :: inter (q :: r) = [p] ++ ([] :: [46] :: inter (q :: r)) from rfl, full_append]
      rfl
    rw [e1, e2]
    refine Ins.append ?_ _
    cases hq : full (q :: r) with
    | nil => rw [hq] at ih; exact .tail ih
    | cons x l => rw [hq] at ih; exact .dot ih
theorem full_last : ∀ {ps : List (List UInt8)}, (∃ q, ps.getLast? = some q ∧ q ≠ []) → full ps ≠ []
  | ps, ⟨q, h1, h2⟩ => by
    have : q ∈ ps.filter (fun p => !p.isEmpty) := List.mem_filter.2 ⟨List.mem_of_getLast? h1, by cases q <;> simp at h2 ⊢⟩
    unfold full
    intro h
    rw [List.map_eq_nil_iff] at h
    rw [h] at this
    simp at this
theorem ins_inter2 : ∀ ps : List (List UInt8), (∃ q, ps.getLast? = some q ∧ q ≠ []) → Ins false (full ps) (full (inter ps))
  | [], h => .nil _
  | [p], h => by
    show Ins false (full [p]) (full [p])
    generalize full [p] = l
    induction l with
    | nil => exact .nil _
    | cons x l ih => exact .keep _ ih
  | p :: q :: r, h => by
    have h' : ∃ x, (q :: r).getLast? = some x ∧ x ≠ [] := by
      obtain ⟨x, h1, h2⟩ := h
      rw [List.getLast?_cons_cons] at h1
      exact ⟨x, h1, h2⟩
    have ih := ins_inter2 (q :: r) h'
    have hne := full_last h'
    have e1 : full (p :: q :: r) = full [p] ++ full (q :: r) := full_append [p] (q :: r)
    have e2 : full (inter (p :: q :: r)) = full [p] ++ dot :: full (inter (q :: r)) := by
      show full (p :: [] :: [46] :: inter (q :: r)) = _
      rw [show p :: [] :: [46] :: inter (q :: r) = [p] ++ ([] :: [46] :: inter (q :: r)) from rfl, full_append]
      rfl
    rw [e1, e2]
    refine Ins.append ?_ _
    cases hq : full (q :: r) with
    | nil => exact absurd hq hne
    | cons x l => rw [hq] at ih; exact .dot ih
theorem parts_last : ∀ {s : List UInt8}, s ≠ [] → Lib.hasSuffix s [47] = false → ∃ q, (parts s).getLast? = some q ∧ q ≠ []
  | [], h, _ => absurd rfl h
  | [c], _, hs => by
    by_cases h : c = 47
    · subst h; exact absurd hs (by decide)
    · obtain ⟨p, ps, h1, h2⟩ := parts_cons (r := []) h
      rw [h2]
      simp [parts] at h1
      obtain ⟨rfl, rfl⟩ := h1
      exact ⟨[c], rfl, by simp⟩
  | c :: d :: r, _, hs => by
    have hs' : Lib.hasSuffix (d :: r) [47] = false := by
      unfold Lib.hasSuffix at hs ⊢
      rw [Bool.eq_false_iff] at hs ⊢
      intro hh
      apply hs
      rw [List.isSuffixOf_iff_suffix] at hh ⊢
      exact hh.trans (List.suffix_cons _ _)
    obtain ⟨q, h1, h2⟩ := parts_last (s := d :: r) (by simp) hs'
    by_cases h : c = 47
    · subst h
      rw [parts_slash]
      obtain ⟨p, ps, hp⟩ := List.exists_cons_of_ne_nil (parts_ne (d :: r))
      rw [hp] at h1 ⊢
      exact ⟨q, by rw [List.getLast?_cons_cons]; exact h1, h2⟩
    · obtain ⟨p, ps, h3, h4⟩ := parts_cons (r := d :: r) h
      rw [h4]
      rw [h3] at h1
      cases ps with
      | nil => exact ⟨c :: p, rfl, by simp⟩
      | cons x y =>
        rw [List.getLast?_cons_cons] at h1 ⊢
        exact ⟨q, h1, h2⟩
end Go.Proofs.YtjkephmfpoekgaaDoor.PathLaw
